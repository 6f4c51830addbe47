import Derived.Test.YtlkjeneffohnkaaDoorRs
import Derived.Test.YtlkjeneffohnkaaDoorMk
import Derived.Test.YtlkjeneffohnkaaDoorShelf
set_option linter.unusedVariables false
set_option linter.unusedSimpArgs false
namespace Go.Proofs.YtlkjeneffohnkaaDoor
open Go.RowKit Go.Proofs Go.Proofs.Plan Go.Proofs.YtlkjeneffohnkaaDoorW.PrintWords
theorem cmp_lt : ∀ a b : List UInt8, (Lib.compareBytes a b < 0) ↔ Op.bytesLess a b = true
  | [], [] => by simp [Lib.compareBytes, Op.bytesLess]
  | [], _ :: _ => by simp [Lib.compareBytes, Op.bytesLess]
  | _ :: _, [] => by simp [Lib.compareBytes, Op.bytesLess]
  | a :: la, b :: bs => by
    simp only [Lib.compareBytes, Op.bytesLess, Bool.or_eq_true, decide_eq_true_eq, Bool.and_eq_true, beq_iff_eq]
    by_cases h1 : a < b
    · simp [h1]
    · rw [if_neg h1]
      by_cases h2 : b < a
      · rw [if_pos h2]
        have : a ≠ b := by rintro rfl; exact UInt8.lt_irrefl _ h2
        simp [h1, this]
      · rw [if_neg h2, cmp_lt la bs]
        have : a = b := UInt8.le_antisymm (UInt8.not_lt.1 h2) (UInt8.not_lt.1 h1)
        simp [h1, this]
theorem cmp_eq0 : ∀ a b : List UInt8, (Lib.compareBytes a b = 0) ↔ a = b
  | [], [] => by simp [Lib.compareBytes]
  | [], _ :: _ => by simp [Lib.compareBytes]
  | _ :: _, [] => by simp [Lib.compareBytes]
  | a :: la, b :: bs => by
    simp only [Lib.compareBytes, List.cons.injEq]
    by_cases h1 : a < b
    · have : a ≠ b := by rintro rfl; exact UInt8.lt_irrefl _ h1
      simp [h1, this]
    · rw [if_neg h1]
      by_cases h2 : b < a
      · have : a ≠ b := by rintro rfl; exact UInt8.lt_irrefl _ h2
        simp [h2, this]
      · rw [if_neg h2, cmp_eq0 la bs]
        have : a = b := UInt8.le_antisymm (UInt8.not_lt.1 h2) (UInt8.not_lt.1 h1)
        simp [this]
def cmpB (a b : Bs) : Int := Lib.compareBytes a.data.toList b.data.toList
theorem cmpB_lt (a b : Bs) : cmpB a b < 0 ↔ blt a b = true := by unfold cmpB blt; rw [cmp_lt, Lib.toList_data, Lib.toList_data]
theorem cmpB_eq (a b : Bs) : cmpB a b = 0 ↔ a = b := by
  unfold cmpB; rw [cmp_eq0]
  exact ⟨fun h => ByteArray.ext (Array.toList_inj.1 h), fun h => by rw [h]⟩
set_option maxHeartbeats 1000000 in
set_option maxRecDepth 100000 in
theorem find_1 (x : Pr) (key : Bs) (r : Int) (hr : cmpB x.key key = r) (W : World) :
    Calls Tryd.prog 134 #[.agg #[.string x.key, .string x.val], .string key] W fun e w' => e = .returned (.int .i64 r) ∧ Below W.heap.size W w' := by
  have HR := Lib.hid hr
  clear hr
  go_enter Tryd.func134, Tryd.ntmps134
  go_wp2_with (go_at_call 135; refine (Tryd.strings_Compare x.key key _).mono ?_; rintro e w2 ⟨rfl, rfl⟩; rw [show Lib.compareBytes x.key.data.toList key.data.toList = r from HR.out])
  go_ret
  exact ⟨rfl, below_alloc (Below.refl _ _) _⟩
set_option maxHeartbeats 1000000 in
set_option maxRecDepth 100000 in
theorem slices_Search (key : Bs) (A : Option Addr) (n c : Nat) (xs : List Pr) (w : World) (hn : n ≤ 1073741824) (hr : rising xs = true) (h : kP.C w A n xs) :
    Calls Tryd.prog 133 #[.slice A n c, .string key, .func (.func 134) #[] #[]] w fun e w' => e = .returned (ptup (place xs key) (isAt xs (place xs key) key)) ∧ Below w.heap.size w w' := by
  have hl := h.1
  obtain ⟨k, hk⟩ : ∃ k, k = place xs key := ⟨_, rfl⟩
  have hkn : k ≤ n := by rw [hk, ← hl]; exact place_le xs key
  have hlow : ∀ i, i < k → cmpB (xs.getD i dP).key key < 0 := fun i hi => by rw [cmpB_lt]; exact place_below i (by rw [← hk]; exact hi)
  have hhigh : ∀ i, k ≤ i → i < n → ¬ cmpB (xs.getD i dP).key key < 0 := fun i hi hin => by
    rw [cmpB_lt]
    rcases Nat.lt_or_ge k i with hlt | hge
    · rw [place_above hr i (by rw [← hk]; exact hlt) (by rw [hl]; exact hin)]; decide
    · obtain rfl : i = k := by omega
      subst hk
      rw [place_at (by rw [hl]; exact hin)]; decide
  have hat : isAt xs k key = (decide (k < n) && decide (cmpB (xs.getD k dP).key key = 0)) := by
    unfold isAt; rw [hl, decide_eq_decide.2 (cmpB_eq _ _)]
  have hpt : ptup (place xs key) (isAt xs (place xs key) key) = ptup k (isAt xs k key) := by rw [← hk]
  have HPT := Lib.hid hpt
  have HAT := Lib.hid hat
  have H1 := Lib.hid hlow
  have H2 := Lib.hid hhigh
  have HH := Lib.hid h
  clear hk hlow hhigh hat hpt h hr hl
  go_enter Tryd.func133, Tryd.ntmps133
  go_wp2
  go_loopg [9, 10] n (fun kx s5 s6 wr => ∃ lo hi : Nat, s5 = .int .i64 lo ∧ s6 = .int .i64 hi ∧ lo ≤ k ∧ k ≤ hi ∧ hi ≤ n ∧ hi - lo ≤ kx ∧ Below w.heap.size w wr)
  case atStart => exact ⟨0, n, rfl, rfl, Nat.zero_le _, hkn, Nat.le_refl _, by omega, Below.refl _ _⟩
  case round =>
    obtain ⟨lo, hi, rfl, rfl, hlo, hhi, hin, hg, hb⟩ := hrel
    by_cases hlt : lo < hi
    · obtain ⟨m, hm⟩ : ∃ m, m = (lo + hi) / 2 := ⟨_, rfl⟩
      have em : ((lo : Int) + (hi : Int)) / 2 = (m : Int) := by omega
      have hmn : m < n := by omega
      have hml : lo ≤ m ∧ m < hi := by omega
      obtain ⟨ad, rfl, hat⟩ := kP_get HH.out m hmn
      have hlm := H1.out m
      have hhm := H2.out m
      obtain ⟨x, hx⟩ : ∃ x, x = xs.getD m dP := ⟨_, rfl⟩
      rw [← hx] at hat hlm hhm
      have hat' : World.at_ wr (ad.add (m * 2)) [.string x.key, .string x.val] := at_below hb hat
      obtain ⟨r, hr⟩ : ∃ r, cmpB x.key key = r := ⟨_, rfl⟩
      rw [hr] at hlm hhm
      have HR := Lib.hid hr
      have HLM := Lib.hid hlm
      have HHM := Lib.hid hhm
      have HML := Lib.hid hml
      clear hx hat hr hm hlm hhm hml
      by_cases hrn : r < 0
      · go_wp2_with (first
          | (refine l_load rfl rfl rfl hat' Tryd.underlying60 rfl Tryd.info60 ?_)
          | (go_at_call 134; refine (find_1 x key r HR.out _).mono ?_; rintro e w2 ⟨rfl, hw2⟩))
        go_roundg (hi - (m + 1))
        case measure => have := HML.out; omega
        case rel =>
          have := HML.out
          have hmk : m < k := by
            rcases Nat.lt_or_ge m k with h | h
            · exact h
            · exact absurd (HHM.out h hmn) (by omega)
          exact ⟨m + 1, hi, by go_num, rfl, by omega, by omega, by omega, by omega, below_next hb hw2⟩
      · go_wp2_with (first
          | (refine l_load rfl rfl rfl hat' Tryd.underlying60 rfl Tryd.info60 ?_)
          | (go_at_call 134; refine (find_1 x key r HR.out _).mono ?_; rintro e w2 ⟨rfl, hw2⟩))
        go_roundg (m - lo)
        case measure => have := HML.out; omega
        case rel =>
          have := HML.out
          have hmk : k ≤ m := by
            rcases Nat.lt_or_ge m k with h | h
            · have := HLM.out h; omega
            · exact h
          exact ⟨lo, m, rfl, rfl, by omega, by omega, by omega, by omega, below_next hb hw2⟩
    · have hlh : lo = hi := by omega
      subst hlh
      have hkl : lo = k := by omega
      subst hkl
      by_cases hkn' : lo < n
      · obtain ⟨ad, rfl, hat⟩ := kP_get HH.out lo hkn'
        have ha := HAT.out
        obtain ⟨x, hx⟩ : ∃ x, x = xs.getD lo dP := ⟨_, rfl⟩
        rw [← hx, decide_eq_true hkn', Bool.true_and] at ha
        rw [← hx] at hat
        have hat' : World.at_ wr (ad.add (lo * 2)) [.string x.key, .string x.val] := at_below hb hat
        obtain ⟨r, hr⟩ : ∃ r, cmpB x.key key = r := ⟨_, rfl⟩
        rw [hr] at ha
        have HR := Lib.hid hr
        cases hb0 : decide (r = 0)
        all_goals
          rw [hb0] at ha
          have HA := Lib.hid ha
          have e0 : (r == 0) = decide (r = 0) := rfl
          rw [hb0] at e0
          clear hx hat hr ha hb0
        · go_wp2_with (first
            | (refine lg_load rfl rfl rfl hat' Tryd.underlying60 rfl Tryd.info60 ?_)
            | (go_at_call 134; refine (find_1 x key r HR.out _).mono ?_; rintro e w2 ⟨rfl, hw2⟩))
          go_ret2
          exact ⟨by rw [HPT.out, HA.out]; rfl, below_next hb hw2⟩
        · go_wp2_with (first
            | (refine lg_load rfl rfl rfl hat' Tryd.underlying60 rfl Tryd.info60 ?_)
            | (go_at_call 134; refine (find_1 x key r HR.out _).mono ?_; rintro e w2 ⟨rfl, hw2⟩))
          go_ret2
          exact ⟨by rw [HPT.out, HA.out]; rfl, below_next hb hw2⟩
      · have ha := HAT.out
        rw [decide_eq_false hkn', Bool.false_and] at ha
        have HA := Lib.hid ha
        clear ha
        go_wp2
        go_ret2
        exact ⟨by rw [HPT.out, HA.out]; rfl, hb⟩
set_option maxHeartbeats 1000000 in
set_option maxRecDepth 100000 in
theorem store_find (key : Bs) (gs : Nat) (A : Option Addr) (n c : Nat) (xs : List Pr) (w : World) (hn : n ≤ 1073741824) (hr : rising xs = true) (hs : w.cell? ⟨gs, 0, none⟩ = some (.slice A n c)) (h : kP.C w A n xs) :
    Calls Tryd.prog 98 #[.pointer (some ⟨gs, 0, none⟩), .string key] w fun e w' => e = .returned (ptup (place xs key) (isAt xs (place xs key) key)) ∧ Below w.heap.size w w' := by
  have hcon := slices_Search key A n c xs w hn hr h
  generalize place xs key = k at *
  generalize isAt xs k key = b at *
  have HC := Lib.hid hcon
  clear hcon h hr
  go_enter Tryd.func98, Tryd.ntmps98
  go_wp2_with (go_at_call 133; refine HC.out.mono ?_; rintro e w2 ⟨rfl, hw2⟩; simp only [ptup])
  go_ret2
  exact ⟨rfl, hw2⟩
end Go.Proofs.YtlkjeneffohnkaaDoor
