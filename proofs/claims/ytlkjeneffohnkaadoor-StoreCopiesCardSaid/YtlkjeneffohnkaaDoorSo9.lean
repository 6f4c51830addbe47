import Derived.Test.YtlkjeneffohnkaaDoorSo8
set_option linter.unusedVariables false
set_option linter.unusedSimpArgs false
namespace Go.Proofs.YtlkjeneffohnkaaDoor
open Go.RowKit Go.Proofs Go.Proofs.Plan Go.Proofs.YtlkjeneffohnkaaDoorW.PrintWords
/-! what is done to a store -/
structure Ac where
  kind : Int
  key : Bs
  val : Bs
def ac (x : Ac) : List Value := [.int .i64 x.kind, .string x.key, .string x.val]
def dA : Ac := ⟨0, ByteArray.empty, ByteArray.empty⟩
def kA : Kd Ac where
  sz := 3
  E := []
  K := fun _ p cs => cs = ac p
  M := fun _ _ _ p cs => cs = ac p
  K_len := fun h => by rw [h]; rfl
  K_one := fun h u hu => by
    rw [h] at hu
    simp only [ac, List.mem_cons, List.not_mem_nil, or_false] at hu
    rcases hu with rfl | rfl | rfl <;> rfl
  K_below := fun _ h => h
  K_of_M := fun h => h
  M_mono := fun _ h => h
  M_bound := fun h => h
  M_move := fun _ h => h
  M_lower := fun _ h => h
theorem kA_at {w : World} {A : Option Addr} {n : Nat} {xs : List Ac} (h : kA.C w A n xs) (i : Nat) (hi : i < n) : ∃ ad, A = some ad ∧ w.cell? (ad.add (i * 3)) = some (.int .i64 (xs.getD i dA).kind) ∧
    w.cell? ⟨(ad.add (i * 3)).block, (ad.add (i * 3)).off + 1, none⟩ = some (.string (xs.getD i dA).key) ∧ w.cell? ⟨(ad.add (i * 3)).block, (ad.add (i * 3)).off + 2, none⟩ = some (.string (xs.getD i dA).val) := by
  obtain ⟨ad, c, e, hl, hk, hcell⟩ := Kd.C_get h dA (i : Int) (by omega) (by omega)
  rw [Int.toNat_natCast] at hk hcell
  obtain rfl : c = ac (xs.getD i dA) := hk
  refine ⟨ad, e, ?_, ?_, ?_⟩
  · exact hcell 0 _ rfl
  · rw [← add_field _ _ _ (by decide)]; exact hcell 1 _ rfl
  · rw [← add_field _ _ _ (by decide)]; exact hcell 2 _ rfl
def shortA (x : Ac) : Bool := decide (x.key.size ≤ 300) && decide (x.val.size ≤ 200)
def fewA (xs : List Ac) (many : Nat) : Bool := decide (xs.length ≤ many) && xs.all shortA
theorem aall_iff {xs : List Ac} {f : Ac → Bool} : xs.all f = true ↔ ∀ j, j < xs.length → f (xs.getD j dA) = true := by
  rw [List.all_eq_true]
  constructor
  · intro h j hj; rw [getD_lt xs dA hj]; exact h _ (List.getElem_mem hj)
  · intro h x hx
    obtain ⟨j, hj, rfl⟩ := List.mem_iff_getElem.1 hx
    have := h j hj
    rwa [getD_lt xs dA hj] at this
theorem aall_false {xs : List Ac} {f : Ac → Bool} {j : Nat} (hj : j < xs.length) (h : f (xs.getD j dA) = false) : xs.all f = false := by
  cases hg : xs.all f
  · rfl
  · rw [aall_iff.1 hg j hj] at h; cases h
set_option maxHeartbeats 1000000 in
set_option maxRecDepth 100000 in
theorem law12_Few30 (A : Option Addr) (n c : Nat) (xs : List Ac) (w : World) (h : kA.C w A n xs) :
    Calls Tryd.prog 44 #[.slice A n c, .int .i64 30] w fun e w' => e = .returned (.bool (fewA xs 30)) ∧ w = w' := by
  have HL := Lib.hid h.1
  have HM := h.2.1
  have HH := Lib.hid h
  clear h
  by_cases h40 : n ≤ 30
  · have hh : fewA xs 30 = xs.all shortA := by unfold fewA; rw [HL.out, decide_eq_true h40]; rfl
    have HX := Lib.hid hh
    clear hh
    go_enter Tryd.func44, Tryd.ntmps44
    go_wp2
    go_loopg [5] n (fun g i wr => ∃ k : Nat, k + g = n ∧ i = .int .i64 k ∧ (∀ j, j < k → shortA (xs.getD j dA) = true) ∧ w = wr)
    case atStart => exact ⟨0, by omega, rfl, fun j hj => by omega, rfl⟩
    case round =>
      obtain ⟨k, hk, rfl, hall, rfl⟩ := hrel
      have HA := Lib.hid hall
      clear hall
      by_cases hlt : k < n
      · obtain ⟨ad, rfl, q0, q1, q2⟩ := kA_at HH.out k hlt
        obtain ⟨x, hx⟩ : ∃ x, x = xs.getD k dA := ⟨_, rfl⟩
        rw [← hx] at q0 q1 q2
        have HXX := Lib.hid hx
        clear hx q0
        by_cases h1 : x.key.size ≤ 300
        · by_cases h2 : x.val.size ≤ 200
          · have hp : shortA x = true := by unfold shortA; rw [decide_eq_true h1, decide_eq_true h2]; rfl
            have HP := Lib.hid hp
            clear hp
            go_wp2
            go_roundg (gk - 1)
            case measure => omega
            case rel =>
              refine ⟨k + 1, by omega, by go_num, fun j hj => ?_, rfl⟩
              by_cases hjk : j < k
              · exact HA.out j hjk
              · obtain rfl : j = k := by omega
                rw [← HXX.out]; exact HP.out
          · have hp : shortA x = false := by unfold shortA; rw [decide_eq_false h2, Bool.and_false]
            have HP := Lib.hid hp
            clear hp
            go_wp2
            go_ret
            exact ⟨by rw [HX.out, aall_false (by rw [HL.out]; exact hlt) (by rw [← HXX.out]; exact HP.out)]; rfl, rfl⟩
        · have hp : shortA x = false := by unfold shortA; rw [decide_eq_false h1]; rfl
          have HP := Lib.hid hp
          clear hp
          go_wp2
          go_ret
          exact ⟨by rw [HX.out, aall_false (by rw [HL.out]; exact hlt) (by rw [← HXX.out]; exact HP.out)]; rfl, rfl⟩
      · obtain rfl : k = n := by omega
        have hg : xs.all shortA = true := aall_iff.2 (fun j hj => HA.out j (by rw [← HL.out]; exact hj))
        have HG := Lib.hid hg
        clear hg
        go_wp2
        go_ret
        exact ⟨by rw [HX.out, HG.out]; rfl, rfl⟩
  · have hh : fewA xs 30 = false := by unfold fewA; rw [HL.out, decide_eq_false h40]; rfl
    have HX := Lib.hid hh
    clear hh
    go_enter Tryd.func44, Tryd.ntmps44
    go_wp2
    go_ret
    exact ⟨by rw [HX.out]; rfl, rfl⟩
theorem law12_FewB30 (b : Bool) (A : Option Addr) (n c : Nat) (xs : List Ac) (hb : fewA xs 30 = b) (w : World) (h : kA.C w A n xs) :
    Calls Tryd.prog 44 #[.slice A n c, .int .i64 30] w fun e w' => e = .returned (.bool b) ∧ w = w' := by subst hb; exact law12_Few30 A n c xs w h
set_option maxHeartbeats 1000000 in
set_option maxRecDepth 100000 in
theorem law12_Few40 (A : Option Addr) (n c : Nat) (xs : List Ac) (w : World) (h : kA.C w A n xs) :
    Calls Tryd.prog 44 #[.slice A n c, .int .i64 40] w fun e w' => e = .returned (.bool (fewA xs 40)) ∧ w = w' := by
  have HL := Lib.hid h.1
  have HM := h.2.1
  have HH := Lib.hid h
  clear h
  by_cases h40 : n ≤ 40
  · have hh : fewA xs 40 = xs.all shortA := by unfold fewA; rw [HL.out, decide_eq_true h40]; rfl
    have HX := Lib.hid hh
    clear hh
    go_enter Tryd.func44, Tryd.ntmps44
    go_wp2
    go_loopg [5] n (fun g i wr => ∃ k : Nat, k + g = n ∧ i = .int .i64 k ∧ (∀ j, j < k → shortA (xs.getD j dA) = true) ∧ w = wr)
    case atStart => exact ⟨0, by omega, rfl, fun j hj => by omega, rfl⟩
    case round =>
      obtain ⟨k, hk, rfl, hall, rfl⟩ := hrel
      have HA := Lib.hid hall
      clear hall
      by_cases hlt : k < n
      · obtain ⟨ad, rfl, q0, q1, q2⟩ := kA_at HH.out k hlt
        obtain ⟨x, hx⟩ : ∃ x, x = xs.getD k dA := ⟨_, rfl⟩
        rw [← hx] at q0 q1 q2
        have HXX := Lib.hid hx
        clear hx q0
        by_cases h1 : x.key.size ≤ 300
        · by_cases h2 : x.val.size ≤ 200
          · have hp : shortA x = true := by unfold shortA; rw [decide_eq_true h1, decide_eq_true h2]; rfl
            have HP := Lib.hid hp
            clear hp
            go_wp2
            go_roundg (gk - 1)
            case measure => omega
            case rel =>
              refine ⟨k + 1, by omega, by go_num, fun j hj => ?_, rfl⟩
              by_cases hjk : j < k
              · exact HA.out j hjk
              · obtain rfl : j = k := by omega
                rw [← HXX.out]; exact HP.out
          · have hp : shortA x = false := by unfold shortA; rw [decide_eq_false h2, Bool.and_false]
            have HP := Lib.hid hp
            clear hp
            go_wp2
            go_ret
            exact ⟨by rw [HX.out, aall_false (by rw [HL.out]; exact hlt) (by rw [← HXX.out]; exact HP.out)]; rfl, rfl⟩
        · have hp : shortA x = false := by unfold shortA; rw [decide_eq_false h1]; rfl
          have HP := Lib.hid hp
          clear hp
          go_wp2
          go_ret
          exact ⟨by rw [HX.out, aall_false (by rw [HL.out]; exact hlt) (by rw [← HXX.out]; exact HP.out)]; rfl, rfl⟩
      · obtain rfl : k = n := by omega
        have hg : xs.all shortA = true := aall_iff.2 (fun j hj => HA.out j (by rw [← HL.out]; exact hj))
        have HG := Lib.hid hg
        clear hg
        go_wp2
        go_ret
        exact ⟨by rw [HX.out, HG.out]; rfl, rfl⟩
  · have hh : fewA xs 40 = false := by unfold fewA; rw [HL.out, decide_eq_false h40]; rfl
    have HX := Lib.hid hh
    clear hh
    go_enter Tryd.func44, Tryd.ntmps44
    go_wp2
    go_ret
    exact ⟨by rw [HX.out]; rfl, rfl⟩
theorem law12_FewB40 (b : Bool) (A : Option Addr) (n c : Nat) (xs : List Ac) (hb : fewA xs 40 = b) (w : World) (h : kA.C w A n xs) :
    Calls Tryd.prog 44 #[.slice A n c, .int .i64 40] w fun e w' => e = .returned (.bool b) ∧ w = w' := by subst hb; exact law12_Few40 A n c xs w h
/-! the law StoreProves -/
def act (xs : List Pr) (x : Ac) : List Pr := if x.kind = 1 then dropP xs x.key else setR xs x.key x.val
def acts (l : List Ac) : List Pr := l.foldl act []
theorem act_good {xs : List Pr} (h : good xs = true) (x : Ac) : good (act xs x) = true := by
  unfold act; split
  · exact dropP_good h _
  · exact setR_good h _ _
theorem act_length (xs : List Pr) (x : Ac) : (act xs x).length ≤ xs.length + 1 := by
  unfold act; split
  · have := dropP_length xs x.key; omega
  · exact setR_length xs _ _
theorem foldl_act_length (l : List Ac) : ∀ xs : List Pr, (l.foldl act xs).length ≤ xs.length + l.length := by
  induction l with
  | nil => intro xs; simp
  | cons a l ih => intro xs; have := ih (act xs a); have := act_length xs a; simp only [List.foldl_cons, List.length_cons]; omega
theorem acts_take_succ (l : List Ac) {k : Nat} (hk : k < l.length) : acts (l.take (k + 1)) = act (acts (l.take k)) (l.getD k dA) := by
  unfold acts; rw [List.take_succ_eq_append_getElem hk, getD_lt _ _ hk, List.foldl_append]; rfl
theorem acts_length (l : List Ac) : (acts l).length ≤ l.length := by have := foldl_act_length l []; simpa [acts] using this
/-- what the program says of any key -/
theorem asked {l : List Pr} (hg : good l = true) (hn : l.length ≤ 1073741824) (key : Bs) :
    ∃ v b, gtup (getP l key) = .tuple #[.string v, .bool b] ∧ has (rootOf l) (make l key) key v = b ∧ lacks (rootOf l) (make l key) key = !b := by
  cases hat : isAt l (place l key) key
  · obtain ⟨h1, h2⟩ := make_lacks hg hn key hat
    refine ⟨ByteArray.empty, false, by unfold getP; rw [if_neg (by rw [hat]; decide)]; rfl, by unfold has; rw [h1], by rw [h2]; rfl⟩
  · obtain ⟨h1, h2⟩ := make_shows hg hn key hat
    refine ⟨_, true, by unfold getP; rw [if_pos hat]; rfl, by unfold has; rw [h1]; simp, by rw [h2]; rfl⟩
end Go.Proofs.YtlkjeneffohnkaaDoor
