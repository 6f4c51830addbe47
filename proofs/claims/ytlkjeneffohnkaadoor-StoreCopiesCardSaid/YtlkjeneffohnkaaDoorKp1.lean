import Derived.Test.YtlkjeneffohnkaaDoorKd
set_option linter.unusedVariables false
set_option linter.unusedSimpArgs false
namespace Go.Proofs.YtlkjeneffohnkaaDoor
open Go.RowKit Go.Proofs Go.Proofs.Plan Go.Proofs.YtlkjeneffohnkaaDoorW.PrintWords
def lightP (x : Pr) : Bool := decide (x.key.size ≤ 300) && decide (x.val.size ≤ 200)
def light (xs : List Pr) : Bool := decide (xs.length ≤ 40) && xs.all lightP
theorem pall_iff {xs : List Pr} {f : Pr → Bool} : xs.all f = true ↔ ∀ j, j < xs.length → f (xs.getD j dP) = true := by
  rw [List.all_eq_true]
  constructor
  · intro h j hj; rw [getD_lt xs dP hj]; exact h _ (List.getElem_mem hj)
  · intro h x hx
    obtain ⟨j, hj, rfl⟩ := List.mem_iff_getElem.1 hx
    have := h j hj
    rwa [getD_lt xs dP hj] at this
theorem pall_false {xs : List Pr} {f : Pr → Bool} {j : Nat} (hj : j < xs.length) (h : f (xs.getD j dP) = false) : xs.all f = false := by
  cases hg : xs.all f
  · rfl
  · rw [pall_iff.1 hg j hj] at h; cases h
/-- element i of a list of pairs: its two cells -/
theorem kP_at {w : World} {A : Option Addr} {n : Nat} {xs : List Pr} (h : kP.C w A n xs) (i : Nat) (hi : i < n) : ∃ ad, A = some ad ∧ w.cell? (ad.add (i * 2)) = some (.string (xs.getD i dP).key) ∧ w.cell? ⟨(ad.add (i * 2)).block, (ad.add (i * 2)).off + 1, none⟩ = some (.string (xs.getD i dP).val) := by
  obtain ⟨ad, e, hat⟩ := kP_get h i hi
  exact ⟨ad, e, at_cell hat 0 rfl, at_cell hat 1 rfl⟩
set_option maxHeartbeats 1000000 in
set_option maxRecDepth 100000 in
theorem keep_LightPairs (A : Option Addr) (n c : Nat) (xs : List Pr) (w : World) (h : kP.C w A n xs) :
    Calls Tryd.prog 13 #[.slice A n c] w fun e w' => e = .returned (.bool (light xs)) ∧ w = w' := by
  have HL := Lib.hid h.1
  have HM := h.2.1
  have HH := Lib.hid h
  clear h
  by_cases h40 : n ≤ 40
  · have hh : light xs = xs.all lightP := by unfold light; rw [HL.out, decide_eq_true h40]; rfl
    have HX := Lib.hid hh
    clear hh
    go_enter Tryd.func13, Tryd.ntmps13
    go_wp2
    go_loopg [3] n (fun g i wr => ∃ k : Nat, k + g = n ∧ i = .int .i64 k ∧ (∀ j, j < k → lightP (xs.getD j dP) = true) ∧ w = wr)
    case atStart => exact ⟨0, by omega, rfl, fun j hj => by omega, rfl⟩
    case round =>
      obtain ⟨k, hk, rfl, hall, rfl⟩ := hrel
      have HA := Lib.hid hall
      clear hall
      by_cases hlt : k < n
      · obtain ⟨ad, rfl, q0, q1⟩ := kP_at HH.out k hlt
        obtain ⟨x, hx⟩ : ∃ x, x = xs.getD k dP := ⟨_, rfl⟩
        rw [← hx] at q0 q1
        have HXX := Lib.hid hx
        clear hx
        by_cases h1 : x.key.size ≤ 300
        · by_cases h2 : x.val.size ≤ 200
          · have hp : lightP x = true := by unfold lightP; rw [decide_eq_true h1, decide_eq_true h2]; rfl
            have HP := Lib.hid hp
            clear hp
            go_wp2
            go_roundg (gk - 1)
            case measure => omega
            case rel =>
              refine ⟨k + 1, by omega, by go_num, fun j hj => ?_, rfl⟩
              by_cases hjk : j < k
              · exact HA.out j hjk
              · obtain rfl : j = k := by omega
                rw [← HXX.out]; exact HP.out
          · have hp : lightP x = false := by unfold lightP; rw [decide_eq_false h2, Bool.and_false]
            have HP := Lib.hid hp
            clear hp
            go_wp2
            go_ret
            exact ⟨by rw [HX.out, pall_false (by rw [HL.out]; exact hlt) (by rw [← HXX.out]; exact HP.out)]; rfl, rfl⟩
        · have hp : lightP x = false := by unfold lightP; rw [decide_eq_false h1]; rfl
          have HP := Lib.hid hp
          clear hp
          go_wp2
          go_ret
          exact ⟨by rw [HX.out, pall_false (by rw [HL.out]; exact hlt) (by rw [← HXX.out]; exact HP.out)]; rfl, rfl⟩
      · obtain rfl : k = n := by omega
        have hg : xs.all lightP = true := pall_iff.2 (fun j hj => HA.out j (by rw [← HL.out]; exact hj))
        have HG := Lib.hid hg
        clear hg
        go_wp2
        go_ret
        exact ⟨by rw [HX.out, HG.out]; rfl, rfl⟩
  · have hh : light xs = false := by unfold light; rw [HL.out, decide_eq_false h40]; rfl
    have HX := Lib.hid hh
    clear hh
    go_enter Tryd.func13, Tryd.ntmps13
    go_wp2
    go_ret
    exact ⟨by rw [HX.out]; rfl, rfl⟩
theorem keep_LightPairsB (b : Bool) (A : Option Addr) (n c : Nat) (xs : List Pr) (hb : light xs = b) (w : World) (h : kP.C w A n xs) :
    Calls Tryd.prog 13 #[.slice A n c] w fun e w' => e = .returned (.bool b) ∧ w = w' := by subst hb; exact keep_LightPairs A n c xs w h
set_option maxHeartbeats 1000000 in
set_option maxRecDepth 100000 in
theorem r12_MayPair (k v : Bs) (w : World) : Calls Tryd.prog 45 #[.string k, .string v] w fun e w' => e = .returned (.bool (sized k v)) ∧ w = w' := by
  unfold sized
  go_enter Tryd.func45, Tryd.ntmps45
  go_wp2
  all_goals go_ret
  all_goals refine ⟨congrArg (fun b => Ending.returned (Value.bool b)) ?_, rfl⟩
  all_goals (rw [Bool.eq_iff_iff]; simp; omega)
theorem r12_MayPairB (k v : Bs) (b : Bool) (h : sized k v = b) (w : World) : Calls Tryd.prog 45 #[.string k, .string v] w fun e w' => e = .returned (.bool b) ∧ w = w' := by
  subst h; exact r12_MayPair k v w
set_option maxHeartbeats 1000000 in
set_option maxRecDepth 100000 in
theorem keep_Own (A : Option Addr) (n c : Nat) (xs : List Pr) (w : World) (hn : n ≤ 1073741824) (h : kP.C w A n xs) :
    Calls Tryd.prog 15 #[.slice A n c] w fun e w' => ∃ v, e = .returned v ∧ kP.R 60 w' w.heap.size yes v xs ∧ Below w.heap.size w w' := by
  have HL := Lib.hid h.1
  have HH := Lib.hid h
  clear h
  go_enter Tryd.func15, Tryd.ntmps15
  go_wp2
  go_loopg [3, 4] n (fun g v i wr => ∃ k : Nat, k + g = n ∧ i = .int .i64 k ∧ kP.R 60 wr w.heap.size yes v (xs.take k) ∧ Below w.heap.size w wr)
  case atStart => exact ⟨0, by omega, rfl, Kd.R_nil _ _ _ _ _, Below.refl _ _⟩
  case round =>
    obtain ⟨k, hk, rfl, hr, hb⟩ := hrel
    by_cases hlt : k < n
    · obtain ⟨ad, rfl, p0, p1⟩ := kP_at HH.out k hlt
      obtain ⟨x, hx⟩ : ∃ x, x = xs.getD k dP := ⟨_, rfl⟩
      rw [← hx] at p0 p1
      have hsl : ((xs.take k).length + 1) * 32 ≤ 140737488355328 := by rw [List.length_take]; omega
      have HX := Lib.hid hx
      have HS := Lib.hid hsl
      clear hx hsl
      go_upto_region 5 with (fail)
      refine wp_num (fun w' => Below w.heap.size w w') [0, 1, 2, 3, 4, 5, 6, 7, 8, 9, 10, 11, 14] (.c (0, none, none) (.c (1, none, none) (.c (2, none, none) (.c (3, none, none) (.c (4, none, none) (.c (5, none, none) (.c (6, none, none) (.c (7, none, none) (.c (8, none, none) (.c (9, none, none) (.c (10, none, none) (.c (11, none, none) (.c (12, some true, none) (.c (13, some true, none) (.c (14, none, none) (.nil)))))))))))))))) (by kernel_rfl) (by kernel_rfl) (by kernel_rfl) (fun _ _ d _ _ h => by cases d <;> exact h) (by kernel_rfl) (hb.drew) ?_
      simp only [selE, nthO]
      apply p_q
      focus (intro w' hb; go_simp <;> rfl)
      simp only [Act.put, List.setIfInBounds_toArray, List.set_cons_zero, List.set_cons_succ, Array.toArray_toList]
      apply p_q
      focus (intro w' hb; go_simp <;> rfl)
      simp only [Act.put, List.setIfInBounds_toArray, List.set_cons_zero, List.set_cons_succ, Array.toArray_toList]
      apply p_q
      focus (intro w' hb; go_simp <;> rfl)
      simp only [Act.put, List.setIfInBounds_toArray, List.set_cons_zero, List.set_cons_succ, Array.toArray_toList]
      apply p_qL (ops0 := #[]) rfl rfl rfl (Nat.le_of_ble_eq_true rfl)
      focus (intro w' hb; go_wp2_with fail; refine ⟨rfl, ?_, rfl⟩; simp only [List.getElem?_toArray, List.getElem?_cons_zero, List.getElem?_cons_succ, Option.some.injEq]; rfl)
      simp only [Act.put, List.setIfInBounds_toArray, List.set_cons_zero, List.set_cons_succ, Array.toArray_toList]
      apply p_qL (ops0 := #[]) rfl rfl rfl (Nat.le_of_ble_eq_true rfl)
      focus (intro w' hb; go_wp2_with fail; refine ⟨rfl, ?_, rfl⟩; simp only [List.getElem?_toArray, List.getElem?_cons_zero, List.getElem?_cons_succ, Option.some.injEq]; rfl)
      simp only [Act.put, List.setIfInBounds_toArray, List.set_cons_zero, List.set_cons_succ, Array.toArray_toList]
      refine p_load1 rfl rfl (fun w' hb => cell_below hb (by assumption)) Tryd.underlying9 rfl ?_
      simp only [Act.put, List.setIfInBounds_toArray, List.set_cons_zero, List.set_cons_succ, Array.toArray_toList]
      apply p_q
      focus (intro w' hb; go_simp <;> rfl)
      simp only [Act.put, List.setIfInBounds_toArray, List.set_cons_zero, List.set_cons_succ, Array.toArray_toList]
      apply p_q
      focus (intro w' hb; go_simp <;> rfl)
      simp only [Act.put, List.setIfInBounds_toArray, List.set_cons_zero, List.set_cons_succ, Array.toArray_toList]
      apply p_qL (ops0 := #[]) rfl rfl rfl (Nat.le_of_ble_eq_true rfl)
      focus (intro w' hb; go_wp2_with fail; refine ⟨rfl, ?_, rfl⟩; simp only [List.getElem?_toArray, List.getElem?_cons_zero, List.getElem?_cons_succ, Option.some.injEq]; rfl)
      simp only [Act.put, List.setIfInBounds_toArray, List.set_cons_zero, List.set_cons_succ, Array.toArray_toList]
      apply p_qL (ops0 := #[]) rfl rfl rfl (Nat.le_of_ble_eq_true rfl)
      focus (intro w' hb; go_wp2_with fail; refine ⟨rfl, ?_, rfl⟩; simp only [List.getElem?_toArray, List.getElem?_cons_zero, List.getElem?_cons_succ, Option.some.injEq]; rfl)
      simp only [Act.put, List.setIfInBounds_toArray, List.set_cons_zero, List.set_cons_succ, Array.toArray_toList]
      refine p_load1 rfl rfl (fun w' hb => cell_below hb (by assumption)) Tryd.underlying9 rfl ?_
      simp only [Act.put, List.setIfInBounds_toArray, List.set_cons_zero, List.set_cons_succ, Array.toArray_toList]
      apply p_q
      focus (intro w' hb; go_simp <;> rfl)
      simp only [Act.put, List.setIfInBounds_toArray, List.set_cons_zero, List.set_cons_succ, Array.toArray_toList]
      refine p_list (ops := #[]) rfl ?_
      refine l_lit1K rfl rfl rfl (show _ = 2 from rfl) (by decide) (by decide) (by decide) Tryd.underlying31 Tryd.infoP rfl ?_
      refine ⟨fun _ => below_alloc hb.drew _, ?_⟩
      refine p_list (ops := #[]) rfl ?_
      refine l_appendK kP (w0 := w) (base := w.heap.size) (W := wr.drew) (p := x) (Kd.R_drew hr) hb.drew hb.size rfl rfl Tryd.underlying31 Tryd.infoP rfl (by decide) (by decide) rfl rfl rfl HS.out ?_
      intro v1 w5 R5 B5 G5
      refine ⟨fun _ => B5, ?_⟩
      apply p_q
      focus (intro w' hb; go_simp <;> rfl)
      simp only [Act.put, List.setIfInBounds_toArray, List.set_cons_zero, List.set_cons_succ, Array.toArray_toList]
      refine p_end ?_
      go_wp2
      go_roundg (gk - 1)
      case measure => omega
      case rel =>
        refine ⟨k + 1, by omega, by go_num, ?_, B5⟩
        have e : xs.take (k + 1) = xs.take k ++ [x] := by
          have hk' : k < xs.length := by rw [HL.out]; exact hlt
          rw [List.take_add_one, List.getElem?_eq_getElem hk', HX.out, getD_lt xs dP hk']
          rfl
        rw [e]; exact R5
    · obtain rfl : k = n := by omega
      have e : xs.take k = xs := List.take_of_length_le (by rw [HL.out]; exact Nat.le_refl _)
      rw [e] at hr
      go_wp2
      go_ret
      exact ⟨_, rfl, hr, hb⟩
end Go.Proofs.YtlkjeneffohnkaaDoor
