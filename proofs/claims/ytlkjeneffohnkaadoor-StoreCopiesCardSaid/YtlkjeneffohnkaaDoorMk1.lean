import Derived.Test.YtlkjeneffohnkaaDoorPf7
import Derived.Test.YtlkjeneffohnkaaDoorSrch
import Derived.IntWalk
set_option linter.unusedVariables false
set_option linter.unusedSimpArgs false
namespace Go.Proofs.YtlkjeneffohnkaaDoor
open Go.RowKit Go.Proofs Go.Proofs.Plan Go.Proofs.YtlkjeneffohnkaaDoorW.PrintWords
set_option maxHeartbeats 1000000 in
set_option maxRecDepth 100000 in
theorem make_1 (xs : List Pr) (A : Option Addr) (n c : Nat) (key : Bs) (pl pk : Addr) (i : Nat) (hi : i < n) (W : World) (h0 : W.cell? pl = some (.slice A n c)) (h1 : W.cell? pk = some (.string key)) (h : kP.C W A n xs) :
    Calls Tryd.prog 83 #[.int .i64 i, .pointer (some pl), .pointer (some pk)] W fun e w' => e = .returned (.bool (!blt (xs.getD i dP).key key)) ∧ Below W.heap.size W w' := by
  obtain ⟨ad, rfl, hat⟩ := kP_get h i hi
  have q0 : W.cell? (ad.add (i * 2)) = some (.string (xs.getD i dP).key) := by have := at_cell hat 0 rfl; rwa [add_add] at this
  generalize (xs.getD i dP) = x at *
  unfold blt
  clear hat h
  go_enter Tryd.func83, Tryd.ntmps83
  go_upto_region 1 with (fail)
  refine wp_num (fun w' => Below W.heap.size W w') [0, 1, 2, 3, 4, 5, 6, 7] (.c (0, none, none) (.c (1, none, none) (.c (2, none, none) (.c (3, none, none) (.c (4, none, none) (.c (5, none, none) (.c (6, none, none) (.c (7, none, none) (.nil))))))))) (by kernel_rfl) (by kernel_rfl) (by kernel_rfl) (fun _ _ d _ _ h => by cases d <;> exact h) (by kernel_rfl) ((Below.refl _ _).drew) ?_
  simp only [selE, nthO]
  refine p_load1 rfl rfl (fun w' hb => cell_below hb (by assumption)) Tryd.underlying31 rfl ?_
  simp only [Act.put, List.setIfInBounds_toArray, List.set_cons_zero, List.set_cons_succ, Array.toArray_toList]
  apply p_q
  focus (intro w' hb; go_simp <;> rfl)
  simp only [Act.put, List.setIfInBounds_toArray, List.set_cons_zero, List.set_cons_succ, Array.toArray_toList]
  apply p_qL (ops0 := #[]) rfl rfl rfl (Nat.le_of_ble_eq_true rfl)
  focus (intro w' hb; go_wp2_with fail; refine ⟨rfl, ?_, rfl⟩; simp only [List.getElem?_toArray, List.getElem?_cons_zero, List.getElem?_cons_succ, Option.some.injEq]; rfl)
  simp only [Act.put, List.setIfInBounds_toArray, List.set_cons_zero, List.set_cons_succ, Array.toArray_toList]
  apply p_qL (ops0 := #[]) rfl rfl rfl (Nat.le_of_ble_eq_true rfl)
  focus (intro w' hb; go_wp2_with fail; refine ⟨rfl, ?_, rfl⟩; simp only [List.getElem?_toArray, List.getElem?_cons_zero, List.getElem?_cons_succ, Option.some.injEq]; rfl)
  simp only [Act.put, List.setIfInBounds_toArray, List.set_cons_zero, List.set_cons_succ, Array.toArray_toList]
  refine p_load1 rfl rfl (fun w' hb => cell_below hb (by assumption)) Tryd.underlying9 rfl ?_
  simp only [Act.put, List.setIfInBounds_toArray, List.set_cons_zero, List.set_cons_succ, Array.toArray_toList]
  refine p_load1 rfl rfl (fun w' hb => cell_below hb (by assumption)) Tryd.underlying9 rfl ?_
  simp only [Act.put, List.setIfInBounds_toArray, List.set_cons_zero, List.set_cons_succ, Array.toArray_toList]
  apply p_qL (ops0 := #[]) rfl rfl rfl (Nat.le_of_ble_eq_true rfl)
  focus (intro w' hb; go_wp2_with fail; refine ⟨rfl, ?_, rfl⟩; simp only [List.getElem?_toArray, List.getElem?_cons_zero, List.getElem?_cons_succ, Option.some.injEq]; rfl)
  simp only [Act.put, List.setIfInBounds_toArray, List.set_cons_zero, List.set_cons_succ, Array.toArray_toList]
  apply p_q
  focus (intro w' hb; go_simp <;> rfl)
  simp only [Act.put, List.setIfInBounds_toArray, List.set_cons_zero, List.set_cons_succ, Array.toArray_toList]
  refine p_end ?_
  go_wp2
  go_ret
  exact ⟨rfl, (Below.refl _ _).drew⟩
end Go.Proofs.YtlkjeneffohnkaaDoor
