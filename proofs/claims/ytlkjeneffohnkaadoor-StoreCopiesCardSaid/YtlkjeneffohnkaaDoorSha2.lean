import Derived.Test.YtlkjeneffohnkaaDoorSha1
set_option linter.unusedVariables false
set_option linter.unusedSimpArgs false
namespace Go.Proofs.YtlkjeneffohnkaaDoor
open Go.RowKit Go.Proofs Go.Proofs.Plan Go.Proofs.YtlkjeneffohnkaaDoorW.PrintWords
theorem turn6 (x : BitVec 32) (w : World) : Calls Tryd.prog 164 #[.int .u32 (wv x), .int .i64 6, .int .i64 11, .int .i64 25] w fun e w' => e = .returned (.int .u32 (wv (rr x 6 ^^^ rr x 11 ^^^ rr x 25))) ∧ w = w' := by
  have ax := wv_xor
  go_enter Tryd.func164, Tryd.ntmps164
  go_wp2_with fail
  refine (rot6 x _).mono ?_
  rintro e w' ⟨rfl, rfl⟩
  go_wp2_with fail
  refine (rot11 x _).mono ?_
  rintro e w' ⟨rfl, rfl⟩
  go_wp2_with fail
  refine (rot25 x _).mono ?_
  rintro e w' ⟨rfl, rfl⟩
  go_wp2_with fail
  go_ret
  exact ⟨rfl, rfl⟩
theorem turn2 (x : BitVec 32) (w : World) : Calls Tryd.prog 164 #[.int .u32 (wv x), .int .i64 2, .int .i64 13, .int .i64 22] w fun e w' => e = .returned (.int .u32 (wv (rr x 2 ^^^ rr x 13 ^^^ rr x 22))) ∧ w = w' := by
  have ax := wv_xor
  go_enter Tryd.func164, Tryd.ntmps164
  go_wp2_with fail
  refine (rot2 x _).mono ?_
  rintro e w' ⟨rfl, rfl⟩
  go_wp2_with fail
  refine (rot13 x _).mono ?_
  rintro e w' ⟨rfl, rfl⟩
  go_wp2_with fail
  refine (rot22 x _).mono ?_
  rintro e w' ⟨rfl, rfl⟩
  go_wp2_with fail
  go_ret
  exact ⟨rfl, rfl⟩
theorem slide7 (x : BitVec 32) (w : World) : Calls Tryd.prog 174 #[.int .u32 (wv x), .int .i64 7, .int .i64 18, .int .i64 3] w fun e w' => e = .returned (.int .u32 (wv (rr x 7 ^^^ rr x 18 ^^^ x >>> 3))) ∧ Below w.heap.size w w' := by
  have ax := wv_xor
  have hs1 : wv x / (8 : Int) = wv (x >>> 3) := wv_shr x 3
  obtain ⟨h0, h1⟩ := wv_range x
  go_enter Tryd.func174, Tryd.ntmps174
  go_upto_region 1 with (fail)
  refine wp_gen (fun w1 => w1 = w) rfl ?_
  rintro w1 rfl
  refine wp_num (fun w' => Below w1.heap.size w1 w') [0, 1, 2, 4, 5, 6, 8, 9, 10, 11, 12, 13] (.c (0, none, none) (.c (1, none, none) (.c (2, none, none) (.c (4, none, none) (.c (5, none, none) (.c (6, none, none) (.c (9, none, none) (.c (10, none, none) (.c (11, none, none) (.c (3, some true, none) (.c (7, some true, none) (.c (8, none, none) (.c (12, none, none) (.c (13, none, none) (.nil))))))))))))))) (by kernel_rfl) (by kernel_rfl) (by kernel_rfl) (fun _ _ d _ _ h => by cases d <;> exact h) (by kernel_rfl) ((Below.refl _ _).drew) ?_
  simp only [selE, nthO]
  apply p_q
  focus (intro w' hb; go_simp <;> rfl)
  simp only [Act.put, List.setIfInBounds_toArray, List.set_cons_zero, List.set_cons_succ, Array.toArray_toList]
  apply p_q
  focus (intro w' hb; go_simp <;> rfl)
  simp only [Act.put, List.setIfInBounds_toArray, List.set_cons_zero, List.set_cons_succ, Array.toArray_toList]
  apply p_qL (ops0 := #[]) rfl rfl rfl (Nat.le_of_ble_eq_true rfl)
  focus (intro w' hb; go_wp2_with fail; refine ⟨rfl, ?_, rfl⟩; simp only [List.getElem?_toArray, List.getElem?_cons_zero, List.getElem?_cons_succ, Option.some.injEq]; rfl)
  simp only [Act.put, List.setIfInBounds_toArray, List.set_cons_zero, List.set_cons_succ, Array.toArray_toList]
  apply p_q
  focus (intro w' hb; go_simp <;> rfl)
  simp only [Act.put, List.setIfInBounds_toArray, List.set_cons_zero, List.set_cons_succ, Array.toArray_toList]
  apply p_q
  focus (intro w' hb; go_simp <;> rfl)
  simp only [Act.put, List.setIfInBounds_toArray, List.set_cons_zero, List.set_cons_succ, Array.toArray_toList]
  apply p_qL (ops0 := #[]) rfl rfl rfl (Nat.le_of_ble_eq_true rfl)
  focus (intro w' hb; go_wp2_with fail; refine ⟨rfl, ?_, rfl⟩; simp only [List.getElem?_toArray, List.getElem?_cons_zero, List.getElem?_cons_succ, Option.some.injEq]; rfl)
  simp only [Act.put, List.setIfInBounds_toArray, List.set_cons_zero, List.set_cons_succ, Array.toArray_toList]
  apply p_q
  focus (intro w' hb; go_simp <;> rfl)
  simp only [Act.put, List.setIfInBounds_toArray, List.set_cons_zero, List.set_cons_succ, Array.toArray_toList]
  apply p_q
  focus (intro w' hb; go_simp <;> rfl)
  simp only [Act.put, List.setIfInBounds_toArray, List.set_cons_zero, List.set_cons_succ, Array.toArray_toList]
  apply p_qL (ops0 := #[]) rfl rfl rfl (Nat.le_of_ble_eq_true rfl)
  focus (intro w' hb; go_wp2_with fail; refine ⟨rfl, ?_, rfl⟩; simp only [List.getElem?_toArray, List.getElem?_cons_zero, List.getElem?_cons_succ, Option.some.injEq]; rfl)
  simp only [Act.put, List.setIfInBounds_toArray, List.set_cons_zero, List.set_cons_succ, Array.toArray_toList]
  refine p_list (ops := #[]) rfl ?_
  go_wp2_with fail
  refine (rot7 x _).mono ?_
  rintro e _ ⟨rfl, rfl⟩
  go_wp2_with fail
  refine ⟨fun _ => (Below.refl w1.heap.size w1).drew, ?_⟩
  refine p_list (ops := #[]) rfl ?_
  go_wp2_with fail
  refine (rot18 x _).mono ?_
  rintro e _ ⟨rfl, rfl⟩
  go_wp2_with fail
  refine ⟨fun _ => (Below.refl w1.heap.size w1).drew, ?_⟩
  apply p_qL (ops0 := #[]) rfl rfl rfl (Nat.le_of_ble_eq_true rfl)
  focus (intro w' hb; go_wp2_with fail; refine ⟨rfl, ?_, rfl⟩; simp only [List.getElem?_toArray, List.getElem?_cons_zero, List.getElem?_cons_succ, Option.some.injEq]; rfl)
  simp only [Act.put, List.setIfInBounds_toArray, List.set_cons_zero, List.set_cons_succ, Array.toArray_toList]
  apply p_qL (ops0 := #[]) rfl rfl rfl (Nat.le_of_ble_eq_true rfl)
  focus (intro w' hb; go_wp2_with fail; refine ⟨rfl, ?_, rfl⟩; simp only [List.getElem?_toArray, List.getElem?_cons_zero, List.getElem?_cons_succ, Option.some.injEq]; rfl)
  simp only [Act.put, List.setIfInBounds_toArray, List.set_cons_zero, List.set_cons_succ, Array.toArray_toList]
  apply p_q
  focus (intro w' hb; go_simp <;> rfl)
  simp only [Act.put, List.setIfInBounds_toArray, List.set_cons_zero, List.set_cons_succ, Array.toArray_toList]
  refine p_end ?_
  go_wp2_with fail
  go_ret
  exact ⟨rfl, (Below.refl _ _).drew⟩
theorem slide17 (x : BitVec 32) (w : World) : Calls Tryd.prog 174 #[.int .u32 (wv x), .int .i64 17, .int .i64 19, .int .i64 10] w fun e w' => e = .returned (.int .u32 (wv (rr x 17 ^^^ rr x 19 ^^^ x >>> 10))) ∧ Below w.heap.size w w' := by
  have ax := wv_xor
  have hs1 : wv x / (1024 : Int) = wv (x >>> 10) := wv_shr x 10
  obtain ⟨h0, h1⟩ := wv_range x
  go_enter Tryd.func174, Tryd.ntmps174
  go_upto_region 1 with (fail)
  refine wp_gen (fun w1 => w1 = w) rfl ?_
  rintro w1 rfl
  refine wp_num (fun w' => Below w1.heap.size w1 w') [0, 1, 2, 4, 5, 6, 8, 9, 10, 11, 12, 13] (.c (0, none, none) (.c (1, none, none) (.c (2, none, none) (.c (4, none, none) (.c (5, none, none) (.c (6, none, none) (.c (9, none, none) (.c (10, none, none) (.c (11, none, none) (.c (3, some true, none) (.c (7, some true, none) (.c (8, none, none) (.c (12, none, none) (.c (13, none, none) (.nil))))))))))))))) (by kernel_rfl) (by kernel_rfl) (by kernel_rfl) (fun _ _ d _ _ h => by cases d <;> exact h) (by kernel_rfl) ((Below.refl _ _).drew) ?_
  simp only [selE, nthO]
  apply p_q
  focus (intro w' hb; go_simp <;> rfl)
  simp only [Act.put, List.setIfInBounds_toArray, List.set_cons_zero, List.set_cons_succ, Array.toArray_toList]
  apply p_q
  focus (intro w' hb; go_simp <;> rfl)
  simp only [Act.put, List.setIfInBounds_toArray, List.set_cons_zero, List.set_cons_succ, Array.toArray_toList]
  apply p_qL (ops0 := #[]) rfl rfl rfl (Nat.le_of_ble_eq_true rfl)
  focus (intro w' hb; go_wp2_with fail; refine ⟨rfl, ?_, rfl⟩; simp only [List.getElem?_toArray, List.getElem?_cons_zero, List.getElem?_cons_succ, Option.some.injEq]; rfl)
  simp only [Act.put, List.setIfInBounds_toArray, List.set_cons_zero, List.set_cons_succ, Array.toArray_toList]
  apply p_q
  focus (intro w' hb; go_simp <;> rfl)
  simp only [Act.put, List.setIfInBounds_toArray, List.set_cons_zero, List.set_cons_succ, Array.toArray_toList]
  apply p_q
  focus (intro w' hb; go_simp <;> rfl)
  simp only [Act.put, List.setIfInBounds_toArray, List.set_cons_zero, List.set_cons_succ, Array.toArray_toList]
  apply p_qL (ops0 := #[]) rfl rfl rfl (Nat.le_of_ble_eq_true rfl)
  focus (intro w' hb; go_wp2_with fail; refine ⟨rfl, ?_, rfl⟩; simp only [List.getElem?_toArray, List.getElem?_cons_zero, List.getElem?_cons_succ, Option.some.injEq]; rfl)
  simp only [Act.put, List.setIfInBounds_toArray, List.set_cons_zero, List.set_cons_succ, Array.toArray_toList]
  apply p_q
  focus (intro w' hb; go_simp <;> rfl)
  simp only [Act.put, List.setIfInBounds_toArray, List.set_cons_zero, List.set_cons_succ, Array.toArray_toList]
  apply p_q
  focus (intro w' hb; go_simp <;> rfl)
  simp only [Act.put, List.setIfInBounds_toArray, List.set_cons_zero, List.set_cons_succ, Array.toArray_toList]
  apply p_qL (ops0 := #[]) rfl rfl rfl (Nat.le_of_ble_eq_true rfl)
  focus (intro w' hb; go_wp2_with fail; refine ⟨rfl, ?_, rfl⟩; simp only [List.getElem?_toArray, List.getElem?_cons_zero, List.getElem?_cons_succ, Option.some.injEq]; rfl)
  simp only [Act.put, List.setIfInBounds_toArray, List.set_cons_zero, List.set_cons_succ, Array.toArray_toList]
  refine p_list (ops := #[]) rfl ?_
  go_wp2_with fail
  refine (rot17 x _).mono ?_
  rintro e _ ⟨rfl, rfl⟩
  go_wp2_with fail
  refine ⟨fun _ => (Below.refl w1.heap.size w1).drew, ?_⟩
  refine p_list (ops := #[]) rfl ?_
  go_wp2_with fail
  refine (rot19 x _).mono ?_
  rintro e _ ⟨rfl, rfl⟩
  go_wp2_with fail
  refine ⟨fun _ => (Below.refl w1.heap.size w1).drew, ?_⟩
  apply p_qL (ops0 := #[]) rfl rfl rfl (Nat.le_of_ble_eq_true rfl)
  focus (intro w' hb; go_wp2_with fail; refine ⟨rfl, ?_, rfl⟩; simp only [List.getElem?_toArray, List.getElem?_cons_zero, List.getElem?_cons_succ, Option.some.injEq]; rfl)
  simp only [Act.put, List.setIfInBounds_toArray, List.set_cons_zero, List.set_cons_succ, Array.toArray_toList]
  apply p_qL (ops0 := #[]) rfl rfl rfl (Nat.le_of_ble_eq_true rfl)
  focus (intro w' hb; go_wp2_with fail; refine ⟨rfl, ?_, rfl⟩; simp only [List.getElem?_toArray, List.getElem?_cons_zero, List.getElem?_cons_succ, Option.some.injEq]; rfl)
  simp only [Act.put, List.setIfInBounds_toArray, List.set_cons_zero, List.set_cons_succ, Array.toArray_toList]
  apply p_q
  focus (intro w' hb; go_simp <;> rfl)
  simp only [Act.put, List.setIfInBounds_toArray, List.set_cons_zero, List.set_cons_succ, Array.toArray_toList]
  refine p_end ?_
  go_wp2_with fail
  go_ret
  exact ⟨rfl, (Below.refl _ _).drew⟩
end Go.Proofs.YtlkjeneffohnkaaDoor
