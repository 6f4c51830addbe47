import Derived.Test.YtlkjeneffohnkaaDoorTree3
set_option linter.unusedVariables false
set_option linter.unusedSimpArgs false
namespace Go.Proofs.YtlkjeneffohnkaaDoor
open Go.RowKit Go.Proofs Go.Proofs.Plan Go.Proofs.YtlkjeneffohnkaaDoorW.PrintWords
theorem fold_lt {n i : Nat} {leaf : Bs} {p : List Bs} (h : n < 2) : fold n i leaf p = leaf := by rw [fold, dif_pos h]
theorem fold_ge {n i m : Nat} {leaf : Bs} {p : List Bs} (h : 2 ≤ n) (hp : p.length = m + 1) : fold n i leaf p = if i < half n then node (fold (half n) i leaf (p.take m)) (p.getD m hz) else node (p.getD m hz) (fold (n - half n) (i - half n) leaf (p.take m)) := by
  have e1 : p.dropLast = p.take m := by rw [List.dropLast_eq_take, hp]; rfl
  have e2 : p.getLastD hz = p.getD m hz := by rw [List.getLastD_eq_getLast?, List.getLast?_eq_getElem?, hp]; rfl
  conv => lhs; rw [fold]
  rw [dif_neg (by omega), e1, e2]
set_option maxHeartbeats 1000000 in
set_option maxRecDepth 100000 in
theorem tree_fold : ∀ (n i m : Nat) (leaf : Bs) (A : Option Addr) (c : Nat) (p : List Bs) (w : World), i < n → n ≤ 1073741824 → m = deep n i → m ≤ c → leaf.size = 32 → Tab w → kH.C w A m p →
    Calls Tryd.prog 152 #[.int .i64 n, .int .i64 i, .agg (hv leaf), .slice A m c] w fun e w' => e = .returned (.agg (hv (fold n i leaf p))) ∧ Below w.heap.size w w' := by
  intro n
  induction n using Nat.strongRecOn with
  | _ n ih =>
    intro i m leaf A c p w hi hn hm hc h32 ht h
    have hl := h.1
    by_cases h2 : 2 ≤ n
    · obtain ⟨m', rfl⟩ : ∃ m', m = m' + 1 := ⟨m - 1, by rw [deep_ge h2] at hm; omega⟩
      rw [deep_ge h2] at hm
      have hk := half_lt h2
      have hkp := half_pos n
      have hfin := fold_ge (i := i) (leaf := leaf) h2 hl
      have HF := Lib.hid hfin
      clear hfin
      have ct := cut_take (P := Tryd.prog) 112 24 .i64 32 Tryd.underlying112 Tryd.info24 A (m' + 1) c m' (by omega)
      have hC1 : kH.C w A m' (p.take m') := by
        have := Kd.C_take (m := m') (by rw [hl]; exact h) (by omega)
        rwa [List.length_take, Nat.min_eq_left (by omega)] at this
      obtain ⟨ad, rfl, hat, x32⟩ := kH_get h m' (by omega)
      have hmb : m' ≤ 1073741824 := by have := deep_le n i; rw [deep_ge h2] at this; omega
      have e0 : (((m' + 1 : Nat) : Int) == 0) = false := by simp; omega
      have em : ((m' + 1 : Nat) : Int) - 1 = (m' : Int) := by omega
      have HI := Lib.hid ih
      have HT := Lib.hid ht
      have HM := Lib.hid hm
      have HL := Lib.hid hl
      clear ih ht hm hl
      generalize hx : p.getD m' hz = x at hat x32 HF
      clear hx
      go_enter Tryd.func152, Tryd.ntmps152
      go_upto_region 1 with (fail)
      refine wp_Hr 32 rfl ?_
      intro w1 B1 r1 T1 Z1
      have HZ := Lib.hid Z1
      clear Z1
      have hat1 := at_below B1 hat
      have en : (n : Int) - (half n : Int) = ((n - half n : Nat) : Int) := by omega
      by_cases hlt : i < half n
      · have HF2 := HF.out
        rw [if_pos hlt] at HF2
        have HF := Lib.hid HF2
        have HM2 := HM.out
        rw [if_pos hlt] at HM2
        have HM := Lib.hid HM2
        clear HF2 HM2
        go_upto_region 5 with (first | (go_at_call 120; refine (tree_HalfP n h2 hn _).mono ?_; rintro e w2 ⟨rfl, rfl⟩))
        refine wp_num (fun w' => Below w1.heap.size w1 w') [0, 1, 2, 3, 4, 5, 7, 8, 9, 10] (.c (0, none, none) (.c (1, none, none) (.c (2, none, none) (.c (3, none, none) (.c (4, none, none) (.c (5, none, none) (.c (7, none, none) (.c (8, none, none) (.c (9, none, none) (.c (10, none, none) (.c (6, some true, none) (.c (11, some true, none) (.c (12, some false, none) (.nil)))))))))))))) (by kernel_rfl) (by kernel_rfl) (by kernel_rfl) (fun _ _ d _ _ h => by cases d <;> exact h) (by kernel_rfl) ((Below.refl _ _).drew) ?_
        simp only [selE, nthO]
        apply p_q
        focus (intro w' hb; go_simp <;> rfl)
        simp only [Act.put, List.setIfInBounds_toArray, List.set_cons_zero, List.set_cons_succ, Array.toArray_toList]
        apply p_q
        focus (intro w' hb; go_simp <;> rfl)
        simp only [Act.put, List.setIfInBounds_toArray, List.set_cons_zero, List.set_cons_succ, Array.toArray_toList]
        refine p_loadH rfl rfl (fun w' hb => at_below hb (by assumption)) (by assumption) Tryd.underlying24 Tryd.info24 ?_
        simp only [Act.put, List.setIfInBounds_toArray, List.set_cons_zero, List.set_cons_succ, Array.toArray_toList]
        apply p_q
        focus (intro w' hb; go_simp <;> rfl)
        simp only [Act.put, List.setIfInBounds_toArray, List.set_cons_zero, List.set_cons_succ, Array.toArray_toList]
        apply p_q
        focus (intro w' hb; go_simp <;> rfl)
        simp only [Act.put, List.setIfInBounds_toArray, List.set_cons_zero, List.set_cons_succ, Array.toArray_toList]
        apply p_qL (ops0 := #[]) rfl rfl rfl (Nat.le_of_ble_eq_true rfl)
        focus (intro w' hb; go_wp2_with fail; refine ⟨rfl, ?_, rfl⟩; simp only [List.getElem?_toArray, List.getElem?_cons_zero, List.getElem?_cons_succ, Option.some.injEq]; rfl)
        simp only [Act.put, List.setIfInBounds_toArray, List.set_cons_zero, List.set_cons_succ, Array.toArray_toList]
        apply p_q
        focus (intro w' hb; go_simp <;> rfl)
        simp only [Act.put, List.setIfInBounds_toArray, List.set_cons_zero, List.set_cons_succ, Array.toArray_toList]
        apply p_q
        focus (intro w' hb; go_simp <;> rfl)
        simp only [Act.put, List.setIfInBounds_toArray, List.set_cons_zero, List.set_cons_succ, Array.toArray_toList]
        apply p_qL (ops0 := #[]) rfl rfl rfl (Nat.le_of_ble_eq_true rfl)
        focus (intro w' hb; go_wp2_with fail; refine ⟨rfl, ?_, rfl⟩; simp only [List.getElem?_toArray, List.getElem?_cons_zero, List.getElem?_cons_succ, Option.some.injEq]; rfl)
        simp only [Act.put, List.setIfInBounds_toArray, List.set_cons_zero, List.set_cons_succ, Array.toArray_toList]
        refine p_loadH rfl rfl (fun w' hb => at_below hb (by assumption)) (by assumption) Tryd.underlying24 Tryd.info24 ?_
        simp only [Act.put, List.setIfInBounds_toArray, List.set_cons_zero, List.set_cons_succ, Array.toArray_toList]
        refine p_list (ops := #[]) rfl ?_
        go_wp2_with fail
        refine (HI.out (half n) hk i m' leaf _ c _ _ hlt (by omega) (by have := HM.out; omega) (by omega) h32 (tab_below (below_next B1 ((Below.refl w1.heap.size w1).drew)) HT.out) (Kd.C_below hC1 (below_next B1 ((Below.refl w1.heap.size w1).drew)))).mono ?_
        rintro e w3 ⟨rfl, hw3⟩
        go_wp2_with fail
        have Bw3 : Below w1.heap.size w1 w3 := below_next ((Below.refl w1.heap.size w1).drew) hw3
        refine ⟨fun _ => Bw3, ?_⟩
        have f32 := fold_size (half n) i leaf (p.take m') h32
        refine p_list (ops := #[]) rfl ?_
        go_wp2_with fail
        refine (tree_Node _ _ f32 x32 _ (tab_below (below_next B1 (Bw3)) HT.out)).mono ?_
        rintro e w4 ⟨rfl, hw4⟩
        go_wp2_with fail
        have Bw4 : Below w1.heap.size w1 w4 := below_next (Bw3) hw4
        refine ⟨fun _ => Bw4, ?_⟩
        have n32 : (node (fold (half n) i leaf (p.take m')) x).size = 32 := sha_size _
        refine p_storeH rfl rfl rfl (there_below Bw4 T1) n32 Tryd.info24 (fun h => by cases h) ?_
        refine p_end ?_
        go_wp2
        exact ret_H rfl rfl (there_below Bw4 T1) n32 Tryd.underlying24 Tryd.info24 rfl ⟨by rw [HF.out], below_setCells _ _ _ (below_next B1 Bw4) (by omega)⟩
      · have HF2 := HF.out
        rw [if_neg hlt] at HF2
        have HF := Lib.hid HF2
        have HM2 := HM.out
        rw [if_neg hlt] at HM2
        have HM := Lib.hid HM2
        clear HF2 HM2
        have ei : (i : Int) - (half n : Int) = ((i - half n : Nat) : Int) := by omega
        go_upto_region 6 with (first | (go_at_call 120; refine (tree_HalfP n h2 hn _).mono ?_; rintro e w2 ⟨rfl, rfl⟩))
        refine wp_num (fun w' => Below w1.heap.size w1 w') [0, 1, 2, 3, 4, 5, 6, 7, 8, 9, 10, 11, 12, 13] (.c (0, none, none) (.c (1, none, none) (.c (2, none, none) (.c (3, none, none) (.c (4, none, none) (.c (5, none, none) (.c (6, none, none) (.c (7, none, none) (.c (8, none, none) (.c (9, none, none) (.c (10, none, none) (.c (11, none, none) (.c (12, none, none) (.c (13, none, none) (.c (14, some true, none) (.c (15, some true, none) (.c (16, some false, none) (.nil)))))))))))))))))) (by kernel_rfl) (by kernel_rfl) (by kernel_rfl) (fun _ _ d _ _ h => by cases d <;> exact h) (by kernel_rfl) ((Below.refl _ _).drew) ?_
        simp only [selE, nthO]
        apply p_q
        focus (intro w' hb; go_simp <;> rfl)
        simp only [Act.put, List.setIfInBounds_toArray, List.set_cons_zero, List.set_cons_succ, Array.toArray_toList]
        apply p_q
        focus (intro w' hb; go_simp <;> rfl)
        simp only [Act.put, List.setIfInBounds_toArray, List.set_cons_zero, List.set_cons_succ, Array.toArray_toList]
        apply p_qL (ops0 := #[]) rfl rfl rfl (Nat.le_of_ble_eq_true rfl)
        focus (intro w' hb; go_wp2_with fail; refine ⟨rfl, ?_, rfl⟩; simp only [List.getElem?_toArray, List.getElem?_cons_zero, List.getElem?_cons_succ, Option.some.injEq]; rfl)
        simp only [Act.put, List.setIfInBounds_toArray, List.set_cons_zero, List.set_cons_succ, Array.toArray_toList]
        refine p_loadH rfl rfl (fun w' hb => at_below hb (by assumption)) (by assumption) Tryd.underlying24 Tryd.info24 ?_
        simp only [Act.put, List.setIfInBounds_toArray, List.set_cons_zero, List.set_cons_succ, Array.toArray_toList]
        apply p_q
        focus (intro w' hb; go_simp <;> rfl)
        simp only [Act.put, List.setIfInBounds_toArray, List.set_cons_zero, List.set_cons_succ, Array.toArray_toList]
        apply p_q
        focus (intro w' hb; go_simp <;> rfl)
        simp only [Act.put, List.setIfInBounds_toArray, List.set_cons_zero, List.set_cons_succ, Array.toArray_toList]
        apply p_qL (ops0 := #[]) rfl rfl rfl (Nat.le_of_ble_eq_true rfl)
        focus (intro w' hb; go_wp2_with fail; refine ⟨rfl, ?_, rfl⟩; simp only [List.getElem?_toArray, List.getElem?_cons_zero, List.getElem?_cons_succ, Option.some.injEq]; rfl)
        simp only [Act.put, List.setIfInBounds_toArray, List.set_cons_zero, List.set_cons_succ, Array.toArray_toList]
        apply p_q
        focus (intro w' hb; go_simp <;> rfl)
        simp only [Act.put, List.setIfInBounds_toArray, List.set_cons_zero, List.set_cons_succ, Array.toArray_toList]
        apply p_q
        focus (intro w' hb; go_simp <;> rfl)
        simp only [Act.put, List.setIfInBounds_toArray, List.set_cons_zero, List.set_cons_succ, Array.toArray_toList]
        apply p_qL (ops0 := #[]) rfl rfl rfl (Nat.le_of_ble_eq_true rfl)
        focus (intro w' hb; go_wp2_with fail; refine ⟨rfl, ?_, rfl⟩; simp only [List.getElem?_toArray, List.getElem?_cons_zero, List.getElem?_cons_succ, Option.some.injEq]; rfl)
        simp only [Act.put, List.setIfInBounds_toArray, List.set_cons_zero, List.set_cons_succ, Array.toArray_toList]
        refine p_loadH rfl rfl (fun w' hb => at_below hb (by assumption)) (by assumption) Tryd.underlying24 Tryd.info24 ?_
        simp only [Act.put, List.setIfInBounds_toArray, List.set_cons_zero, List.set_cons_succ, Array.toArray_toList]
        apply p_q
        focus (intro w' hb; go_simp <;> rfl)
        simp only [Act.put, List.setIfInBounds_toArray, List.set_cons_zero, List.set_cons_succ, Array.toArray_toList]
        apply p_q
        focus (intro w' hb; go_simp <;> rfl)
        simp only [Act.put, List.setIfInBounds_toArray, List.set_cons_zero, List.set_cons_succ, Array.toArray_toList]
        apply p_qL (ops0 := #[]) rfl rfl rfl (Nat.le_of_ble_eq_true rfl)
        focus (intro w' hb; go_wp2_with fail; refine ⟨rfl, ?_, rfl⟩; simp only [List.getElem?_toArray, List.getElem?_cons_zero, List.getElem?_cons_succ, Option.some.injEq]; rfl)
        simp only [Act.put, List.setIfInBounds_toArray, List.set_cons_zero, List.set_cons_succ, Array.toArray_toList]
        refine p_list (ops := #[]) rfl ?_
        go_wp2_with fail
        refine (HI.out (n - half n) (by omega) (i - half n) m' leaf _ c _ _ (by omega) (by omega) (by have := HM.out; omega) (by omega) h32 (tab_below (below_next B1 ((Below.refl w1.heap.size w1).drew)) HT.out) (Kd.C_below hC1 (below_next B1 ((Below.refl w1.heap.size w1).drew)))).mono ?_
        rintro e w3 ⟨rfl, hw3⟩
        go_wp2_with fail
        have Bw3 : Below w1.heap.size w1 w3 := below_next ((Below.refl w1.heap.size w1).drew) hw3
        refine ⟨fun _ => Bw3, ?_⟩
        have f32 := fold_size (n - half n) (i - half n) leaf (p.take m') h32
        refine p_list (ops := #[]) rfl ?_
        go_wp2_with fail
        refine (tree_Node _ _ x32 f32 _ (tab_below (below_next B1 (Bw3)) HT.out)).mono ?_
        rintro e w4 ⟨rfl, hw4⟩
        go_wp2_with fail
        have Bw4 : Below w1.heap.size w1 w4 := below_next (Bw3) hw4
        refine ⟨fun _ => Bw4, ?_⟩
        have n32 : (node x (fold (n - half n) (i - half n) leaf (p.take m'))).size = 32 := sha_size _
        refine p_storeH rfl rfl rfl (there_below Bw4 T1) n32 Tryd.info24 (fun h => by cases h) ?_
        refine p_end ?_
        go_wp2
        exact ret_H rfl rfl (there_below Bw4 T1) n32 Tryd.underlying24 Tryd.info24 rfl ⟨by rw [HF.out], below_setCells _ _ _ (below_next B1 Bw4) (by omega)⟩
    · have hz0 : m = 0 := by rw [deep_lt (by omega)] at hm; exact hm
      subst hz0
      have HF := Lib.hid (fold_lt (i := i) (leaf := leaf) (p := p) (show n < 2 by omega))
      clear ih ht hm
      go_enter Tryd.func152, Tryd.ntmps152
      go_upto_region 1 with (fail)
      refine wp_Hr 32 rfl ?_
      intro w1 B1 r1 T1 Z1
      have HZ := Lib.hid Z1
      clear Z1
      go_wp2_with (first
        | (refine l_loadH rfl rfl rfl r1 h32 Tryd.underlying24 Tryd.info24 ?_)
        | (refine l_storeH rfl rfl rfl rfl T1 h32 Tryd.info24 ?_))
      exact ret_H rfl rfl T1 h32 Tryd.underlying24 Tryd.info24 rfl ⟨by rw [HF.out], below_setCells _ _ _ B1 (by omega)⟩
end Go.Proofs.YtlkjeneffohnkaaDoor
