import Derived.Test.YtlkjeneffohnkaaDoorPf7
import Derived.IntWalk
set_option linter.unusedVariables false
set_option linter.unusedSimpArgs false
namespace Go.Proofs.YtlkjeneffohnkaaDoor
open Go.RowKit Go.Proofs Go.Proofs.Plan Go.Proofs.YtlkjeneffohnkaaDoorW.PrintWords
theorem gtr_blt (a b : Bs) : (!Op.bytesLess a.toList b.toList && !(a.toList == b.toList)) = blt b a := by
  by_cases e : a = b
  · subst e; rw [blt_irrefl]; simp
  · rw [eq_toList, decide_eq_false e, Bool.not_false, Bool.and_true]
    cases h : Op.bytesLess a.toList b.toList
    · exact (blt_total e h).symm
    · exact (blt_asymm h).symm
set_option maxHeartbeats 2000000 in
set_option maxRecDepth 100000 in
theorem proof_Lacks (root : Bs) (r32 : root.size = 32) (p : Pf) (key : Bs) (A : Option Addr) (c : Nat) (w : World) (ht : Tab w) (hc : p.leaves.length ≤ c) (h : kLf.C w A p.leaves.length p.leaves) :
    Calls Tryd.prog 27 #[.agg (hv root), .agg #[.int .i64 p.count, .slice A p.leaves.length c], .string key] w fun e w' => e = .returned (.bool (lacks root p key)) ∧ Below w.heap.size w w' := by
  have HH := Lib.hid h
  have HT := Lib.hid ht
  clear h ht
  by_cases hm : mayPf p = true
  · have HM := Lib.hid hm
    cases hs : p.leaves.all (stands root p.count)
    · have hh : lacks root p key = false := by unfold lacks; rw [hm, hs]; rfl
      have HU := Lib.hid hs
      have HF := Lib.hid hh
      clear hm hs hh
      go_enter Tryd.func27, Tryd.ntmps27
      go_upto_region 1 with (fail)
      refine wp_rp ?_
      intro w1 B1 r1 p1
      go_wp2_with (first
        | (refine l_load rfl rfl rfl p1 Tryd.underlying27 rfl Tryd.infoPf ?_)
        | (refine lg_load rfl rfl rfl p2 Tryd.underlying27 rfl Tryd.infoPf ?_)
        | (refine lg_loadH rfl rfl rfl r2 r32 Tryd.underlying24 Tryd.info24 ?_)
        | (go_at_call 30; refine (proof_MayB p true HM.out A c _ hc (Kd.C_below HH.out B1)).mono ?_; rintro e w2 ⟨rfl, hw2⟩; have p2 := at_below hw2 p1; have r2 := at_below hw2 r1)
        | (go_at_call 86; refine (proof_underB root r32 p HM.out false HU.out A c _ (tab_below (below_next B1 hw2) HT.out) hc (Kd.C_below HH.out (below_next B1 hw2))).mono ?_; rintro e w3 ⟨rfl, hw3⟩))
      go_ret
      exact ⟨by rw [HF.out]; rfl, below_next B1 (below_next hw2 hw3)⟩
    · have HU := Lib.hid hs
      have hl2 : p.leaves.length ≤ 2 := by
        simp only [mayPf, Bool.and_eq_true, decide_eq_true_eq] at hm
        exact hm.1.2
      match hL : p.leaves with
      | [] =>
        have hh : lacks root p key = (decide (p.count = 0) && decide (root = rootH 0 hz)) := by unfold lacks; rw [hm, hs, hL]; rfl
        have c0 : p.leaves.length = 0 := by rw [hL]; rfl
        have HF := Lib.hid hh
        have HC0 := Lib.hid c0
        rw [← hL]
        clear hm hs hh hL hl2 c0
        go_enter Tryd.func27, Tryd.ntmps27
        go_upto_region 1 with (fail)
        refine wp_rp ?_
        intro w1 B1 r1 p1
        go_upto_region 4 with (first
          | (refine l_load rfl rfl rfl p1 Tryd.underlying27 rfl Tryd.infoPf ?_)
          | (refine lg_load rfl rfl rfl p2 Tryd.underlying27 rfl Tryd.infoPf ?_)
          | (refine lg_loadH rfl rfl rfl r2 r32 Tryd.underlying24 Tryd.info24 ?_)
          | (go_at_call 30; refine (proof_MayB p true HM.out _ c _ hc (Kd.C_below HH.out B1)).mono ?_; rintro e w2 ⟨rfl, hw2⟩; have p2 := at_below hw2 p1; have r2 := at_below hw2 r1)
          | (go_at_call 86; refine (proof_underB root r32 p HM.out true HU.out _ c _ (tab_below (below_next B1 hw2) HT.out) hc (Kd.C_below HH.out (below_next B1 hw2))).mono ?_; rintro e w3 ⟨rfl, hw3⟩; have B3 := below_next B1 (below_next hw2 hw3); have r3 := at_below hw3 r2; have f0 : w3.cell? ⟨w.heap.size + 1, 0, none⟩ = some (.int .i64 p.count) := at_cell (at_below hw3 p2) 0 rfl; have f1 : w3.cell? ⟨w.heap.size + 1, 1, none⟩ = some (.slice A p.leaves.length c) := at_cell (at_below hw3 p2) 1 rfl))
        have c0 := HC0.out
        have hq := eqH root (rootH 0 hz) r32 (sha_size _)
        by_cases hz0 : p.count = 0
        · rw [hz0] at f0
          go_upto_region 6 with (fail)
          cases hb : decide (root = rootH 0 hz)
          · rw [hb] at hq
            have HB := Lib.hid hb
            clear hb
            refine wp_num (fun w' => Below w3.heap.size w3 w') [0, 1, 2, 3, 4, 5, 7, 8, 9] (.c (0, none, none) (.c (1, none, none) (.c (2, none, none) (.c (3, none, none) (.c (4, none, some (26, true)) (.c (5, none, some (26, true)) (.c (6, some true, some (26, true)) (.c (7, none, some (26, true)) (.c (8, none, none) (.c (9, none, none) (.nil))))))))))) (by kernel_rfl) (by kernel_rfl) (by kernel_rfl) (fun _ _ d _ _ h => by cases d <;> exact h) (by kernel_rfl) ((Below.refl _ _).drew) ?_
            simp only [selE, nthO]
            apply p_qL (ops0 := #[]) rfl rfl rfl (Nat.le_of_ble_eq_true rfl)
            focus (intro w' hb; go_wp2_with fail; refine ⟨rfl, ?_, rfl⟩; simp only [List.getElem?_toArray, List.getElem?_cons_zero, List.getElem?_cons_succ, Option.some.injEq]; rfl)
            simp only [Act.put, List.setIfInBounds_toArray, List.set_cons_zero, List.set_cons_succ, Array.toArray_toList]
            refine p_load1 rfl rfl (fun w' hb => cell_below hb (by assumption)) Tryd.underlying3 rfl ?_
            simp only [Act.put, List.setIfInBounds_toArray, List.set_cons_zero, List.set_cons_succ, Array.toArray_toList]
            apply p_qL (ops0 := #[]) rfl rfl rfl (Nat.le_of_ble_eq_true rfl)
            focus (intro w' hb; go_wp2_with fail; refine ⟨rfl, ?_, rfl⟩; simp only [List.getElem?_toArray, List.getElem?_cons_zero, List.getElem?_cons_succ, Option.some.injEq]; rfl)
            simp only [Act.put, List.setIfInBounds_toArray, List.set_cons_zero, List.set_cons_succ, Array.toArray_toList]
            apply p_q
            focus (intro w' hb; go_simp <;> rfl)
            simp only [Act.put, List.setIfInBounds_toArray, List.set_cons_zero, List.set_cons_succ, Array.toArray_toList]
            first
            | refine p_skip rfl ?_
            | (refine p_go rfl ?_; simp only [bare]; refine p_loadH rfl rfl (fun w' hb => at_below hb (by assumption)) (by assumption) Tryd.underlying24 Tryd.info24 ?_)
            simp only [Act.put, List.setIfInBounds_toArray, List.set_cons_zero, List.set_cons_succ, Array.toArray_toList]
            first
            | refine p_skip rfl ?_
            | (refine p_go rfl ?_; simp only [bare]; apply p_q; focus (intro w' hb; go_simp <;> rfl))
            simp only [Act.put, List.setIfInBounds_toArray, List.set_cons_zero, List.set_cons_succ, Array.toArray_toList]
            rw [z32_eq]
            refine p_go rfl ?_
            simp only [bare]
            refine p_list (ops := #[]) rfl ?_
            go_wp2_with fail
            refine (tree_Root 0 (by decide) hz hz_size _ (tab_below (below_next B3 ((Below.refl w3.heap.size w3).drew)) HT.out)).mono ?_
            rintro e w4 ⟨rfl, hw4⟩
            go_wp2_with fail
            have Bw4 : Below w3.heap.size w3 w4 := below_next ((Below.refl w3.heap.size w3).drew) hw4
            refine ⟨fun _ => Bw4, ?_⟩
            first
            | refine p_skip rfl ?_
            | (refine p_go rfl ?_; simp only [bare]; apply p_qL (ops0 := #[]) rfl rfl rfl (Nat.le_of_ble_eq_true rfl); focus (intro w' hb; go_wp2_with fail; refine ⟨rfl, ?_, rfl⟩; simp only [List.getElem?_toArray, List.getElem?_cons_zero, List.getElem?_cons_succ, Option.some.injEq]; rfl))
            simp only [Act.put, List.setIfInBounds_toArray, List.set_cons_zero, List.set_cons_succ, Array.toArray_toList]
            apply p_qL (ops0 := #[]) rfl rfl rfl (Nat.le_of_ble_eq_true rfl)
            focus (intro w' hb; go_wp2_with fail; refine ⟨rfl, ?_, rfl⟩; simp only [List.getElem?_toArray, List.getElem?_cons_zero, List.getElem?_cons_succ, Option.some.injEq]; rfl)
            simp only [Act.put, List.setIfInBounds_toArray, List.set_cons_zero, List.set_cons_succ, Array.toArray_toList]
            apply p_q
            focus (intro w' hb; go_simp <;> rfl)
            simp only [Act.put, List.setIfInBounds_toArray, List.set_cons_zero, List.set_cons_succ, Array.toArray_toList]
            refine p_end ?_
            go_wp2
            go_ret
            exact ⟨by rw [HF.out, decide_eq_true hz0, HB.out]; rfl, below_next B3 Bw4⟩
          · rw [hb] at hq
            have HB := Lib.hid hb
            clear hb
            refine wp_num (fun w' => Below w3.heap.size w3 w') [0, 1, 2, 3, 4, 5, 7, 8, 9] (.c (0, none, none) (.c (1, none, none) (.c (2, none, none) (.c (3, none, none) (.c (4, none, some (26, true)) (.c (5, none, some (26, true)) (.c (6, some true, some (26, true)) (.c (7, none, some (26, true)) (.c (8, none, none) (.c (9, none, none) (.nil))))))))))) (by kernel_rfl) (by kernel_rfl) (by kernel_rfl) (fun _ _ d _ _ h => by cases d <;> exact h) (by kernel_rfl) ((Below.refl _ _).drew) ?_
            simp only [selE, nthO]
            apply p_qL (ops0 := #[]) rfl rfl rfl (Nat.le_of_ble_eq_true rfl)
            focus (intro w' hb; go_wp2_with fail; refine ⟨rfl, ?_, rfl⟩; simp only [List.getElem?_toArray, List.getElem?_cons_zero, List.getElem?_cons_succ, Option.some.injEq]; rfl)
            simp only [Act.put, List.setIfInBounds_toArray, List.set_cons_zero, List.set_cons_succ, Array.toArray_toList]
            refine p_load1 rfl rfl (fun w' hb => cell_below hb (by assumption)) Tryd.underlying3 rfl ?_
            simp only [Act.put, List.setIfInBounds_toArray, List.set_cons_zero, List.set_cons_succ, Array.toArray_toList]
            apply p_qL (ops0 := #[]) rfl rfl rfl (Nat.le_of_ble_eq_true rfl)
            focus (intro w' hb; go_wp2_with fail; refine ⟨rfl, ?_, rfl⟩; simp only [List.getElem?_toArray, List.getElem?_cons_zero, List.getElem?_cons_succ, Option.some.injEq]; rfl)
            simp only [Act.put, List.setIfInBounds_toArray, List.set_cons_zero, List.set_cons_succ, Array.toArray_toList]
            apply p_q
            focus (intro w' hb; go_simp <;> rfl)
            simp only [Act.put, List.setIfInBounds_toArray, List.set_cons_zero, List.set_cons_succ, Array.toArray_toList]
            first
            | refine p_skip rfl ?_
            | (refine p_go rfl ?_; simp only [bare]; refine p_loadH rfl rfl (fun w' hb => at_below hb (by assumption)) (by assumption) Tryd.underlying24 Tryd.info24 ?_)
            simp only [Act.put, List.setIfInBounds_toArray, List.set_cons_zero, List.set_cons_succ, Array.toArray_toList]
            first
            | refine p_skip rfl ?_
            | (refine p_go rfl ?_; simp only [bare]; apply p_q; focus (intro w' hb; go_simp <;> rfl))
            simp only [Act.put, List.setIfInBounds_toArray, List.set_cons_zero, List.set_cons_succ, Array.toArray_toList]
            rw [z32_eq]
            refine p_go rfl ?_
            simp only [bare]
            refine p_list (ops := #[]) rfl ?_
            go_wp2_with fail
            refine (tree_Root 0 (by decide) hz hz_size _ (tab_below (below_next B3 ((Below.refl w3.heap.size w3).drew)) HT.out)).mono ?_
            rintro e w4 ⟨rfl, hw4⟩
            go_wp2_with fail
            have Bw4 : Below w3.heap.size w3 w4 := below_next ((Below.refl w3.heap.size w3).drew) hw4
            refine ⟨fun _ => Bw4, ?_⟩
            first
            | refine p_skip rfl ?_
            | (refine p_go rfl ?_; simp only [bare]; apply p_qL (ops0 := #[]) rfl rfl rfl (Nat.le_of_ble_eq_true rfl); focus (intro w' hb; go_wp2_with fail; refine ⟨rfl, ?_, rfl⟩; simp only [List.getElem?_toArray, List.getElem?_cons_zero, List.getElem?_cons_succ, Option.some.injEq]; rfl))
            simp only [Act.put, List.setIfInBounds_toArray, List.set_cons_zero, List.set_cons_succ, Array.toArray_toList]
            apply p_qL (ops0 := #[]) rfl rfl rfl (Nat.le_of_ble_eq_true rfl)
            focus (intro w' hb; go_wp2_with fail; refine ⟨rfl, ?_, rfl⟩; simp only [List.getElem?_toArray, List.getElem?_cons_zero, List.getElem?_cons_succ, Option.some.injEq]; rfl)
            simp only [Act.put, List.setIfInBounds_toArray, List.set_cons_zero, List.set_cons_succ, Array.toArray_toList]
            apply p_q
            focus (intro w' hb; go_simp <;> rfl)
            simp only [Act.put, List.setIfInBounds_toArray, List.set_cons_zero, List.set_cons_succ, Array.toArray_toList]
            refine p_end ?_
            go_wp2
            go_ret
            exact ⟨by rw [HF.out, decide_eq_true hz0, HB.out]; rfl, below_next B3 Bw4⟩
        · have e0 : (p.count == 0) = false := by simp; exact hz0
          go_upto_region 6 with (fail)
          refine wp_num (fun w' => Below w3.heap.size w3 w') [0, 1, 2, 3, 4, 5, 7, 8, 9] (.c (0, none, none) (.c (1, none, none) (.c (2, none, none) (.c (3, none, none) (.c (4, none, some (26, true)) (.c (5, none, some (26, true)) (.c (6, some true, some (26, true)) (.c (7, none, some (26, true)) (.c (8, none, none) (.c (9, none, none) (.nil))))))))))) (by kernel_rfl) (by kernel_rfl) (by kernel_rfl) (fun _ _ d _ _ h => by cases d <;> exact h) (by kernel_rfl) ((Below.refl _ _).drew) ?_
          simp only [selE, nthO]
          apply p_qL (ops0 := #[]) rfl rfl rfl (Nat.le_of_ble_eq_true rfl)
          focus (intro w' hb; go_wp2_with fail; refine ⟨rfl, ?_, rfl⟩; simp only [List.getElem?_toArray, List.getElem?_cons_zero, List.getElem?_cons_succ, Option.some.injEq]; rfl)
          simp only [Act.put, List.setIfInBounds_toArray, List.set_cons_zero, List.set_cons_succ, Array.toArray_toList]
          refine p_load1 rfl rfl (fun w' hb => cell_below hb (by assumption)) Tryd.underlying3 rfl ?_
          simp only [Act.put, List.setIfInBounds_toArray, List.set_cons_zero, List.set_cons_succ, Array.toArray_toList]
          apply p_qL (ops0 := #[]) rfl rfl rfl (Nat.le_of_ble_eq_true rfl)
          focus (intro w' hb; go_wp2_with fail; refine ⟨rfl, ?_, rfl⟩; simp only [List.getElem?_toArray, List.getElem?_cons_zero, List.getElem?_cons_succ, Option.some.injEq]; rfl)
          simp only [Act.put, List.setIfInBounds_toArray, List.set_cons_zero, List.set_cons_succ, Array.toArray_toList]
          apply p_q
          focus (intro w' hb; go_simp <;> rfl)
          simp only [Act.put, List.setIfInBounds_toArray, List.set_cons_zero, List.set_cons_succ, Array.toArray_toList]
          first
          | refine p_skip rfl ?_
          | (refine p_go rfl ?_; simp only [bare]; refine p_loadH rfl rfl (fun w' hb => at_below hb (by assumption)) (by assumption) Tryd.underlying24 Tryd.info24 ?_)
          simp only [Act.put, List.setIfInBounds_toArray, List.set_cons_zero, List.set_cons_succ, Array.toArray_toList]
          first
          | refine p_skip rfl ?_
          | (refine p_go rfl ?_; simp only [bare]; apply p_q; focus (intro w' hb; go_simp <;> rfl))
          simp only [Act.put, List.setIfInBounds_toArray, List.set_cons_zero, List.set_cons_succ, Array.toArray_toList]
          refine p_skipA rfl (fun _ => (Below.refl w3.heap.size w3).drew) ?_
          simp only [Act.put, List.setIfInBounds_toArray, List.set_cons_zero, List.set_cons_succ, Array.toArray_toList]
          first
          | refine p_skip rfl ?_
          | (refine p_go rfl ?_; simp only [bare]; apply p_qL (ops0 := #[]) rfl rfl rfl (Nat.le_of_ble_eq_true rfl); focus (intro w' hb; go_wp2_with fail; refine ⟨rfl, ?_, rfl⟩; simp only [List.getElem?_toArray, List.getElem?_cons_zero, List.getElem?_cons_succ, Option.some.injEq]; rfl))
          simp only [Act.put, List.setIfInBounds_toArray, List.set_cons_zero, List.set_cons_succ, Array.toArray_toList]
          apply p_qL (ops0 := #[]) rfl rfl rfl (Nat.le_of_ble_eq_true rfl)
          focus (intro w' hb; go_wp2_with fail; refine ⟨rfl, ?_, rfl⟩; simp only [List.getElem?_toArray, List.getElem?_cons_zero, List.getElem?_cons_succ, Option.some.injEq]; rfl)
          simp only [Act.put, List.setIfInBounds_toArray, List.set_cons_zero, List.set_cons_succ, Array.toArray_toList]
          apply p_q
          focus (intro w' hb; go_simp <;> rfl)
          simp only [Act.put, List.setIfInBounds_toArray, List.set_cons_zero, List.set_cons_succ, Array.toArray_toList]
          refine p_end ?_
          go_wp2
          go_ret
          exact ⟨by rw [HF.out, decide_eq_false hz0]; rfl, B3.drew⟩
      | [x] =>
        have hh : lacks root p key = ((decide (x.index = 0) && blt key x.key) || (decide (x.index = p.count - 1) && blt x.key key)) := by unfold lacks; rw [hm, hs, hL]; rfl
        have c0 : p.leaves.length = 1 := by rw [hL]; rfl
        obtain ⟨ad, B, c', rfl, _, _, hat⟩ := kLf_get HH.out 0 (by omega)
        rw [show ad.add (0 * 4) = ad from rfl, show p.leaves.getD 0 dL = x by rw [hL]; rfl] at hat
        have hx := may_leaf hm (j := 0) (by omega)
        rw [show p.leaves.getD 0 dL = x by rw [hL]; rfl] at hx
        simp only [mayLf, Bool.and_eq_true, decide_eq_true_eq] at hx
        obtain ⟨⟨⟨_, hi0⟩, hi1⟩, _⟩ := hx
        have hcm : p.count ≤ 1073741824 := by simp only [mayPf, Bool.and_eq_true, decide_eq_true_eq] at hm; exact hm.1.1.2
        have HF := Lib.hid hh
        have HC0 := Lib.hid c0
        have HAT := Lib.hid hat
        rw [← hL]
        clear hm hs hh hL hl2 c0 hat
        go_enter Tryd.func27, Tryd.ntmps27
        go_upto_region 1 with (fail)
        refine wp_rp ?_
        intro w1 B1 r1 p1
        go_upto_region 4 with (first
          | (refine l_load rfl rfl rfl p1 Tryd.underlying27 rfl Tryd.infoPf ?_)
          | (refine lg_load rfl rfl rfl p2 Tryd.underlying27 rfl Tryd.infoPf ?_)
          | (refine lg_loadH rfl rfl rfl r2 r32 Tryd.underlying24 Tryd.info24 ?_)
          | (go_at_call 30; refine (proof_MayB p true HM.out _ c _ hc (Kd.C_below HH.out B1)).mono ?_; rintro e w2 ⟨rfl, hw2⟩; have p2 := at_below hw2 p1; have r2 := at_below hw2 r1)
          | (go_at_call 86; refine (proof_underB root r32 p HM.out true HU.out _ c _ (tab_below (below_next B1 hw2) HT.out) hc (Kd.C_below HH.out (below_next B1 hw2))).mono ?_; rintro e w3 ⟨rfl, hw3⟩; have B3 := below_next B1 (below_next hw2 hw3); have r3 := at_below hw3 r2; have f0 : w3.cell? ⟨w.heap.size + 1, 0, none⟩ = some (.int .i64 p.count) := at_cell (at_below hw3 p2) 0 rfl; have f1 : w3.cell? ⟨w.heap.size + 1, 1, none⟩ = some (.slice (some ad) p.leaves.length c) := at_cell (at_below hw3 p2) 1 rfl))
        have k0 : w3.cell? ad = some (.string x.key) := cell_below B3 (at_cell HAT.out 0 rfl)
        have k2 : w3.cell? ⟨ad.block, ad.off + 2, none⟩ = some (.int .i64 x.index) := cell_below B3 (at_cell HAT.out 2 rfl)
        have c0 := HC0.out
        go_upto_region 8 with (fail)
        have s1 : IntKind.i64.wrap (p.count - 1) = p.count - 1 := IntWalk.i64_in _ (by omega)
        have ht := gtr_blt x.key key
        generalize hb1 : decide (x.index = 0) = b1
        generalize hb2 : decide (x.index = p.count - 1) = b2
        generalize hb3 : Op.bytesLess x.key.toList key.toList = b3 at ht
        generalize hb4 : (x.key.toList == key.toList) = b4 at ht
        have e1 : (x.index == 0) = b1 := hb1
        have e2 : (x.index == p.count - 1) = b2 := hb2
        have hF := HF.out
        rw [hb1, hb2, ← ht, show blt x.key key = b3 from hb3] at hF
        have HF2 := Lib.hid hF
        clear hF hb1 hb2 hcm hi0 hi1 ht HF
        cases b1 <;> cases b2 <;> cases b3 <;> cases b4
        all_goals
          refine wp_num (fun w' => Below w3.heap.size w3 w') [0, 1, 2, 3, 4, 5, 6, 7, 8, 9, 10, 11, 12, 13, 14, 15, 16, 17, 18, 19, 20, 21, 22, 23, 24, 25, 26, 27, 28, 29, 30, 31] (.c (0, none, none) (.c (1, none, none) (.c (2, none, none) (.c (3, none, none) (.c (4, none, none) (.c (5, none, none) (.c (6, none, some (39, true)) (.c (7, none, some (39, true)) (.c (8, none, some (39, true)) (.c (9, none, some (39, true)) (.c (10, none, some (39, true)) (.c (11, none, some (39, true)) (.c (12, none, none) (.c (13, none, none) (.c (14, none, some (47, false)) (.c (15, none, some (47, false)) (.c (16, none, some (47, false)) (.c (17, none, some (47, false)) (.c (18, none, some (47, false)) (.c (19, none, some (47, false)) (.c (20, none, some (47, false)) (.c (21, none, some (47, false)) (.c (22, none, some (47, false)) (.c (23, none, some (56, true)) (.c (24, none, some (56, true)) (.c (25, none, some (56, true)) (.c (26, none, some (56, true)) (.c (27, none, some (56, true)) (.c (28, none, some (56, true)) (.c (29, none, some (47, false)) (.c (30, none, none) (.c (31, none, none) (.nil))))))))))))))))))))))))))))))))) (by kernel_rfl) (by kernel_rfl) (by kernel_rfl) (fun _ _ d _ _ h => by cases d <;> exact h) (by kernel_rfl) ((Below.refl _ _).drew) ?_
          simp only [selE, nthO]
          apply p_q
          focus (intro w' hb; go_simp <;> rfl)
          simp only [Act.put, List.setIfInBounds_toArray, List.set_cons_zero, List.set_cons_succ, Array.toArray_toList]
          apply p_qL (ops0 := #[]) rfl rfl rfl (Nat.le_of_ble_eq_true rfl)
          focus (intro w' hb; go_wp2_with fail; refine ⟨rfl, ?_, rfl⟩; simp only [List.getElem?_toArray, List.getElem?_cons_zero, List.getElem?_cons_succ, Option.some.injEq]; rfl)
          simp only [Act.put, List.setIfInBounds_toArray, List.set_cons_zero, List.set_cons_succ, Array.toArray_toList]
          apply p_qL (ops0 := #[]) rfl rfl rfl (Nat.le_of_ble_eq_true rfl)
          focus (intro w' hb; go_wp2_with fail; refine ⟨rfl, ?_, rfl⟩; simp only [List.getElem?_toArray, List.getElem?_cons_zero, List.getElem?_cons_succ, Option.some.injEq]; rfl)
          simp only [Act.put, List.setIfInBounds_toArray, List.set_cons_zero, List.set_cons_succ, Array.toArray_toList]
          refine p_load1 rfl rfl (fun w' hb => cell_below hb (by assumption)) Tryd.underlying3 rfl ?_
          simp only [Act.put, List.setIfInBounds_toArray, List.set_cons_zero, List.set_cons_succ, Array.toArray_toList]
          apply p_qL (ops0 := #[]) rfl rfl rfl (Nat.le_of_ble_eq_true rfl)
          focus (intro w' hb; go_wp2_with fail; refine ⟨rfl, ?_, rfl⟩; simp only [List.getElem?_toArray, List.getElem?_cons_zero, List.getElem?_cons_succ, Option.some.injEq]; rfl)
          simp only [Act.put, List.setIfInBounds_toArray, List.set_cons_zero, List.set_cons_succ, Array.toArray_toList]
          apply p_q
          focus (intro w' hb; go_simp <;> rfl)
          simp only [Act.put, List.setIfInBounds_toArray, List.set_cons_zero, List.set_cons_succ, Array.toArray_toList]
          first
          | refine p_skip rfl ?_
          | (refine p_go rfl ?_; simp only [bare]; apply p_q; focus (intro w' hb; go_simp <;> rfl))
          simp only [Act.put, List.setIfInBounds_toArray, List.set_cons_zero, List.set_cons_succ, Array.toArray_toList]
          first
          | refine p_skip rfl ?_
          | (refine p_go rfl ?_; simp only [bare]; apply p_qL (ops0 := #[]) rfl rfl rfl (Nat.le_of_ble_eq_true rfl); focus (intro w' hb; go_wp2_with fail; refine ⟨rfl, ?_, rfl⟩; simp only [List.getElem?_toArray, List.getElem?_cons_zero, List.getElem?_cons_succ, Option.some.injEq]; rfl))
          simp only [Act.put, List.setIfInBounds_toArray, List.set_cons_zero, List.set_cons_succ, Array.toArray_toList]
          first
          | refine p_skip rfl ?_
          | (refine p_go rfl ?_; simp only [bare]; apply p_qL (ops0 := #[]) rfl rfl rfl (Nat.le_of_ble_eq_true rfl); focus (intro w' hb; go_wp2_with fail; refine ⟨rfl, ?_, rfl⟩; simp only [List.getElem?_toArray, List.getElem?_cons_zero, List.getElem?_cons_succ, Option.some.injEq]; rfl))
          simp only [Act.put, List.setIfInBounds_toArray, List.set_cons_zero, List.set_cons_succ, Array.toArray_toList]
          first
          | refine p_skip rfl ?_
          | (refine p_go rfl ?_; simp only [bare]; refine p_load1 rfl rfl (fun w' hb => cell_below hb (by assumption)) Tryd.underlying9 rfl ?_)
          simp only [Act.put, List.setIfInBounds_toArray, List.set_cons_zero, List.set_cons_succ, Array.toArray_toList]
          first
          | refine p_skip rfl ?_
          | (refine p_go rfl ?_; simp only [bare]; apply p_q; focus (intro w' hb; go_simp <;> rfl))
          simp only [Act.put, List.setIfInBounds_toArray, List.set_cons_zero, List.set_cons_succ, Array.toArray_toList]
          first
          | refine p_skip rfl ?_
          | (refine p_go rfl ?_; simp only [bare]; apply p_qL (ops0 := #[]) rfl rfl rfl (Nat.le_of_ble_eq_true rfl); focus (intro w' hb; go_wp2_with fail; refine ⟨rfl, ?_, rfl⟩; simp only [List.getElem?_toArray, List.getElem?_cons_zero, List.getElem?_cons_succ, Option.some.injEq]; rfl))
          simp only [Act.put, List.setIfInBounds_toArray, List.set_cons_zero, List.set_cons_succ, Array.toArray_toList]
          apply p_qL (ops0 := #[]) rfl rfl rfl (Nat.le_of_ble_eq_true rfl)
          focus (intro w' hb; go_wp2_with fail; refine ⟨rfl, ?_, rfl⟩; simp only [List.getElem?_toArray, List.getElem?_cons_zero, List.getElem?_cons_succ, Option.some.injEq]; rfl)
          simp only [Act.put, List.setIfInBounds_toArray, List.set_cons_zero, List.set_cons_succ, Array.toArray_toList]
          apply p_q
          focus (intro w' hb; go_simp <;> rfl)
          simp only [Act.put, List.setIfInBounds_toArray, List.set_cons_zero, List.set_cons_succ, Array.toArray_toList]
          first
          | refine p_skip rfl ?_
          | (refine p_go rfl ?_; simp only [bare]; apply p_q; focus (intro w' hb; go_simp <;> rfl))
          simp only [Act.put, List.setIfInBounds_toArray, List.set_cons_zero, List.set_cons_succ, Array.toArray_toList]
          first
          | refine p_skip rfl ?_
          | (refine p_go rfl ?_; simp only [bare]; apply p_qL (ops0 := #[]) rfl rfl rfl (Nat.le_of_ble_eq_true rfl); focus (intro w' hb; go_wp2_with fail; refine ⟨rfl, ?_, rfl⟩; simp only [List.getElem?_toArray, List.getElem?_cons_zero, List.getElem?_cons_succ, Option.some.injEq]; rfl))
          simp only [Act.put, List.setIfInBounds_toArray, List.set_cons_zero, List.set_cons_succ, Array.toArray_toList]
          first
          | refine p_skip rfl ?_
          | (refine p_go rfl ?_; simp only [bare]; apply p_qL (ops0 := #[]) rfl rfl rfl (Nat.le_of_ble_eq_true rfl); focus (intro w' hb; go_wp2_with fail; refine ⟨rfl, ?_, rfl⟩; simp only [List.getElem?_toArray, List.getElem?_cons_zero, List.getElem?_cons_succ, Option.some.injEq]; rfl))
          simp only [Act.put, List.setIfInBounds_toArray, List.set_cons_zero, List.set_cons_succ, Array.toArray_toList]
          first
          | refine p_skip rfl ?_
          | (refine p_go rfl ?_; simp only [bare]; refine p_load1 rfl rfl (fun w' hb => cell_below hb (by assumption)) Tryd.underlying3 rfl ?_)
          simp only [Act.put, List.setIfInBounds_toArray, List.set_cons_zero, List.set_cons_succ, Array.toArray_toList]
          first
          | refine p_skip rfl ?_
          | (refine p_go rfl ?_; simp only [bare]; apply p_qL (ops0 := #[]) rfl rfl rfl (Nat.le_of_ble_eq_true rfl); focus (intro w' hb; go_wp2_with fail; refine ⟨rfl, ?_, rfl⟩; simp only [List.getElem?_toArray, List.getElem?_cons_zero, List.getElem?_cons_succ, Option.some.injEq]; rfl))
          simp only [Act.put, List.setIfInBounds_toArray, List.set_cons_zero, List.set_cons_succ, Array.toArray_toList]
          first
          | refine p_skip rfl ?_
          | (refine p_go rfl ?_; simp only [bare]; refine p_load1 rfl rfl (fun w' hb => cell_below hb (by assumption)) Tryd.underlying3 rfl ?_)
          simp only [Act.put, List.setIfInBounds_toArray, List.set_cons_zero, List.set_cons_succ, Array.toArray_toList]
          first
          | refine p_skip rfl ?_
          | (refine p_go rfl ?_; simp only [bare]; apply p_qL (ops0 := #[]) rfl rfl rfl (Nat.le_of_ble_eq_true rfl); focus (intro w' hb; go_wp2_with fail; refine ⟨rfl, ?_, rfl⟩; simp only [List.getElem?_toArray, List.getElem?_cons_zero, List.getElem?_cons_succ, Option.some.injEq]; rfl))
          simp only [Act.put, List.setIfInBounds_toArray, List.set_cons_zero, List.set_cons_succ, Array.toArray_toList]
          first
          | refine p_skip rfl ?_
          | (refine p_go rfl ?_; simp only [bare]; apply p_qL (ops0 := #[]) rfl rfl rfl (Nat.le_of_ble_eq_true rfl); focus (intro w' hb; go_wp2_with fail; refine ⟨rfl, ?_, rfl⟩; simp only [List.getElem?_toArray, List.getElem?_cons_zero, List.getElem?_cons_succ, Option.some.injEq]; rfl))
          simp only [Act.put, List.setIfInBounds_toArray, List.set_cons_zero, List.set_cons_succ, Array.toArray_toList]
          first
          | refine p_skip rfl ?_
          | (refine p_go rfl ?_; simp only [bare]; apply p_q; focus (intro w' hb; go_simp <;> rfl))
          simp only [Act.put, List.setIfInBounds_toArray, List.set_cons_zero, List.set_cons_succ, Array.toArray_toList]
          first
          | refine p_skip rfl ?_
          | (refine p_go rfl ?_; simp only [bare]; apply p_q; focus (intro w' hb; go_simp <;> rfl))
          simp only [Act.put, List.setIfInBounds_toArray, List.set_cons_zero, List.set_cons_succ, Array.toArray_toList]
          first
          | refine p_skip rfl ?_
          | (refine p_go rfl ?_; simp only [bare]; apply p_qL (ops0 := #[]) rfl rfl rfl (Nat.le_of_ble_eq_true rfl); focus (intro w' hb; go_wp2_with fail; refine ⟨rfl, ?_, rfl⟩; simp only [List.getElem?_toArray, List.getElem?_cons_zero, List.getElem?_cons_succ, Option.some.injEq]; rfl))
          simp only [Act.put, List.setIfInBounds_toArray, List.set_cons_zero, List.set_cons_succ, Array.toArray_toList]
          first
          | refine p_skip rfl ?_
          | (refine p_go rfl ?_; simp only [bare]; apply p_qL (ops0 := #[]) rfl rfl rfl (Nat.le_of_ble_eq_true rfl); focus (intro w' hb; go_wp2_with fail; refine ⟨rfl, ?_, rfl⟩; simp only [List.getElem?_toArray, List.getElem?_cons_zero, List.getElem?_cons_succ, Option.some.injEq]; rfl))
          simp only [Act.put, List.setIfInBounds_toArray, List.set_cons_zero, List.set_cons_succ, Array.toArray_toList]
          first
          | refine p_skip rfl ?_
          | (refine p_go rfl ?_; simp only [bare]; refine p_load1 rfl rfl (fun w' hb => cell_below hb (by assumption)) Tryd.underlying9 rfl ?_)
          simp only [Act.put, List.setIfInBounds_toArray, List.set_cons_zero, List.set_cons_succ, Array.toArray_toList]
          first
          | refine p_skip rfl ?_
          | (refine p_go rfl ?_; simp only [bare]; apply p_q; focus (intro w' hb; go_simp <;> rfl))
          simp only [Act.put, List.setIfInBounds_toArray, List.set_cons_zero, List.set_cons_succ, Array.toArray_toList]
          first
          | refine p_skip rfl ?_
          | (refine p_go rfl ?_; simp only [bare]; apply p_qL (ops0 := #[]) rfl rfl rfl (Nat.le_of_ble_eq_true rfl); focus (intro w' hb; go_wp2_with fail; refine ⟨rfl, ?_, rfl⟩; simp only [List.getElem?_toArray, List.getElem?_cons_zero, List.getElem?_cons_succ, Option.some.injEq]; rfl))
          simp only [Act.put, List.setIfInBounds_toArray, List.set_cons_zero, List.set_cons_succ, Array.toArray_toList]
          first
          | refine p_skip rfl ?_
          | (refine p_go rfl ?_; simp only [bare]; apply p_qL (ops0 := #[]) rfl rfl rfl (Nat.le_of_ble_eq_true rfl); focus (intro w' hb; go_wp2_with fail; refine ⟨rfl, ?_, rfl⟩; simp only [List.getElem?_toArray, List.getElem?_cons_zero, List.getElem?_cons_succ, Option.some.injEq]; rfl))
          simp only [Act.put, List.setIfInBounds_toArray, List.set_cons_zero, List.set_cons_succ, Array.toArray_toList]
          apply p_qL (ops0 := #[]) rfl rfl rfl (Nat.le_of_ble_eq_true rfl)
          focus (intro w' hb; go_wp2_with fail; refine ⟨rfl, ?_, rfl⟩; simp only [List.getElem?_toArray, List.getElem?_cons_zero, List.getElem?_cons_succ, Option.some.injEq]; rfl)
          simp only [Act.put, List.setIfInBounds_toArray, List.set_cons_zero, List.set_cons_succ, Array.toArray_toList]
          apply p_q
          focus (intro w' hb; go_simp <;> rfl)
          simp only [Act.put, List.setIfInBounds_toArray, List.set_cons_zero, List.set_cons_succ, Array.toArray_toList]
          refine p_end ?_
          go_wp2
          go_ret
          exact ⟨by rw [HF2.out]; rfl, B3.drew⟩
      | x :: y :: L =>
        have hh : lacks root p key = (decide (y.index = x.index + 1) && blt x.key key && blt key y.key) := by unfold lacks; rw [hm, hs, hL]; rfl
        have c0 : p.leaves.length = 2 := by
          rw [hL] at hl2 ⊢
          simp only [List.length_cons] at hl2 ⊢
          omega
        obtain ⟨ad, B, c', rfl, _, _, hat⟩ := kLf_get HH.out 0 (by omega)
        rw [show ad.add (0 * 4) = ad from rfl, show p.leaves.getD 0 dL = x by rw [hL]; rfl] at hat
        obtain ⟨ad2, B2, c2', had2, _, _, hat2⟩ := kLf_get HH.out 1 (by omega)
        obtain rfl : ad = ad2 := by injection had2
        rw [show p.leaves.getD 1 dL = y by rw [hL]; rfl] at hat2
        have hx := may_leaf hm (j := 0) (by omega)
        rw [show p.leaves.getD 0 dL = x by rw [hL]; rfl] at hx
        simp only [mayLf, Bool.and_eq_true, decide_eq_true_eq] at hx
        obtain ⟨⟨⟨_, hi0⟩, hi1⟩, _⟩ := hx
        have hy := may_leaf hm (j := 1) (by omega)
        rw [show p.leaves.getD 1 dL = y by rw [hL]; rfl] at hy
        simp only [mayLf, Bool.and_eq_true, decide_eq_true_eq] at hy
        obtain ⟨⟨⟨_, hj0⟩, hj1⟩, _⟩ := hy
        have hcm : p.count ≤ 1073741824 := by simp only [mayPf, Bool.and_eq_true, decide_eq_true_eq] at hm; exact hm.1.1.2
        have HF := Lib.hid hh
        have HC0 := Lib.hid c0
        have HAT := Lib.hid hat
        have HAT2 := Lib.hid hat2
        rw [← hL]
        clear hm hs hh hL hl2 c0 hat hat2 had2
        go_enter Tryd.func27, Tryd.ntmps27
        go_upto_region 1 with (fail)
        refine wp_rp ?_
        intro w1 B1 r1 p1
        go_upto_region 4 with (first
          | (refine l_load rfl rfl rfl p1 Tryd.underlying27 rfl Tryd.infoPf ?_)
          | (refine lg_load rfl rfl rfl p2 Tryd.underlying27 rfl Tryd.infoPf ?_)
          | (refine lg_loadH rfl rfl rfl r2 r32 Tryd.underlying24 Tryd.info24 ?_)
          | (go_at_call 30; refine (proof_MayB p true HM.out _ c _ hc (Kd.C_below HH.out B1)).mono ?_; rintro e w2 ⟨rfl, hw2⟩; have p2 := at_below hw2 p1; have r2 := at_below hw2 r1)
          | (go_at_call 86; refine (proof_underB root r32 p HM.out true HU.out _ c _ (tab_below (below_next B1 hw2) HT.out) hc (Kd.C_below HH.out (below_next B1 hw2))).mono ?_; rintro e w3 ⟨rfl, hw3⟩; have B3 := below_next B1 (below_next hw2 hw3); have r3 := at_below hw3 r2; have f0 : w3.cell? ⟨w.heap.size + 1, 0, none⟩ = some (.int .i64 p.count) := at_cell (at_below hw3 p2) 0 rfl; have f1 : w3.cell? ⟨w.heap.size + 1, 1, none⟩ = some (.slice (some ad) p.leaves.length c) := at_cell (at_below hw3 p2) 1 rfl))
        have k0 : w3.cell? ad = some (.string x.key) := cell_below B3 (at_cell HAT.out 0 rfl)
        have k2 : w3.cell? ⟨ad.block, ad.off + 2, none⟩ = some (.int .i64 x.index) := cell_below B3 (at_cell HAT.out 2 rfl)
        have l0 : w3.cell? ⟨ad.block, ad.off + 4, none⟩ = some (.string y.key) := cell_below B3 (at_cell HAT2.out 0 rfl)
        have l2 : w3.cell? ⟨ad.block, ad.off + 4 + 2, none⟩ = some (.int .i64 y.index) := cell_below B3 (at_cell HAT2.out 2 rfl)
        have c0 := HC0.out
        go_upto_region 9 with (fail)
        have s1 : IntKind.i64.wrap (y.index - x.index) = y.index - x.index := IntWalk.i64_in _ (by omega)
        have ht := gtr_blt y.key key
        generalize hb1 : decide (y.index = x.index + 1) = b1
        generalize hb2 : Op.bytesLess x.key.toList key.toList = b2
        generalize hb3 : Op.bytesLess y.key.toList key.toList = b3 at ht
        generalize hb4 : (y.key.toList == key.toList) = b4 at ht
        have e1 : (y.index - x.index == 1) = b1 := by rw [← hb1]; exact decide_eq_decide.2 (by omega)
        have hF := HF.out
        rw [hb1, ← ht, show blt x.key key = b2 from hb2] at hF
        have HF2 := Lib.hid hF
        clear hF hb1 hcm hi0 hi1 hj0 hj1 ht HF
        cases b1 <;> cases b2 <;> cases b3 <;> cases b4
        all_goals
          refine wp_num (fun w' => Below w3.heap.size w3 w') [0, 1, 2, 3, 4, 5, 6, 7, 8, 9, 10, 11, 12, 13, 14, 15, 16, 17, 18, 19, 20, 21, 22, 23, 24, 25, 26] (.c (0, none, none) (.c (1, none, none) (.c (2, none, none) (.c (3, none, none) (.c (4, none, none) (.c (5, none, none) (.c (6, none, none) (.c (7, none, none) (.c (8, none, none) (.c (9, none, none) (.c (10, none, none) (.c (11, none, some (75, true)) (.c (12, none, some (75, true)) (.c (13, none, some (75, true)) (.c (14, none, some (75, true)) (.c (15, none, some (75, true)) (.c (16, none, some (75, true)) (.c (17, none, none) (.c (18, none, none) (.c (19, none, some (83, true)) (.c (20, none, some (83, true)) (.c (21, none, some (83, true)) (.c (22, none, some (83, true)) (.c (23, none, some (83, true)) (.c (24, none, some (83, true)) (.c (25, none, none) (.c (26, none, none) (.nil)))))))))))))))))))))))))))) (by kernel_rfl) (by kernel_rfl) (by kernel_rfl) (fun _ _ d _ _ h => by cases d <;> exact h) (by kernel_rfl) ((Below.refl _ _).drew) ?_
          simp only [selE, nthO]
          apply p_q
          focus (intro w' hb; go_simp <;> rfl)
          simp only [Act.put, List.setIfInBounds_toArray, List.set_cons_zero, List.set_cons_succ, Array.toArray_toList]
          apply p_qL (ops0 := #[]) rfl rfl rfl (Nat.le_of_ble_eq_true rfl)
          focus (intro w' hb; go_wp2_with fail; refine ⟨rfl, ?_, rfl⟩; simp only [List.getElem?_toArray, List.getElem?_cons_zero, List.getElem?_cons_succ, Option.some.injEq]; rfl)
          simp only [Act.put, List.setIfInBounds_toArray, List.set_cons_zero, List.set_cons_succ, Array.toArray_toList]
          apply p_qL (ops0 := #[]) rfl rfl rfl (Nat.le_of_ble_eq_true rfl)
          focus (intro w' hb; go_wp2_with fail; refine ⟨rfl, ?_, rfl⟩; simp only [List.getElem?_toArray, List.getElem?_cons_zero, List.getElem?_cons_succ, Option.some.injEq]; rfl)
          simp only [Act.put, List.setIfInBounds_toArray, List.set_cons_zero, List.set_cons_succ, Array.toArray_toList]
          refine p_load1 rfl rfl (fun w' hb => cell_below hb (by assumption)) Tryd.underlying3 rfl ?_
          simp only [Act.put, List.setIfInBounds_toArray, List.set_cons_zero, List.set_cons_succ, Array.toArray_toList]
          apply p_q
          focus (intro w' hb; go_simp <;> rfl)
          simp only [Act.put, List.setIfInBounds_toArray, List.set_cons_zero, List.set_cons_succ, Array.toArray_toList]
          apply p_qL (ops0 := #[]) rfl rfl rfl (Nat.le_of_ble_eq_true rfl)
          focus (intro w' hb; go_wp2_with fail; refine ⟨rfl, ?_, rfl⟩; simp only [List.getElem?_toArray, List.getElem?_cons_zero, List.getElem?_cons_succ, Option.some.injEq]; rfl)
          simp only [Act.put, List.setIfInBounds_toArray, List.set_cons_zero, List.set_cons_succ, Array.toArray_toList]
          apply p_qL (ops0 := #[]) rfl rfl rfl (Nat.le_of_ble_eq_true rfl)
          focus (intro w' hb; go_wp2_with fail; refine ⟨rfl, ?_, rfl⟩; simp only [List.getElem?_toArray, List.getElem?_cons_zero, List.getElem?_cons_succ, Option.some.injEq]; rfl)
          simp only [Act.put, List.setIfInBounds_toArray, List.set_cons_zero, List.set_cons_succ, Array.toArray_toList]
          refine p_load1 rfl rfl (fun w' hb => cell_below hb (by assumption)) Tryd.underlying3 rfl ?_
          simp only [Act.put, List.setIfInBounds_toArray, List.set_cons_zero, List.set_cons_succ, Array.toArray_toList]
          apply p_qL (ops0 := #[]) rfl rfl rfl (Nat.le_of_ble_eq_true rfl)
          focus (intro w' hb; go_wp2_with fail; refine ⟨rfl, ?_, rfl⟩; simp only [List.getElem?_toArray, List.getElem?_cons_zero, List.getElem?_cons_succ, Option.some.injEq]; rfl)
          simp only [Act.put, List.setIfInBounds_toArray, List.set_cons_zero, List.set_cons_succ, Array.toArray_toList]
          apply p_qL (ops0 := #[]) rfl rfl rfl (Nat.le_of_ble_eq_true rfl)
          focus (intro w' hb; go_wp2_with fail; refine ⟨rfl, ?_, rfl⟩; simp only [List.getElem?_toArray, List.getElem?_cons_zero, List.getElem?_cons_succ, Option.some.injEq]; rfl)
          simp only [Act.put, List.setIfInBounds_toArray, List.set_cons_zero, List.set_cons_succ, Array.toArray_toList]
          apply p_q
          focus (intro w' hb; go_simp <;> rfl)
          simp only [Act.put, List.setIfInBounds_toArray, List.set_cons_zero, List.set_cons_succ, Array.toArray_toList]
          first
          | refine p_skip rfl ?_
          | (refine p_go rfl ?_; simp only [bare]; apply p_q; focus (intro w' hb; go_simp <;> rfl))
          simp only [Act.put, List.setIfInBounds_toArray, List.set_cons_zero, List.set_cons_succ, Array.toArray_toList]
          first
          | refine p_skip rfl ?_
          | (refine p_go rfl ?_; simp only [bare]; apply p_qL (ops0 := #[]) rfl rfl rfl (Nat.le_of_ble_eq_true rfl); focus (intro w' hb; go_wp2_with fail; refine ⟨rfl, ?_, rfl⟩; simp only [List.getElem?_toArray, List.getElem?_cons_zero, List.getElem?_cons_succ, Option.some.injEq]; rfl))
          simp only [Act.put, List.setIfInBounds_toArray, List.set_cons_zero, List.set_cons_succ, Array.toArray_toList]
          first
          | refine p_skip rfl ?_
          | (refine p_go rfl ?_; simp only [bare]; apply p_qL (ops0 := #[]) rfl rfl rfl (Nat.le_of_ble_eq_true rfl); focus (intro w' hb; go_wp2_with fail; refine ⟨rfl, ?_, rfl⟩; simp only [List.getElem?_toArray, List.getElem?_cons_zero, List.getElem?_cons_succ, Option.some.injEq]; rfl))
          simp only [Act.put, List.setIfInBounds_toArray, List.set_cons_zero, List.set_cons_succ, Array.toArray_toList]
          first
          | refine p_skip rfl ?_
          | (refine p_go rfl ?_; simp only [bare]; refine p_load1 rfl rfl (fun w' hb => cell_below hb (by assumption)) Tryd.underlying9 rfl ?_)
          simp only [Act.put, List.setIfInBounds_toArray, List.set_cons_zero, List.set_cons_succ, Array.toArray_toList]
          first
          | refine p_skip rfl ?_
          | (refine p_go rfl ?_; simp only [bare]; apply p_q; focus (intro w' hb; go_simp <;> rfl))
          simp only [Act.put, List.setIfInBounds_toArray, List.set_cons_zero, List.set_cons_succ, Array.toArray_toList]
          first
          | refine p_skip rfl ?_
          | (refine p_go rfl ?_; simp only [bare]; apply p_qL (ops0 := #[]) rfl rfl rfl (Nat.le_of_ble_eq_true rfl); focus (intro w' hb; go_wp2_with fail; refine ⟨rfl, ?_, rfl⟩; simp only [List.getElem?_toArray, List.getElem?_cons_zero, List.getElem?_cons_succ, Option.some.injEq]; rfl))
          simp only [Act.put, List.setIfInBounds_toArray, List.set_cons_zero, List.set_cons_succ, Array.toArray_toList]
          apply p_qL (ops0 := #[]) rfl rfl rfl (Nat.le_of_ble_eq_true rfl)
          focus (intro w' hb; go_wp2_with fail; refine ⟨rfl, ?_, rfl⟩; simp only [List.getElem?_toArray, List.getElem?_cons_zero, List.getElem?_cons_succ, Option.some.injEq]; rfl)
          simp only [Act.put, List.setIfInBounds_toArray, List.set_cons_zero, List.set_cons_succ, Array.toArray_toList]
          apply p_q
          focus (intro w' hb; go_simp <;> rfl)
          simp only [Act.put, List.setIfInBounds_toArray, List.set_cons_zero, List.set_cons_succ, Array.toArray_toList]
          first
          | refine p_skip rfl ?_
          | (refine p_go rfl ?_; simp only [bare]; apply p_q; focus (intro w' hb; go_simp <;> rfl))
          simp only [Act.put, List.setIfInBounds_toArray, List.set_cons_zero, List.set_cons_succ, Array.toArray_toList]
          first
          | refine p_skip rfl ?_
          | (refine p_go rfl ?_; simp only [bare]; apply p_qL (ops0 := #[]) rfl rfl rfl (Nat.le_of_ble_eq_true rfl); focus (intro w' hb; go_wp2_with fail; refine ⟨rfl, ?_, rfl⟩; simp only [List.getElem?_toArray, List.getElem?_cons_zero, List.getElem?_cons_succ, Option.some.injEq]; rfl))
          simp only [Act.put, List.setIfInBounds_toArray, List.set_cons_zero, List.set_cons_succ, Array.toArray_toList]
          first
          | refine p_skip rfl ?_
          | (refine p_go rfl ?_; simp only [bare]; apply p_qL (ops0 := #[]) rfl rfl rfl (Nat.le_of_ble_eq_true rfl); focus (intro w' hb; go_wp2_with fail; refine ⟨rfl, ?_, rfl⟩; simp only [List.getElem?_toArray, List.getElem?_cons_zero, List.getElem?_cons_succ, Option.some.injEq]; rfl))
          simp only [Act.put, List.setIfInBounds_toArray, List.set_cons_zero, List.set_cons_succ, Array.toArray_toList]
          first
          | refine p_skip rfl ?_
          | (refine p_go rfl ?_; simp only [bare]; refine p_load1 rfl rfl (fun w' hb => cell_below hb (by assumption)) Tryd.underlying9 rfl ?_)
          simp only [Act.put, List.setIfInBounds_toArray, List.set_cons_zero, List.set_cons_succ, Array.toArray_toList]
          first
          | refine p_skip rfl ?_
          | (refine p_go rfl ?_; simp only [bare]; apply p_q; focus (intro w' hb; go_simp <;> rfl))
          simp only [Act.put, List.setIfInBounds_toArray, List.set_cons_zero, List.set_cons_succ, Array.toArray_toList]
          first
          | refine p_skip rfl ?_
          | (refine p_go rfl ?_; simp only [bare]; apply p_qL (ops0 := #[]) rfl rfl rfl (Nat.le_of_ble_eq_true rfl); focus (intro w' hb; go_wp2_with fail; refine ⟨rfl, ?_, rfl⟩; simp only [List.getElem?_toArray, List.getElem?_cons_zero, List.getElem?_cons_succ, Option.some.injEq]; rfl))
          simp only [Act.put, List.setIfInBounds_toArray, List.set_cons_zero, List.set_cons_succ, Array.toArray_toList]
          apply p_qL (ops0 := #[]) rfl rfl rfl (Nat.le_of_ble_eq_true rfl)
          focus (intro w' hb; go_wp2_with fail; refine ⟨rfl, ?_, rfl⟩; simp only [List.getElem?_toArray, List.getElem?_cons_zero, List.getElem?_cons_succ, Option.some.injEq]; rfl)
          simp only [Act.put, List.setIfInBounds_toArray, List.set_cons_zero, List.set_cons_succ, Array.toArray_toList]
          apply p_q
          focus (intro w' hb; go_simp <;> rfl)
          simp only [Act.put, List.setIfInBounds_toArray, List.set_cons_zero, List.set_cons_succ, Array.toArray_toList]
          refine p_end ?_
          go_wp2
          go_ret
          exact ⟨by rw [HF2.out]; rfl, B3.drew⟩
  · have hm' : mayPf p = false := by simpa using hm
    have hh : lacks root p key = false := by unfold lacks; rw [hm']; rfl
    have HM := Lib.hid hm'
    have HF := Lib.hid hh
    clear hm hm' hh
    go_enter Tryd.func27, Tryd.ntmps27
    go_upto_region 1 with (fail)
    refine wp_rp ?_
    intro w1 B1 r1 p1
    go_wp2_with (first
      | (refine l_load rfl rfl rfl p1 Tryd.underlying27 rfl Tryd.infoPf ?_)
      | (go_at_call 30; refine (proof_MayB p false HM.out A c _ hc (Kd.C_below HH.out B1)).mono ?_; rintro e w2 ⟨rfl, hw2⟩))
    go_ret
    exact ⟨by rw [HF.out]; rfl, below_next B1 hw2⟩
end Go.Proofs.YtlkjeneffohnkaaDoor
