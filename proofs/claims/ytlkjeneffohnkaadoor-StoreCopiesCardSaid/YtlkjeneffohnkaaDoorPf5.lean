import Derived.Test.YtlkjeneffohnkaaDoorPf4
import Derived.Test.YtlkjeneffohnkaaDoorEqH
set_option linter.unusedVariables false
set_option linter.unusedSimpArgs false
namespace Go.Proofs.YtlkjeneffohnkaaDoor
open Go.RowKit Go.Proofs Go.Proofs.Plan Go.Proofs.YtlkjeneffohnkaaDoorW.PrintWords
theorem Tryd.plain8 : Tryd.prog.plainKey 5 = true := by kernel_rfl
theorem Tryd.cells8 : Tryd.prog.cellsOf 5 = 1 := by kernel_rfl
theorem Tryd.info8 : ∃ i, Tryd.prog.info? 5 = some i := Option.isSome_iff_exists.1 (by kernel_rfl)
theorem eqH (a b : Bs) (ha : a.size = 32) (hb : b.size = 32) : ∀ w, (Op.equalIn 10000 24 (.agg (hv a)) (.agg (hv b))).run Tryd.prog w = .ok (decide (a = b)) w := fun w => by
  obtain ⟨i, hi⟩ := Tryd.info8
  exact run_eqH Tryd.underlying24 Tryd.underlying5 Tryd.plain8 Tryd.cells8 hi a b ha hb w
theorem may_leaf {p : Pf} (h : mayPf p = true) {j : Nat} (hj : j < p.leaves.length) : mayLf p.count (p.leaves.getD j dL) = true := by
  simp only [mayPf, Bool.and_eq_true] at h
  exact all_iff.1 h.2 j hj
set_option maxHeartbeats 2000000 in
set_option maxRecDepth 100000 in
theorem proof_under (root : Bs) (r32 : root.size = 32) (p : Pf) (hm : mayPf p = true) (A : Option Addr) (c : Nat) (w : World) (ht : Tab w) (hc : p.leaves.length ≤ c) (h : kLf.C w A p.leaves.length p.leaves) :
    Calls Tryd.prog 86 #[.agg (hv root), .agg #[.int .i64 p.count, .slice A p.leaves.length c]] w fun e w' => e = .returned (.bool (p.leaves.all (stands root p.count))) ∧ Below w.heap.size w w' := by
  have hml : ∀ j, j < p.leaves.length → mayLf p.count (p.leaves.getD j dL) = true := fun j hj => may_leaf hm hj
  have hd : 0 ≤ p.count ∧ p.count ≤ 1073741824 ∧ p.leaves.length ≤ 2 := by
    simp only [mayPf, Bool.and_eq_true, decide_eq_true_eq] at hm
    exact ⟨hm.1.1.1, hm.1.1.2, hm.1.2⟩
  obtain ⟨d0, d1, d2⟩ := hd
  obtain ⟨m, hm0⟩ := Int.eq_ofNat_of_zero_le d0
  clear hm
  generalize p.leaves = L at *
  generalize p.count = C at *
  subst hm0
  have HH := Lib.hid h
  have HML := Lib.hid hml
  have HT := Lib.hid ht
  clear h hml ht d0
  go_enter Tryd.func86, Tryd.ntmps86
  go_upto_region 1 with (fail)
  refine wp_gen (fun wb => World.at_ wb ⟨w.heap.size, 0, none⟩ (YtlkjeneffohnkaaDoor.hc root) ∧ wb.cell? ⟨w.heap.size + 1, 0, none⟩ = some (.int .i64 (m : Int)) ∧ wb.cell? ⟨w.heap.size + 1, 1, none⟩ = some (.slice A L.length c) ∧ Below w.heap.size w wb) ?_ ?_
  · have h0 := heap_alloc_is w (.cells (hv root) 24) w.heap.size rfl
    have h1 := heap_alloc_is (w.alloc (.cells (hv root) 24)) (.cells #[.int .i64 (m : Int), .slice A L.length c] 27) (w.heap.size + 1) (by simp)
    exact ⟨at_block (heap_alloc_at h0), by rw [cell_of_row _ _ _ _ _ _ h1]; rfl, by rw [cell_of_row _ _ _ _ _ _ h1]; rfl, below_alloc (below_alloc (Below.refl _ _) _) _⟩
  rintro wb ⟨r0, f0, f1, hb0⟩
  go_wp2
  go_loopg [12] L.length (fun g i wr => ∃ k : Nat, k + g = L.length ∧ i = .int .i64 k ∧ (∀ j, j < k → stands root (m : Int) (L.getD j dL) = true) ∧ Below wb.heap.size wb wr)
  case atStart => exact ⟨0, by omega, rfl, fun j hj => by omega, Below.refl _ _⟩
  case round =>
    obtain ⟨k, hk, rfl, hall, hb⟩ := hrel
    have HA := Lib.hid hall
    clear hall
    by_cases hlt : k < L.length
    · obtain ⟨ad, B, c', rfl, hpc, hpath, hat⟩ := kLf_get HH.out k hlt
      have hmx := HML.out k hlt
      obtain ⟨x, hx⟩ : ∃ x, x = L.getD k dL := ⟨_, rfl⟩
      rw [← hx] at hat hpc hpath hmx
      have hat' : World.at_ wr (ad.add (k * 4)) [.string x.key, .string x.val, .int .i64 x.index, .slice B x.path.length c'] := at_below (below_next hb0 hb) hat
      have HX := Lib.hid hx
      have HPC := Lib.hid hpc
      have HPA := Lib.hid hpath
      clear hx hat hpc hpath
      simp only [mayLf, Bool.and_eq_true, decide_eq_true_eq] at hmx
      obtain ⟨⟨⟨hz1, hi0⟩, him⟩, hdp⟩ := hmx
      simp only [sized, Bool.and_eq_true, decide_eq_true_eq] at hz1
      obtain ⟨i, hi⟩ := Int.eq_ofNat_of_zero_le hi0
      rw [hi] at him hdp hat'
      have him' : i < m := by omega
      have hm1 : m ≤ 1073741824 := by omega
      have hsk : x.key.size ≤ 4294967296 ∧ x.val.size ≤ 4294967296 := by omega
      have hdp' : x.path.length = deep m i := hdp
      have hst : stands root (m : Int) x = decide (rootH m (fold m i (leafH x.key x.val) x.path) = root) := by unfold stands; rw [hi]; rfl
      have l32 : (leafH x.key x.val).size = 32 := sha_size _
      have f32 := fold_size m i (leafH x.key x.val) x.path l32
      have HST := Lib.hid hst
      have HDP := Lib.hid hdp'
      have HSK := Lib.hid hsk
      clear hz1 hi0 him hdp hi hst hdp' hsk
      go_upto_region 4 with (first | (refine l_load rfl rfl rfl hat' Tryd.underlying114 rfl Tryd.infoLf ?_))
      obtain ⟨w4, hw4⟩ : ∃ w4, w4 = wr.alloc (Obj.cells #[Value.string x.key, Value.string x.val, Value.int .i64 (i : Int), Value.slice B x.path.length c'] 114) := ⟨_, rfl⟩
      have q0 : w4.cell? ⟨wr.heap.size, 0, none⟩ = some (.string x.key) := by rw [hw4, cell_of_row _ _ _ _ _ _ (heap_alloc_is _ _ _ rfl)]; rfl
      have q1 : w4.cell? ⟨wr.heap.size, 1, none⟩ = some (.string x.val) := by rw [hw4, cell_of_row _ _ _ _ _ _ (heap_alloc_is _ _ _ rfl)]; rfl
      have q2 : w4.cell? ⟨wr.heap.size, 2, none⟩ = some (.int .i64 (i : Int)) := by rw [hw4, cell_of_row _ _ _ _ _ _ (heap_alloc_is _ _ _ rfl)]; rfl
      have q3 : w4.cell? ⟨wr.heap.size, 3, none⟩ = some (.slice B x.path.length c') := by rw [hw4, cell_of_row _ _ _ _ _ _ (heap_alloc_is _ _ _ rfl)]; rfl
      have hb4 : Below wb.heap.size wb w4 := by rw [hw4]; exact below_alloc hb _
      have q4 := cell_below hb4 f0
      have r4 := at_below hb4 r0
      rw [← hw4]
      clear hw4 hat'
      obtain ⟨T, hT⟩ : ∃ T, T = fold m i (leafH x.key x.val) x.path := ⟨_, rfl⟩
      have T32 : T.size = 32 := by rw [hT]; exact f32
      have zt : ∀ W : World, (W.alloc (Obj.cells (hv hz) 24)).there W.heap.size 0 32 := fun W => there_block (heap_alloc_is _ _ _ rfl) 0 32 (by rw [hv_size hz_size]; decide)
      have HZT := Lib.hid zt
      have HTT := Lib.hid hT
      have tf := fun W => tree_Fold m i x.path.length (leafH x.key x.val) B c' x.path W him' hm1 HDP.out HPC.out l32
      rw [← hT] at tf
      have HTF := Lib.hid tf
      clear hT zt f32 tf
      go_cut [7, 8] from 13 to 41 (fun u v w' => ∃ g, u = .pointer (some ⟨g, 0, none⟩) ∧ v = .bool true ∧ World.at_ w' ⟨g, 0, none⟩ (YtlkjeneffohnkaaDoor.hc T) ∧ Below w4.heap.size w4 w')
      case first =>
        refine wp_num (fun w' => Below w4.heap.size w4 w') [0, 1, 2, 3, 4, 5, 6, 7, 9, 10, 12, 13, 14, 17] (.c (0, none, none) (.c (1, none, none) (.c (2, none, none) (.c (3, none, none) (.c (4, none, none) (.c (5, none, none) (.c (6, none, none) (.c (7, none, none) (.c (9, none, none) (.c (10, none, none) (.f (.c (8, some true, none) (.f (.c (11, some true, none) (.c (12, none, none) (.c (13, none, none) (.c (14, none, none) (.c (15, some true, none) (.c (16, some true, none) (.c (17, none, none) (.nil)))))))) (.c (15, some true, none) (.c (11, some true, none) (.c (12, none, none) (.c (13, none, none) (.c (14, none, none) (.c (16, some true, none) (.c (17, none, none) (.nil)))))))))) (.c (15, some true, none) (.c (8, some true, none) (.c (11, some true, none) (.c (12, none, none) (.c (13, none, none) (.c (14, none, none) (.c (16, some true, none) (.c (17, none, none) (.nil)))))))))))))))))))) (by kernel_rfl) (by kernel_rfl) (by kernel_rfl) (fun _ _ d _ _ h => by cases d <;> exact h) (by kernel_rfl) ((Below.refl _ _).drew) ?_
        simp only [selE, nthO]
        apply p_qL (ops0 := #[]) rfl rfl rfl (Nat.le_of_ble_eq_true rfl)
        focus (intro w' hb; go_wp2_with fail; refine ⟨rfl, ?_, rfl⟩; simp only [List.getElem?_toArray, List.getElem?_cons_zero, List.getElem?_cons_succ, Option.some.injEq]; rfl)
        simp only [Act.put, List.setIfInBounds_toArray, List.set_cons_zero, List.set_cons_succ, Array.toArray_toList]
        refine p_load1 rfl rfl (fun w' hb => cell_below hb (by assumption)) Tryd.underlying3 rfl ?_
        simp only [Act.put, List.setIfInBounds_toArray, List.set_cons_zero, List.set_cons_succ, Array.toArray_toList]
        apply p_qL (ops0 := #[]) rfl rfl rfl (Nat.le_of_ble_eq_true rfl)
        focus (intro w' hb; go_wp2_with fail; refine ⟨rfl, ?_, rfl⟩; simp only [List.getElem?_toArray, List.getElem?_cons_zero, List.getElem?_cons_succ, Option.some.injEq]; rfl)
        simp only [Act.put, List.setIfInBounds_toArray, List.set_cons_zero, List.set_cons_succ, Array.toArray_toList]
        refine p_load1 rfl rfl (fun w' hb => cell_below hb (by assumption)) Tryd.underlying3 rfl ?_
        simp only [Act.put, List.setIfInBounds_toArray, List.set_cons_zero, List.set_cons_succ, Array.toArray_toList]
        apply p_qL (ops0 := #[]) rfl rfl rfl (Nat.le_of_ble_eq_true rfl)
        focus (intro w' hb; go_wp2_with fail; refine ⟨rfl, ?_, rfl⟩; simp only [List.getElem?_toArray, List.getElem?_cons_zero, List.getElem?_cons_succ, Option.some.injEq]; rfl)
        simp only [Act.put, List.setIfInBounds_toArray, List.set_cons_zero, List.set_cons_succ, Array.toArray_toList]
        refine p_load1 rfl rfl (fun w' hb => cell_below hb (by assumption)) Tryd.underlying9 rfl ?_
        simp only [Act.put, List.setIfInBounds_toArray, List.set_cons_zero, List.set_cons_succ, Array.toArray_toList]
        apply p_qL (ops0 := #[]) rfl rfl rfl (Nat.le_of_ble_eq_true rfl)
        focus (intro w' hb; go_wp2_with fail; refine ⟨rfl, ?_, rfl⟩; simp only [List.getElem?_toArray, List.getElem?_cons_zero, List.getElem?_cons_succ, Option.some.injEq]; rfl)
        simp only [Act.put, List.setIfInBounds_toArray, List.set_cons_zero, List.set_cons_succ, Array.toArray_toList]
        refine p_load1 rfl rfl (fun w' hb => cell_below hb (by assumption)) Tryd.underlying9 rfl ?_
        simp only [Act.put, List.setIfInBounds_toArray, List.set_cons_zero, List.set_cons_succ, Array.toArray_toList]
        apply p_qL (ops0 := #[]) rfl rfl rfl (Nat.le_of_ble_eq_true rfl)
        focus (intro w' hb; go_wp2_with fail; refine ⟨rfl, ?_, rfl⟩; simp only [List.getElem?_toArray, List.getElem?_cons_zero, List.getElem?_cons_succ, Option.some.injEq]; rfl)
        simp only [Act.put, List.setIfInBounds_toArray, List.set_cons_zero, List.set_cons_succ, Array.toArray_toList]
        refine p_load1 rfl rfl (fun w' hb => cell_below hb (by assumption)) Tryd.underlying112 rfl ?_
        simp only [Act.put, List.setIfInBounds_toArray, List.set_cons_zero, List.set_cons_succ, Array.toArray_toList]
        refine p_fork ?_ ?_
        · skip
          refine p_list (ops := #[]) rfl ?_
          go_wp2_with fail
          refine (tree_Leaf x.key x.val HSK.out.1 HSK.out.2 _ (tab_below (below_next hb0 (below_next hb4 ((Below.refl w4.heap.size w4).drew))) HT.out)).mono ?_
          rintro e w5 ⟨rfl, hw5⟩
          go_wp2_with fail
          have Bw5 : Below w4.heap.size w4 w5 := below_next ((Below.refl w4.heap.size w4).drew) hw5
          refine ⟨fun _ => Bw5, ?_⟩
          refine p_fork ?_ ?_
          · skip
            refine p_list (ops := #[]) rfl ?_
            go_wp2_with fail
            refine (HTF.out _ (tab_below (below_next hb0 (below_next hb4 (Bw5))) HT.out) (Kd.C_below HPA.out (below_next hb0 (below_next hb4 (Bw5))))).mono ?_
            rintro e w6 ⟨rfl, hw6⟩
            go_wp2_with fail
            have Bw6 : Below w4.heap.size w4 w6 := below_next (Bw5) hw6
            refine ⟨fun _ => Bw6, ?_⟩
            apply p_q
            focus (intro w' hb; go_simp <;> rfl)
            simp only [Act.put, List.setIfInBounds_toArray, List.set_cons_zero, List.set_cons_succ, Array.toArray_toList]
            apply p_q
            focus (intro w' hb; go_simp <;> rfl)
            simp only [Act.put, List.setIfInBounds_toArray, List.set_cons_zero, List.set_cons_succ, Array.toArray_toList]
            apply p_q
            focus (intro w' hb; go_simp <;> rfl)
            simp only [Act.put, List.setIfInBounds_toArray, List.set_cons_zero, List.set_cons_succ, Array.toArray_toList]
            refine p_list (ops := #[]) rfl ?_
            go_wp2_with fail
            refine ⟨fun _ => (Bw6).alloc (Bw6).size _, ?_⟩
            rw [z32_eq]
            have hg := Bw6.size
            refine p_storeH rfl rfl rfl (HZT.out _) T32 Tryd.info24 (fun _ => below_setCells _ _ _ (below_alloc Bw6 _) hg) ?_
            simp only [Act.put, List.setIfInBounds_toArray, List.set_cons_zero, List.set_cons_succ, Array.toArray_toList]
            apply p_q
            focus (intro w' hb; go_simp <;> rfl)
            simp only [Act.put, List.setIfInBounds_toArray, List.set_cons_zero, List.set_cons_succ, Array.toArray_toList]
            refine p_end ?_
            go_wp2
            go_meet
            case rel => exact ⟨_, rfl, rfl, at_range (World.rangeAt_setCells_same _ _ _ _ (by rw [hc_length T32]; exact HZT.out _)), below_setCells _ _ _ (below_alloc Bw6 _) hg⟩
          · skip
            refine p_list (ops := #[]) rfl ?_
            go_wp2_with fail
            refine ⟨fun _ => (Bw5).alloc (Bw5).size _, ?_⟩
            rw [z32_eq]
            have hg := Bw5.size
            have th := HZT.out w5
            generalize hE : w5.alloc (Obj.cells (hv hz) 24) = w5' at th ⊢
            have hb5 : Below w4.heap.size w4 w5' := by rw [← hE]; exact below_alloc Bw5 _
            refine p_list (ops := #[]) rfl ?_
            go_wp2_with fail
            refine (HTF.out _ (tab_below (below_next hb0 (below_next hb4 (hb5))) HT.out) (Kd.C_below HPA.out (below_next hb0 (below_next hb4 (hb5))))).mono ?_
            rintro e w6 ⟨rfl, hw6⟩
            go_wp2_with fail
            have Bw6 : Below w4.heap.size w4 w6 := below_next (hb5) hw6
            refine ⟨fun _ => Bw6, ?_⟩
            apply p_q
            focus (intro w' hb; go_simp <;> rfl)
            simp only [Act.put, List.setIfInBounds_toArray, List.set_cons_zero, List.set_cons_succ, Array.toArray_toList]
            apply p_q
            focus (intro w' hb; go_simp <;> rfl)
            simp only [Act.put, List.setIfInBounds_toArray, List.set_cons_zero, List.set_cons_succ, Array.toArray_toList]
            apply p_q
            focus (intro w' hb; go_simp <;> rfl)
            simp only [Act.put, List.setIfInBounds_toArray, List.set_cons_zero, List.set_cons_succ, Array.toArray_toList]
            refine p_storeH rfl rfl rfl (there_below hw6 th) T32 Tryd.info24 (fun _ => below_setCells _ _ _ (Bw6) hg) ?_
            simp only [Act.put, List.setIfInBounds_toArray, List.set_cons_zero, List.set_cons_succ, Array.toArray_toList]
            apply p_q
            focus (intro w' hb; go_simp <;> rfl)
            simp only [Act.put, List.setIfInBounds_toArray, List.set_cons_zero, List.set_cons_succ, Array.toArray_toList]
            refine p_end ?_
            go_wp2
            go_meet
            case rel => exact ⟨_, rfl, rfl, at_range (World.rangeAt_setCells_same _ _ _ _ (by rw [hc_length T32]; exact there_below hw6 th)), below_setCells _ _ _ (Bw6) hg⟩
        · skip
          refine p_list (ops := #[]) rfl ?_
          go_wp2_with fail
          refine ⟨fun _ => ((Below.refl w4.heap.size w4).drew).alloc ((Below.refl w4.heap.size w4).drew).size _, ?_⟩
          rw [z32_eq]
          have hg := Nat.le_refl w4.heap.size
          have th := there_below (w1 := (w4.alloc (Obj.cells (hv hz) 24)).drew) (Below.refl _ _).drew (HZT.out w4)
          generalize hE : (w4.alloc (Obj.cells (hv hz) 24)).drew = w5' at th ⊢
          have hb5 : Below w4.heap.size w4 w5' := by rw [← hE]; exact (below_alloc (Below.refl w4.heap.size w4) _).drew
          refine p_list (ops := #[]) rfl ?_
          go_wp2_with fail
          refine (tree_Leaf x.key x.val HSK.out.1 HSK.out.2 _ (tab_below (below_next hb0 (below_next hb4 (hb5))) HT.out)).mono ?_
          rintro e w6 ⟨rfl, hw6⟩
          go_wp2_with fail
          have Bw6 : Below w4.heap.size w4 w6 := below_next (hb5) hw6
          refine ⟨fun _ => Bw6, ?_⟩
          refine p_list (ops := #[]) rfl ?_
          go_wp2_with fail
          refine (HTF.out _ (tab_below (below_next hb0 (below_next hb4 (Bw6))) HT.out) (Kd.C_below HPA.out (below_next hb0 (below_next hb4 (Bw6))))).mono ?_
          rintro e w7 ⟨rfl, hw7⟩
          go_wp2_with fail
          have Bw7 : Below w4.heap.size w4 w7 := below_next (Bw6) hw7
          refine ⟨fun _ => Bw7, ?_⟩
          apply p_q
          focus (intro w' hb; go_simp <;> rfl)
          simp only [Act.put, List.setIfInBounds_toArray, List.set_cons_zero, List.set_cons_succ, Array.toArray_toList]
          apply p_q
          focus (intro w' hb; go_simp <;> rfl)
          simp only [Act.put, List.setIfInBounds_toArray, List.set_cons_zero, List.set_cons_succ, Array.toArray_toList]
          apply p_q
          focus (intro w' hb; go_simp <;> rfl)
          simp only [Act.put, List.setIfInBounds_toArray, List.set_cons_zero, List.set_cons_succ, Array.toArray_toList]
          refine p_storeH rfl rfl rfl (there_below (below_next hw6 hw7) th) T32 Tryd.info24 (fun _ => below_setCells _ _ _ (Bw7) hg) ?_
          simp only [Act.put, List.setIfInBounds_toArray, List.set_cons_zero, List.set_cons_succ, Array.toArray_toList]
          apply p_q
          focus (intro w' hb; go_simp <;> rfl)
          simp only [Act.put, List.setIfInBounds_toArray, List.set_cons_zero, List.set_cons_succ, Array.toArray_toList]
          refine p_end ?_
          go_wp2
          go_meet
          case rel => exact ⟨_, rfl, rfl, at_range (World.rangeAt_setCells_same _ _ _ _ (by rw [hc_length T32]; exact there_below (below_next hw6 hw7) th)), below_setCells _ _ _ (Bw7) hg⟩
      obtain ⟨g, rfl, rfl, hg, hb7⟩ := hcut
      have hb7' : Below wb.heap.size wb wc := below_next hb4 hb7
      have q5 := cell_below hb7' f0
      have r5 := at_below hb7' r0
      have eq := eqH (rootH m T) root (sha_size _) r32
      clear q0 q1 q2 q3 q4 r4 hb7
      go_upto_region 5 with (fail)
      by_cases hs : rootH m T = root
      · have hd' : decide (rootH m T = root) = true := decide_eq_true hs
        rw [hd'] at eq
        have HS := Lib.hid hs
        clear hs hd'
        refine wp_num (fun w' => Below wc.heap.size wc w') [0, 1, 2, 3, 4, 5, 7, 8, 9] (.c (0, none, none) (.c (1, none, none) (.c (2, none, none) (.c (3, none, some (33, false)) (.c (4, none, some (33, false)) (.c (5, none, some (33, false)) (.c (7, none, some (33, false)) (.c (6, some true, some (33, false)) (.c (8, none, some (33, false)) (.c (9, none, none) (.nil))))))))))) (by kernel_rfl) (by kernel_rfl) (by kernel_rfl) (fun _ _ d _ _ h => by cases d <;> exact h) (by kernel_rfl) ((Below.refl _ _).drew) ?_
        simp only [selE, nthO]
        apply p_q
        focus (intro w' hb; go_simp <;> rfl)
        simp only [Act.put, List.setIfInBounds_toArray, List.set_cons_zero, List.set_cons_succ, Array.toArray_toList]
        apply p_qL (ops0 := #[]) rfl rfl rfl (Nat.le_of_ble_eq_true rfl)
        focus (intro w' hb; go_wp2_with fail; refine ⟨rfl, ?_, rfl⟩; simp only [List.getElem?_toArray, List.getElem?_cons_zero, List.getElem?_cons_succ, Option.some.injEq]; rfl)
        simp only [Act.put, List.setIfInBounds_toArray, List.set_cons_zero, List.set_cons_succ, Array.toArray_toList]
        apply p_q
        focus (intro w' hb; go_simp <;> rfl)
        simp only [Act.put, List.setIfInBounds_toArray, List.set_cons_zero, List.set_cons_succ, Array.toArray_toList]
        first
        | refine p_skip rfl ?_
        | (refine p_go rfl ?_; simp only [bare]; apply p_qL (ops0 := #[]) rfl rfl rfl (Nat.le_of_ble_eq_true rfl); focus (intro w' hb; go_wp2_with fail; refine ⟨rfl, ?_, rfl⟩; simp only [List.getElem?_toArray, List.getElem?_cons_zero, List.getElem?_cons_succ, Option.some.injEq]; rfl))
        simp only [Act.put, List.setIfInBounds_toArray, List.set_cons_zero, List.set_cons_succ, Array.toArray_toList]
        first
        | refine p_skip rfl ?_
        | (refine p_go rfl ?_; simp only [bare]; refine p_load1 rfl rfl (fun w' hb => cell_below hb (by assumption)) Tryd.underlying3 rfl ?_)
        simp only [Act.put, List.setIfInBounds_toArray, List.set_cons_zero, List.set_cons_succ, Array.toArray_toList]
        first
        | refine p_skip rfl ?_
        | (refine p_go rfl ?_; simp only [bare]; refine p_loadH rfl rfl (fun w' hb => at_below hb (by assumption)) (by assumption) Tryd.underlying24 Tryd.info24 ?_)
        simp only [Act.put, List.setIfInBounds_toArray, List.set_cons_zero, List.set_cons_succ, Array.toArray_toList]
        first
        | refine p_skip rfl ?_
        | (refine p_go rfl ?_; simp only [bare]; refine p_loadH rfl rfl (fun w' hb => at_below hb (by assumption)) (by assumption) Tryd.underlying24 Tryd.info24 ?_)
        simp only [Act.put, List.setIfInBounds_toArray, List.set_cons_zero, List.set_cons_succ, Array.toArray_toList]
        refine p_go rfl ?_
        simp only [bare]
        refine p_list (ops := #[]) rfl ?_
        go_wp2_with fail
        refine (tree_Root m hm1 T T32 _ (tab_below (below_next hb0 (below_next hb7' ((Below.refl wc.heap.size wc).drew))) HT.out)).mono ?_
        rintro e w8 ⟨rfl, hw8⟩
        go_wp2_with fail
        have Bw8 : Below wc.heap.size wc w8 := below_next ((Below.refl wc.heap.size wc).drew) hw8
        refine ⟨fun _ => Bw8, ?_⟩
        first
        | refine p_skip rfl ?_
        | (refine p_go rfl ?_; simp only [bare]; apply p_qL (ops0 := #[]) rfl rfl rfl (Nat.le_of_ble_eq_true rfl); focus (intro w' hb; go_wp2_with fail; refine ⟨rfl, ?_, rfl⟩; simp only [List.getElem?_toArray, List.getElem?_cons_zero, List.getElem?_cons_succ, Option.some.injEq]; rfl))
        simp only [Act.put, List.setIfInBounds_toArray, List.set_cons_zero, List.set_cons_succ, Array.toArray_toList]
        apply p_qL (ops0 := #[]) rfl rfl rfl (Nat.le_of_ble_eq_true rfl)
        focus (intro w' hb; go_wp2_with fail; refine ⟨rfl, ?_, rfl⟩; simp only [List.getElem?_toArray, List.getElem?_cons_zero, List.getElem?_cons_succ, Option.some.injEq]; rfl)
        simp only [Act.put, List.setIfInBounds_toArray, List.set_cons_zero, List.set_cons_succ, Array.toArray_toList]
        refine p_end ?_
        go_wp2
        go_roundg (gk - 1)
        case measure => omega
        case rel =>
          refine ⟨k + 1, by omega, by go_num, fun j hj => ?_, below_next hb7' Bw8⟩
          by_cases hjk : j < k
          · exact HA.out j hjk
          · obtain rfl : j = k := by omega
            rw [← HX.out, HST.out, ← HTT.out]; exact decide_eq_true HS.out
      · have hd' : decide (rootH m T = root) = false := decide_eq_false hs
        rw [hd'] at eq
        have HS := Lib.hid hs
        clear hs hd'
        refine wp_num (fun w' => Below wc.heap.size wc w') [0, 1, 2, 3, 4, 5, 7, 8, 9] (.c (0, none, none) (.c (1, none, none) (.c (2, none, none) (.c (3, none, some (33, false)) (.c (4, none, some (33, false)) (.c (5, none, some (33, false)) (.c (7, none, some (33, false)) (.c (6, some true, some (33, false)) (.c (8, none, some (33, false)) (.c (9, none, none) (.nil))))))))))) (by kernel_rfl) (by kernel_rfl) (by kernel_rfl) (fun _ _ d _ _ h => by cases d <;> exact h) (by kernel_rfl) ((Below.refl _ _).drew) ?_
        simp only [selE, nthO]
        apply p_q
        focus (intro w' hb; go_simp <;> rfl)
        simp only [Act.put, List.setIfInBounds_toArray, List.set_cons_zero, List.set_cons_succ, Array.toArray_toList]
        apply p_qL (ops0 := #[]) rfl rfl rfl (Nat.le_of_ble_eq_true rfl)
        focus (intro w' hb; go_wp2_with fail; refine ⟨rfl, ?_, rfl⟩; simp only [List.getElem?_toArray, List.getElem?_cons_zero, List.getElem?_cons_succ, Option.some.injEq]; rfl)
        simp only [Act.put, List.setIfInBounds_toArray, List.set_cons_zero, List.set_cons_succ, Array.toArray_toList]
        apply p_q
        focus (intro w' hb; go_simp <;> rfl)
        simp only [Act.put, List.setIfInBounds_toArray, List.set_cons_zero, List.set_cons_succ, Array.toArray_toList]
        first
        | refine p_skip rfl ?_
        | (refine p_go rfl ?_; simp only [bare]; apply p_qL (ops0 := #[]) rfl rfl rfl (Nat.le_of_ble_eq_true rfl); focus (intro w' hb; go_wp2_with fail; refine ⟨rfl, ?_, rfl⟩; simp only [List.getElem?_toArray, List.getElem?_cons_zero, List.getElem?_cons_succ, Option.some.injEq]; rfl))
        simp only [Act.put, List.setIfInBounds_toArray, List.set_cons_zero, List.set_cons_succ, Array.toArray_toList]
        first
        | refine p_skip rfl ?_
        | (refine p_go rfl ?_; simp only [bare]; refine p_load1 rfl rfl (fun w' hb => cell_below hb (by assumption)) Tryd.underlying3 rfl ?_)
        simp only [Act.put, List.setIfInBounds_toArray, List.set_cons_zero, List.set_cons_succ, Array.toArray_toList]
        first
        | refine p_skip rfl ?_
        | (refine p_go rfl ?_; simp only [bare]; refine p_loadH rfl rfl (fun w' hb => at_below hb (by assumption)) (by assumption) Tryd.underlying24 Tryd.info24 ?_)
        simp only [Act.put, List.setIfInBounds_toArray, List.set_cons_zero, List.set_cons_succ, Array.toArray_toList]
        first
        | refine p_skip rfl ?_
        | (refine p_go rfl ?_; simp only [bare]; refine p_loadH rfl rfl (fun w' hb => at_below hb (by assumption)) (by assumption) Tryd.underlying24 Tryd.info24 ?_)
        simp only [Act.put, List.setIfInBounds_toArray, List.set_cons_zero, List.set_cons_succ, Array.toArray_toList]
        refine p_go rfl ?_
        simp only [bare]
        refine p_list (ops := #[]) rfl ?_
        go_wp2_with fail
        refine (tree_Root m hm1 T T32 _ (tab_below (below_next hb0 (below_next hb7' ((Below.refl wc.heap.size wc).drew))) HT.out)).mono ?_
        rintro e w8 ⟨rfl, hw8⟩
        go_wp2_with fail
        have Bw8 : Below wc.heap.size wc w8 := below_next ((Below.refl wc.heap.size wc).drew) hw8
        refine ⟨fun _ => Bw8, ?_⟩
        first
        | refine p_skip rfl ?_
        | (refine p_go rfl ?_; simp only [bare]; apply p_qL (ops0 := #[]) rfl rfl rfl (Nat.le_of_ble_eq_true rfl); focus (intro w' hb; go_wp2_with fail; refine ⟨rfl, ?_, rfl⟩; simp only [List.getElem?_toArray, List.getElem?_cons_zero, List.getElem?_cons_succ, Option.some.injEq]; rfl))
        simp only [Act.put, List.setIfInBounds_toArray, List.set_cons_zero, List.set_cons_succ, Array.toArray_toList]
        apply p_qL (ops0 := #[]) rfl rfl rfl (Nat.le_of_ble_eq_true rfl)
        focus (intro w' hb; go_wp2_with fail; refine ⟨rfl, ?_, rfl⟩; simp only [List.getElem?_toArray, List.getElem?_cons_zero, List.getElem?_cons_succ, Option.some.injEq]; rfl)
        simp only [Act.put, List.setIfInBounds_toArray, List.set_cons_zero, List.set_cons_succ, Array.toArray_toList]
        refine p_end ?_
        go_wp2
        go_ret
        exact ⟨by rw [all_false hlt (by rw [← HX.out, HST.out, ← HTT.out]; exact decide_eq_false HS.out)]; rfl, below_next hb0 (below_next hb7' Bw8)⟩
    · obtain rfl : k = L.length := by omega
      have hg : L.all (stands root (m : Int)) = true := all_iff.2 (fun j hj => HA.out j hj)
      have HG := Lib.hid hg
      clear hg
      go_wp2
      go_ret
      exact ⟨by rw [HG.out]; rfl, below_next hb0 hb⟩
end Go.Proofs.YtlkjeneffohnkaaDoor
