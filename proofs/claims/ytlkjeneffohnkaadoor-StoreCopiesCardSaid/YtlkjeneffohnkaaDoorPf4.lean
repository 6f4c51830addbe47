import Derived.Test.YtlkjeneffohnkaaDoorPf3
set_option linter.unusedVariables false
set_option linter.unusedSimpArgs false
namespace Go.Proofs.YtlkjeneffohnkaaDoor
open Go.RowKit Go.Proofs Go.Proofs.Plan Go.Proofs.YtlkjeneffohnkaaDoorW.PrintWords
theorem all_iff {xs : List Lf} {f : Lf → Bool} : xs.all f = true ↔ ∀ j, j < xs.length → f (xs.getD j dL) = true := by
  rw [List.all_eq_true]
  constructor
  · intro h j hj; rw [getD_lt xs dL hj]; exact h _ (List.getElem_mem hj)
  · intro h x hx
    obtain ⟨j, hj, rfl⟩ := List.mem_iff_getElem.1 hx
    have := h j hj
    rwa [getD_lt xs dL hj] at this
theorem all_false {xs : List Lf} {f : Lf → Bool} {j : Nat} (hj : j < xs.length) (h : f (xs.getD j dL) = false) : xs.all f = false := by
  cases hg : xs.all f
  · rfl
  · rw [all_iff.1 hg j hj] at h; cases h
set_option maxHeartbeats 2000000 in
set_option maxRecDepth 100000 in
theorem proof_May (p : Pf) (A : Option Addr) (c : Nat) (w : World) (hc : p.leaves.length ≤ c) (h : kLf.C w A p.leaves.length p.leaves) :
    Calls Tryd.prog 30 #[.agg #[.int .i64 p.count, .slice A p.leaves.length c]] w fun e w' => e = .returned (.bool (mayPf p)) ∧ Below w.heap.size w w' := by
  have HH := Lib.hid h
  clear h
  by_cases hd : 0 ≤ p.count ∧ p.count ≤ 1073741824 ∧ p.leaves.length ≤ 2
  · obtain ⟨d0, d1, d2⟩ := hd
    have c0 : (p.count < 0) = False := eq_false (by omega)
    have c1 : (1073741824 < p.count) = False := eq_false (by omega)
    have c2 : decide (2 < (p.leaves.length : Int)) = false := decide_eq_false (by omega)
    have hm : mayPf p = p.leaves.all (mayLf p.count) := by
      unfold mayPf; rw [decide_eq_true d0, decide_eq_true d1, decide_eq_true d2]; rfl
    have HM := Lib.hid hm
    obtain ⟨m, hm0⟩ := Int.eq_ofNat_of_zero_le d0
    clear hm
    generalize hL : p.leaves = L at HH HM hc d2 c2 ⊢
    generalize hC : p.count = C at HM d0 d1 c0 c1 hm0 ⊢
    clear hL hC
    subst hm0
    go_enter Tryd.func30, Tryd.ntmps30
    go_upto_region 1 with (fail)
    refine wp_gen (fun wb => wb.cell? ⟨w.heap.size, 0, none⟩ = some (.int .i64 (m : Int)) ∧ wb.cell? ⟨w.heap.size, 1, none⟩ = some (.slice A L.length c) ∧ Below w.heap.size w wb) ?_ ?_
    · have h0 := heap_alloc_is w (.cells #[.int .i64 (m : Int), .slice A L.length c] 27) w.heap.size rfl
      exact ⟨by rw [cell_of_row _ _ _ _ _ _ h0]; rfl, by rw [cell_of_row _ _ _ _ _ _ h0]; rfl, below_alloc (Below.refl _ _) _⟩
    rintro wb ⟨f0, f1, hb0⟩
    go_wp2
    go_loopg [22] L.length (fun g i wr => ∃ k : Nat, k + g = L.length ∧ i = .int .i64 k ∧ (∀ j, j < k → mayLf (m : Int) (L.getD j dL) = true) ∧ Below wb.heap.size wb wr)
    case atStart => exact ⟨0, by omega, rfl, fun j hj => by omega, Below.refl _ _⟩
    case round =>
      obtain ⟨k, hk, rfl, hall, hb⟩ := hrel
      have HA := Lib.hid hall
      clear hall
      by_cases hlt : k < L.length
      · obtain ⟨ad, B, c', rfl, hpc, hpath, hat⟩ := kLf_get HH.out k hlt
        obtain ⟨x, hx⟩ : ∃ x, x = L.getD k dL := ⟨_, rfl⟩
        rw [← hx] at hat hpc hpath
        have hat' : World.at_ wr (ad.add (k * 4)) [.string x.key, .string x.val, .int .i64 x.index, .slice B x.path.length c'] := at_below (below_next hb0 hb) hat
        have HX := Lib.hid hx
        have HP := Lib.hid (And.intro hpc hpath)
        clear hx hat hpc hpath
        go_upto_region 6 with (first | (refine l_load rfl rfl rfl hat' Tryd.underlying114 rfl Tryd.infoLf ?_))
        obtain ⟨w4, hw4⟩ : ∃ w4, w4 = wr.alloc (Obj.cells #[Value.string x.key, Value.string x.val, Value.int .i64 x.index, Value.slice B x.path.length c'] 114) := ⟨_, rfl⟩
        have q0 : w4.cell? ⟨wr.heap.size, 0, none⟩ = some (.string x.key) := by rw [hw4, cell_of_row _ _ _ _ _ _ (heap_alloc_is _ _ _ rfl)]; rfl
        have q1 : w4.cell? ⟨wr.heap.size, 1, none⟩ = some (.string x.val) := by rw [hw4, cell_of_row _ _ _ _ _ _ (heap_alloc_is _ _ _ rfl)]; rfl
        have q2 : w4.cell? ⟨wr.heap.size, 2, none⟩ = some (.int .i64 x.index) := by rw [hw4, cell_of_row _ _ _ _ _ _ (heap_alloc_is _ _ _ rfl)]; rfl
        have q3 : w4.cell? ⟨wr.heap.size, 3, none⟩ = some (.slice B x.path.length c') := by rw [hw4, cell_of_row _ _ _ _ _ _ (heap_alloc_is _ _ _ rfl)]; rfl
        have hb4 : Below wb.heap.size wb w4 := by rw [hw4]; exact below_alloc hb _
        have q4 := cell_below hb4 f0
        rw [← hw4]
        clear hw4
        by_cases hs : sized x.key x.val = true
        · by_cases hi0 : 0 ≤ x.index
          · by_cases him : x.index < (m : Int)
            · obtain ⟨i, hi⟩ := Int.eq_ofNat_of_zero_le hi0
              by_cases hdp : x.path.length = deep m i
              · have hF : mayLf (m : Int) x = true := by
                  simp only [mayLf, Bool.and_eq_true, decide_eq_true_eq]
                  exact ⟨⟨⟨hs, hi0⟩, him⟩, by rw [hi]; exact hdp⟩
                have HF := Lib.hid hF
                have HZ := Lib.hid hs
                rw [hi] at q2
                have e0 : ((x.path.length : Int) != ((deep m i : Nat) : Int)) = false := by rw [hdp]; simp
                have e1 : ((i : Int) < 0) = False := eq_false (by omega)
                have e2 : (m ≤ i) = False := eq_false (by omega)
                have him' : i < m := by omega
                have hm1 : m ≤ 1073741824 := by omega
                clear hs hF hi0 him hi hdp d0 hat'
                refine wp_num (fun w' => Below w4.heap.size w4 w') [0, 1, 2, 3, 5, 6, 7, 8, 9, 10, 11, 12, 13, 14, 15, 16, 17, 18, 19, 20, 21, 22, 23, 24, 25, 27, 28] (.c (0, none, none) (.c (1, none, none) (.c (2, none, none) (.c (3, none, none) (.c (4, some true, none) (.c (5, none, none) (.c (6, none, none) (.c (7, none, some (32, false)) (.c (8, none, some (32, false)) (.c (9, none, some (32, false)) (.c (10, none, none) (.c (11, none, none) (.c (12, none, some (37, false)) (.c (13, none, some (37, false)) (.c (14, none, some (37, false)) (.c (15, none, some (37, false)) (.c (16, none, some (37, false)) (.c (17, none, none) (.c (18, none, none) (.c (19, none, some (44, false)) (.c (20, none, some (44, false)) (.c (21, none, some (44, false)) (.c (22, none, some (44, false)) (.c (23, none, some (44, false)) (.c (24, none, some (44, false)) (.c (25, none, some (44, false)) (.c (26, some true, some (44, false)) (.c (27, none, some (44, false)) (.c (28, none, none) (.nil)))))))))))))))))))))))))))))) (by kernel_rfl) (by kernel_rfl) (by kernel_rfl) (fun _ _ d _ _ h => by cases d <;> exact h) (by kernel_rfl) ((Below.refl _ _).drew) ?_
                simp only [selE, nthO]
                apply p_qL (ops0 := #[]) rfl rfl rfl (Nat.le_of_ble_eq_true rfl)
                focus (intro w' hb; go_wp2_with fail; refine ⟨rfl, ?_, rfl⟩; simp only [List.getElem?_toArray, List.getElem?_cons_zero, List.getElem?_cons_succ, Option.some.injEq]; rfl)
                simp only [Act.put, List.setIfInBounds_toArray, List.set_cons_zero, List.set_cons_succ, Array.toArray_toList]
                refine p_load1 rfl rfl (fun w' hb => cell_below hb (by assumption)) Tryd.underlying9 rfl ?_
                simp only [Act.put, List.setIfInBounds_toArray, List.set_cons_zero, List.set_cons_succ, Array.toArray_toList]
                apply p_qL (ops0 := #[]) rfl rfl rfl (Nat.le_of_ble_eq_true rfl)
                focus (intro w' hb; go_wp2_with fail; refine ⟨rfl, ?_, rfl⟩; simp only [List.getElem?_toArray, List.getElem?_cons_zero, List.getElem?_cons_succ, Option.some.injEq]; rfl)
                simp only [Act.put, List.setIfInBounds_toArray, List.set_cons_zero, List.set_cons_succ, Array.toArray_toList]
                refine p_load1 rfl rfl (fun w' hb => cell_below hb (by assumption)) Tryd.underlying9 rfl ?_
                simp only [Act.put, List.setIfInBounds_toArray, List.set_cons_zero, List.set_cons_succ, Array.toArray_toList]
                refine p_list (ops := #[]) rfl ?_
                go_wp2_with fail
                refine (proof_sizedB x.key x.val true HZ.out _).mono ?_
                rintro e _ ⟨rfl, rfl⟩
                go_wp2_with fail
                refine ⟨fun _ => (Below.refl w4.heap.size w4).drew, ?_⟩
                apply p_qL (ops0 := #[]) rfl rfl rfl (Nat.le_of_ble_eq_true rfl)
                focus (intro w' hb; go_wp2_with fail; refine ⟨rfl, ?_, rfl⟩; simp only [List.getElem?_toArray, List.getElem?_cons_zero, List.getElem?_cons_succ, Option.some.injEq]; rfl)
                simp only [Act.put, List.setIfInBounds_toArray, List.set_cons_zero, List.set_cons_succ, Array.toArray_toList]
                apply p_q
                focus (intro w' hb; go_simp <;> rfl)
                simp only [Act.put, List.setIfInBounds_toArray, List.set_cons_zero, List.set_cons_succ, Array.toArray_toList]
                first
                | refine p_skip rfl ?_
                | (refine p_go rfl ?_; simp only [bare]; apply p_qL (ops0 := #[]) rfl rfl rfl (Nat.le_of_ble_eq_true rfl); focus (intro w' hb; go_wp2_with fail; refine ⟨rfl, ?_, rfl⟩; simp only [List.getElem?_toArray, List.getElem?_cons_zero, List.getElem?_cons_succ, Option.some.injEq]; rfl))
                simp only [Act.put, List.setIfInBounds_toArray, List.set_cons_zero, List.set_cons_succ, Array.toArray_toList]
                first
                | refine p_skip rfl ?_
                | (refine p_go rfl ?_; simp only [bare]; refine p_load1 rfl rfl (fun w' hb => cell_below hb (by assumption)) Tryd.underlying3 rfl ?_)
                simp only [Act.put, List.setIfInBounds_toArray, List.set_cons_zero, List.set_cons_succ, Array.toArray_toList]
                first
                | refine p_skip rfl ?_
                | (refine p_go rfl ?_; simp only [bare]; apply p_qL (ops0 := #[]) rfl rfl rfl (Nat.le_of_ble_eq_true rfl); focus (intro w' hb; go_wp2_with fail; refine ⟨rfl, ?_, rfl⟩; simp only [List.getElem?_toArray, List.getElem?_cons_zero, List.getElem?_cons_succ, Option.some.injEq]; rfl))
                simp only [Act.put, List.setIfInBounds_toArray, List.set_cons_zero, List.set_cons_succ, Array.toArray_toList]
                apply p_qL (ops0 := #[]) rfl rfl rfl (Nat.le_of_ble_eq_true rfl)
                focus (intro w' hb; go_wp2_with fail; refine ⟨rfl, ?_, rfl⟩; simp only [List.getElem?_toArray, List.getElem?_cons_zero, List.getElem?_cons_succ, Option.some.injEq]; rfl)
                simp only [Act.put, List.setIfInBounds_toArray, List.set_cons_zero, List.set_cons_succ, Array.toArray_toList]
                apply p_q
                focus (intro w' hb; go_simp <;> rfl)
                simp only [Act.put, List.setIfInBounds_toArray, List.set_cons_zero, List.set_cons_succ, Array.toArray_toList]
                first
                | refine p_skip rfl ?_
                | (refine p_go rfl ?_; simp only [bare]; apply p_qL (ops0 := #[]) rfl rfl rfl (Nat.le_of_ble_eq_true rfl); focus (intro w' hb; go_wp2_with fail; refine ⟨rfl, ?_, rfl⟩; simp only [List.getElem?_toArray, List.getElem?_cons_zero, List.getElem?_cons_succ, Option.some.injEq]; rfl))
                simp only [Act.put, List.setIfInBounds_toArray, List.set_cons_zero, List.set_cons_succ, Array.toArray_toList]
                first
                | refine p_skip rfl ?_
                | (refine p_go rfl ?_; simp only [bare]; refine p_load1 rfl rfl (fun w' hb => cell_below hb (by assumption)) Tryd.underlying3 rfl ?_)
                simp only [Act.put, List.setIfInBounds_toArray, List.set_cons_zero, List.set_cons_succ, Array.toArray_toList]
                first
                | refine p_skip rfl ?_
                | (refine p_go rfl ?_; simp only [bare]; apply p_qL (ops0 := #[]) rfl rfl rfl (Nat.le_of_ble_eq_true rfl); focus (intro w' hb; go_wp2_with fail; refine ⟨rfl, ?_, rfl⟩; simp only [List.getElem?_toArray, List.getElem?_cons_zero, List.getElem?_cons_succ, Option.some.injEq]; rfl))
                simp only [Act.put, List.setIfInBounds_toArray, List.set_cons_zero, List.set_cons_succ, Array.toArray_toList]
                first
                | refine p_skip rfl ?_
                | (refine p_go rfl ?_; simp only [bare]; refine p_load1 rfl rfl (fun w' hb => cell_below hb (by assumption)) Tryd.underlying3 rfl ?_)
                simp only [Act.put, List.setIfInBounds_toArray, List.set_cons_zero, List.set_cons_succ, Array.toArray_toList]
                first
                | refine p_skip rfl ?_
                | (refine p_go rfl ?_; simp only [bare]; apply p_qL (ops0 := #[]) rfl rfl rfl (Nat.le_of_ble_eq_true rfl); focus (intro w' hb; go_wp2_with fail; refine ⟨rfl, ?_, rfl⟩; simp only [List.getElem?_toArray, List.getElem?_cons_zero, List.getElem?_cons_succ, Option.some.injEq]; rfl))
                simp only [Act.put, List.setIfInBounds_toArray, List.set_cons_zero, List.set_cons_succ, Array.toArray_toList]
                apply p_qL (ops0 := #[]) rfl rfl rfl (Nat.le_of_ble_eq_true rfl)
                focus (intro w' hb; go_wp2_with fail; refine ⟨rfl, ?_, rfl⟩; simp only [List.getElem?_toArray, List.getElem?_cons_zero, List.getElem?_cons_succ, Option.some.injEq]; rfl)
                simp only [Act.put, List.setIfInBounds_toArray, List.set_cons_zero, List.set_cons_succ, Array.toArray_toList]
                apply p_q
                focus (intro w' hb; go_simp <;> rfl)
                simp only [Act.put, List.setIfInBounds_toArray, List.set_cons_zero, List.set_cons_succ, Array.toArray_toList]
                first
                | refine p_skip rfl ?_
                | (refine p_go rfl ?_; simp only [bare]; apply p_qL (ops0 := #[]) rfl rfl rfl (Nat.le_of_ble_eq_true rfl); focus (intro w' hb; go_wp2_with fail; refine ⟨rfl, ?_, rfl⟩; simp only [List.getElem?_toArray, List.getElem?_cons_zero, List.getElem?_cons_succ, Option.some.injEq]; rfl))
                simp only [Act.put, List.setIfInBounds_toArray, List.set_cons_zero, List.set_cons_succ, Array.toArray_toList]
                first
                | refine p_skip rfl ?_
                | (refine p_go rfl ?_; simp only [bare]; refine p_load1 rfl rfl (fun w' hb => cell_below hb (by assumption)) Tryd.underlying112 rfl ?_)
                simp only [Act.put, List.setIfInBounds_toArray, List.set_cons_zero, List.set_cons_succ, Array.toArray_toList]
                first
                | refine p_skip rfl ?_
                | (refine p_go rfl ?_; simp only [bare]; apply p_q; focus (intro w' hb; go_simp <;> rfl))
                simp only [Act.put, List.setIfInBounds_toArray, List.set_cons_zero, List.set_cons_succ, Array.toArray_toList]
                first
                | refine p_skip rfl ?_
                | (refine p_go rfl ?_; simp only [bare]; apply p_qL (ops0 := #[]) rfl rfl rfl (Nat.le_of_ble_eq_true rfl); focus (intro w' hb; go_wp2_with fail; refine ⟨rfl, ?_, rfl⟩; simp only [List.getElem?_toArray, List.getElem?_cons_zero, List.getElem?_cons_succ, Option.some.injEq]; rfl))
                simp only [Act.put, List.setIfInBounds_toArray, List.set_cons_zero, List.set_cons_succ, Array.toArray_toList]
                first
                | refine p_skip rfl ?_
                | (refine p_go rfl ?_; simp only [bare]; refine p_load1 rfl rfl (fun w' hb => cell_below hb (by assumption)) Tryd.underlying3 rfl ?_)
                simp only [Act.put, List.setIfInBounds_toArray, List.set_cons_zero, List.set_cons_succ, Array.toArray_toList]
                first
                | refine p_skip rfl ?_
                | (refine p_go rfl ?_; simp only [bare]; apply p_qL (ops0 := #[]) rfl rfl rfl (Nat.le_of_ble_eq_true rfl); focus (intro w' hb; go_wp2_with fail; refine ⟨rfl, ?_, rfl⟩; simp only [List.getElem?_toArray, List.getElem?_cons_zero, List.getElem?_cons_succ, Option.some.injEq]; rfl))
                simp only [Act.put, List.setIfInBounds_toArray, List.set_cons_zero, List.set_cons_succ, Array.toArray_toList]
                first
                | refine p_skip rfl ?_
                | (refine p_go rfl ?_; simp only [bare]; refine p_load1 rfl rfl (fun w' hb => cell_below hb (by assumption)) Tryd.underlying3 rfl ?_)
                simp only [Act.put, List.setIfInBounds_toArray, List.set_cons_zero, List.set_cons_succ, Array.toArray_toList]
                refine p_go rfl ?_
                simp only [bare]
                refine p_list (ops := #[]) rfl ?_
                go_wp2_with fail
                refine (tree_Deep m i him' hm1 _).mono ?_
                rintro e _ ⟨rfl, rfl⟩
                go_wp2_with fail
                refine ⟨fun _ => (Below.refl w4.heap.size w4).drew, ?_⟩
                first
                | refine p_skip rfl ?_
                | (refine p_go rfl ?_; simp only [bare]; apply p_qL (ops0 := #[]) rfl rfl rfl (Nat.le_of_ble_eq_true rfl); focus (intro w' hb; go_wp2_with fail; refine ⟨rfl, ?_, rfl⟩; simp only [List.getElem?_toArray, List.getElem?_cons_zero, List.getElem?_cons_succ, Option.some.injEq]; rfl))
                simp only [Act.put, List.setIfInBounds_toArray, List.set_cons_zero, List.set_cons_succ, Array.toArray_toList]
                apply p_qL (ops0 := #[]) rfl rfl rfl (Nat.le_of_ble_eq_true rfl)
                focus (intro w' hb; go_wp2_with fail; refine ⟨rfl, ?_, rfl⟩; simp only [List.getElem?_toArray, List.getElem?_cons_zero, List.getElem?_cons_succ, Option.some.injEq]; rfl)
                simp only [Act.put, List.setIfInBounds_toArray, List.set_cons_zero, List.set_cons_succ, Array.toArray_toList]
                refine p_end ?_
                go_wp2
                go_roundg (gk - 1)
                case measure => omega
                case rel =>
                  refine ⟨k + 1, by omega, by go_num, fun j hj => ?_, hb4.drew⟩
                  by_cases hjk : j < k
                  · exact HA.out j hjk
                  · obtain rfl : j = k := by omega
                    rw [← HX.out]; exact HF.out
              · have hF : mayLf (m : Int) x = false := by
                  cases hF : mayLf (m : Int) x
                  · rfl
                  · simp only [mayLf, Bool.and_eq_true, decide_eq_true_eq] at hF
                    rw [hi] at hF
                    exact absurd hF.2 hdp
                have HF := Lib.hid hF
                have HZ := Lib.hid hs
                rw [hi] at q2
                have e0 : ((x.path.length : Int) != ((deep m i : Nat) : Int)) = true := by simp; omega
                have e1 : ((i : Int) < 0) = False := eq_false (by omega)
                have e2 : (m ≤ i) = False := eq_false (by omega)
                have him' : i < m := by omega
                have hm1 : m ≤ 1073741824 := by omega
                clear hs hF hi0 him hi hdp d0 hat'
                refine wp_num (fun w' => Below w4.heap.size w4 w') [0, 1, 2, 3, 5, 6, 7, 8, 9, 10, 11, 12, 13, 14, 15, 16, 17, 18, 19, 20, 21, 22, 23, 24, 25, 27, 28] (.c (0, none, none) (.c (1, none, none) (.c (2, none, none) (.c (3, none, none) (.c (4, some true, none) (.c (5, none, none) (.c (6, none, none) (.c (7, none, some (32, false)) (.c (8, none, some (32, false)) (.c (9, none, some (32, false)) (.c (10, none, none) (.c (11, none, none) (.c (12, none, some (37, false)) (.c (13, none, some (37, false)) (.c (14, none, some (37, false)) (.c (15, none, some (37, false)) (.c (16, none, some (37, false)) (.c (17, none, none) (.c (18, none, none) (.c (19, none, some (44, false)) (.c (20, none, some (44, false)) (.c (21, none, some (44, false)) (.c (22, none, some (44, false)) (.c (23, none, some (44, false)) (.c (24, none, some (44, false)) (.c (25, none, some (44, false)) (.c (26, some true, some (44, false)) (.c (27, none, some (44, false)) (.c (28, none, none) (.nil)))))))))))))))))))))))))))))) (by kernel_rfl) (by kernel_rfl) (by kernel_rfl) (fun _ _ d _ _ h => by cases d <;> exact h) (by kernel_rfl) ((Below.refl _ _).drew) ?_
                simp only [selE, nthO]
                apply p_qL (ops0 := #[]) rfl rfl rfl (Nat.le_of_ble_eq_true rfl)
                focus (intro w' hb; go_wp2_with fail; refine ⟨rfl, ?_, rfl⟩; simp only [List.getElem?_toArray, List.getElem?_cons_zero, List.getElem?_cons_succ, Option.some.injEq]; rfl)
                simp only [Act.put, List.setIfInBounds_toArray, List.set_cons_zero, List.set_cons_succ, Array.toArray_toList]
                refine p_load1 rfl rfl (fun w' hb => cell_below hb (by assumption)) Tryd.underlying9 rfl ?_
                simp only [Act.put, List.setIfInBounds_toArray, List.set_cons_zero, List.set_cons_succ, Array.toArray_toList]
                apply p_qL (ops0 := #[]) rfl rfl rfl (Nat.le_of_ble_eq_true rfl)
                focus (intro w' hb; go_wp2_with fail; refine ⟨rfl, ?_, rfl⟩; simp only [List.getElem?_toArray, List.getElem?_cons_zero, List.getElem?_cons_succ, Option.some.injEq]; rfl)
                simp only [Act.put, List.setIfInBounds_toArray, List.set_cons_zero, List.set_cons_succ, Array.toArray_toList]
                refine p_load1 rfl rfl (fun w' hb => cell_below hb (by assumption)) Tryd.underlying9 rfl ?_
                simp only [Act.put, List.setIfInBounds_toArray, List.set_cons_zero, List.set_cons_succ, Array.toArray_toList]
                refine p_list (ops := #[]) rfl ?_
                go_wp2_with fail
                refine (proof_sizedB x.key x.val true HZ.out _).mono ?_
                rintro e _ ⟨rfl, rfl⟩
                go_wp2_with fail
                refine ⟨fun _ => (Below.refl w4.heap.size w4).drew, ?_⟩
                apply p_qL (ops0 := #[]) rfl rfl rfl (Nat.le_of_ble_eq_true rfl)
                focus (intro w' hb; go_wp2_with fail; refine ⟨rfl, ?_, rfl⟩; simp only [List.getElem?_toArray, List.getElem?_cons_zero, List.getElem?_cons_succ, Option.some.injEq]; rfl)
                simp only [Act.put, List.setIfInBounds_toArray, List.set_cons_zero, List.set_cons_succ, Array.toArray_toList]
                apply p_q
                focus (intro w' hb; go_simp <;> rfl)
                simp only [Act.put, List.setIfInBounds_toArray, List.set_cons_zero, List.set_cons_succ, Array.toArray_toList]
                first
                | refine p_skip rfl ?_
                | (refine p_go rfl ?_; simp only [bare]; apply p_qL (ops0 := #[]) rfl rfl rfl (Nat.le_of_ble_eq_true rfl); focus (intro w' hb; go_wp2_with fail; refine ⟨rfl, ?_, rfl⟩; simp only [List.getElem?_toArray, List.getElem?_cons_zero, List.getElem?_cons_succ, Option.some.injEq]; rfl))
                simp only [Act.put, List.setIfInBounds_toArray, List.set_cons_zero, List.set_cons_succ, Array.toArray_toList]
                first
                | refine p_skip rfl ?_
                | (refine p_go rfl ?_; simp only [bare]; refine p_load1 rfl rfl (fun w' hb => cell_below hb (by assumption)) Tryd.underlying3 rfl ?_)
                simp only [Act.put, List.setIfInBounds_toArray, List.set_cons_zero, List.set_cons_succ, Array.toArray_toList]
                first
                | refine p_skip rfl ?_
                | (refine p_go rfl ?_; simp only [bare]; apply p_qL (ops0 := #[]) rfl rfl rfl (Nat.le_of_ble_eq_true rfl); focus (intro w' hb; go_wp2_with fail; refine ⟨rfl, ?_, rfl⟩; simp only [List.getElem?_toArray, List.getElem?_cons_zero, List.getElem?_cons_succ, Option.some.injEq]; rfl))
                simp only [Act.put, List.setIfInBounds_toArray, List.set_cons_zero, List.set_cons_succ, Array.toArray_toList]
                apply p_qL (ops0 := #[]) rfl rfl rfl (Nat.le_of_ble_eq_true rfl)
                focus (intro w' hb; go_wp2_with fail; refine ⟨rfl, ?_, rfl⟩; simp only [List.getElem?_toArray, List.getElem?_cons_zero, List.getElem?_cons_succ, Option.some.injEq]; rfl)
                simp only [Act.put, List.setIfInBounds_toArray, List.set_cons_zero, List.set_cons_succ, Array.toArray_toList]
                apply p_q
                focus (intro w' hb; go_simp <;> rfl)
                simp only [Act.put, List.setIfInBounds_toArray, List.set_cons_zero, List.set_cons_succ, Array.toArray_toList]
                first
                | refine p_skip rfl ?_
                | (refine p_go rfl ?_; simp only [bare]; apply p_qL (ops0 := #[]) rfl rfl rfl (Nat.le_of_ble_eq_true rfl); focus (intro w' hb; go_wp2_with fail; refine ⟨rfl, ?_, rfl⟩; simp only [List.getElem?_toArray, List.getElem?_cons_zero, List.getElem?_cons_succ, Option.some.injEq]; rfl))
                simp only [Act.put, List.setIfInBounds_toArray, List.set_cons_zero, List.set_cons_succ, Array.toArray_toList]
                first
                | refine p_skip rfl ?_
                | (refine p_go rfl ?_; simp only [bare]; refine p_load1 rfl rfl (fun w' hb => cell_below hb (by assumption)) Tryd.underlying3 rfl ?_)
                simp only [Act.put, List.setIfInBounds_toArray, List.set_cons_zero, List.set_cons_succ, Array.toArray_toList]
                first
                | refine p_skip rfl ?_
                | (refine p_go rfl ?_; simp only [bare]; apply p_qL (ops0 := #[]) rfl rfl rfl (Nat.le_of_ble_eq_true rfl); focus (intro w' hb; go_wp2_with fail; refine ⟨rfl, ?_, rfl⟩; simp only [List.getElem?_toArray, List.getElem?_cons_zero, List.getElem?_cons_succ, Option.some.injEq]; rfl))
                simp only [Act.put, List.setIfInBounds_toArray, List.set_cons_zero, List.set_cons_succ, Array.toArray_toList]
                first
                | refine p_skip rfl ?_
                | (refine p_go rfl ?_; simp only [bare]; refine p_load1 rfl rfl (fun w' hb => cell_below hb (by assumption)) Tryd.underlying3 rfl ?_)
                simp only [Act.put, List.setIfInBounds_toArray, List.set_cons_zero, List.set_cons_succ, Array.toArray_toList]
                first
                | refine p_skip rfl ?_
                | (refine p_go rfl ?_; simp only [bare]; apply p_qL (ops0 := #[]) rfl rfl rfl (Nat.le_of_ble_eq_true rfl); focus (intro w' hb; go_wp2_with fail; refine ⟨rfl, ?_, rfl⟩; simp only [List.getElem?_toArray, List.getElem?_cons_zero, List.getElem?_cons_succ, Option.some.injEq]; rfl))
                simp only [Act.put, List.setIfInBounds_toArray, List.set_cons_zero, List.set_cons_succ, Array.toArray_toList]
                apply p_qL (ops0 := #[]) rfl rfl rfl (Nat.le_of_ble_eq_true rfl)
                focus (intro w' hb; go_wp2_with fail; refine ⟨rfl, ?_, rfl⟩; simp only [List.getElem?_toArray, List.getElem?_cons_zero, List.getElem?_cons_succ, Option.some.injEq]; rfl)
                simp only [Act.put, List.setIfInBounds_toArray, List.set_cons_zero, List.set_cons_succ, Array.toArray_toList]
                apply p_q
                focus (intro w' hb; go_simp <;> rfl)
                simp only [Act.put, List.setIfInBounds_toArray, List.set_cons_zero, List.set_cons_succ, Array.toArray_toList]
                first
                | refine p_skip rfl ?_
                | (refine p_go rfl ?_; simp only [bare]; apply p_qL (ops0 := #[]) rfl rfl rfl (Nat.le_of_ble_eq_true rfl); focus (intro w' hb; go_wp2_with fail; refine ⟨rfl, ?_, rfl⟩; simp only [List.getElem?_toArray, List.getElem?_cons_zero, List.getElem?_cons_succ, Option.some.injEq]; rfl))
                simp only [Act.put, List.setIfInBounds_toArray, List.set_cons_zero, List.set_cons_succ, Array.toArray_toList]
                first
                | refine p_skip rfl ?_
                | (refine p_go rfl ?_; simp only [bare]; refine p_load1 rfl rfl (fun w' hb => cell_below hb (by assumption)) Tryd.underlying112 rfl ?_)
                simp only [Act.put, List.setIfInBounds_toArray, List.set_cons_zero, List.set_cons_succ, Array.toArray_toList]
                first
                | refine p_skip rfl ?_
                | (refine p_go rfl ?_; simp only [bare]; apply p_q; focus (intro w' hb; go_simp <;> rfl))
                simp only [Act.put, List.setIfInBounds_toArray, List.set_cons_zero, List.set_cons_succ, Array.toArray_toList]
                first
                | refine p_skip rfl ?_
                | (refine p_go rfl ?_; simp only [bare]; apply p_qL (ops0 := #[]) rfl rfl rfl (Nat.le_of_ble_eq_true rfl); focus (intro w' hb; go_wp2_with fail; refine ⟨rfl, ?_, rfl⟩; simp only [List.getElem?_toArray, List.getElem?_cons_zero, List.getElem?_cons_succ, Option.some.injEq]; rfl))
                simp only [Act.put, List.setIfInBounds_toArray, List.set_cons_zero, List.set_cons_succ, Array.toArray_toList]
                first
                | refine p_skip rfl ?_
                | (refine p_go rfl ?_; simp only [bare]; refine p_load1 rfl rfl (fun w' hb => cell_below hb (by assumption)) Tryd.underlying3 rfl ?_)
                simp only [Act.put, List.setIfInBounds_toArray, List.set_cons_zero, List.set_cons_succ, Array.toArray_toList]
                first
                | refine p_skip rfl ?_
                | (refine p_go rfl ?_; simp only [bare]; apply p_qL (ops0 := #[]) rfl rfl rfl (Nat.le_of_ble_eq_true rfl); focus (intro w' hb; go_wp2_with fail; refine ⟨rfl, ?_, rfl⟩; simp only [List.getElem?_toArray, List.getElem?_cons_zero, List.getElem?_cons_succ, Option.some.injEq]; rfl))
                simp only [Act.put, List.setIfInBounds_toArray, List.set_cons_zero, List.set_cons_succ, Array.toArray_toList]
                first
                | refine p_skip rfl ?_
                | (refine p_go rfl ?_; simp only [bare]; refine p_load1 rfl rfl (fun w' hb => cell_below hb (by assumption)) Tryd.underlying3 rfl ?_)
                simp only [Act.put, List.setIfInBounds_toArray, List.set_cons_zero, List.set_cons_succ, Array.toArray_toList]
                refine p_go rfl ?_
                simp only [bare]
                refine p_list (ops := #[]) rfl ?_
                go_wp2_with fail
                refine (tree_Deep m i him' hm1 _).mono ?_
                rintro e _ ⟨rfl, rfl⟩
                go_wp2_with fail
                refine ⟨fun _ => (Below.refl w4.heap.size w4).drew, ?_⟩
                first
                | refine p_skip rfl ?_
                | (refine p_go rfl ?_; simp only [bare]; apply p_qL (ops0 := #[]) rfl rfl rfl (Nat.le_of_ble_eq_true rfl); focus (intro w' hb; go_wp2_with fail; refine ⟨rfl, ?_, rfl⟩; simp only [List.getElem?_toArray, List.getElem?_cons_zero, List.getElem?_cons_succ, Option.some.injEq]; rfl))
                simp only [Act.put, List.setIfInBounds_toArray, List.set_cons_zero, List.set_cons_succ, Array.toArray_toList]
                apply p_qL (ops0 := #[]) rfl rfl rfl (Nat.le_of_ble_eq_true rfl)
                focus (intro w' hb; go_wp2_with fail; refine ⟨rfl, ?_, rfl⟩; simp only [List.getElem?_toArray, List.getElem?_cons_zero, List.getElem?_cons_succ, Option.some.injEq]; rfl)
                simp only [Act.put, List.setIfInBounds_toArray, List.set_cons_zero, List.set_cons_succ, Array.toArray_toList]
                refine p_end ?_
                go_wp2
                go_ret
                exact ⟨by rw [HM.out, all_false hlt (by rw [← HX.out]; exact HF.out)]; rfl, (below_next hb0 hb4).drew⟩
            · have hF : mayLf (m : Int) x = false := by
                cases hF : mayLf (m : Int) x
                · rfl
                · simp only [mayLf, Bool.and_eq_true, decide_eq_true_eq] at hF
                  exact absurd hF.1.2 him
              have HF := Lib.hid hF
              have HZ := Lib.hid hs
              have e1 : (x.index < 0) = False := eq_false (by omega)
              have e2 : decide ((m : Int) ≤ x.index) = true := decide_eq_true (by omega)
              clear hs hF hi0 him d0 hat'
              refine wp_num (fun w' => Below w4.heap.size w4 w') [0, 1, 2, 3, 5, 6, 7, 8, 9, 10, 11, 12, 13, 14, 15, 16, 17, 18, 19, 20, 21, 22, 23, 24, 25, 27, 28] (.c (0, none, none) (.c (1, none, none) (.c (2, none, none) (.c (3, none, none) (.c (4, some true, none) (.c (5, none, none) (.c (6, none, none) (.c (7, none, some (32, false)) (.c (8, none, some (32, false)) (.c (9, none, some (32, false)) (.c (10, none, none) (.c (11, none, none) (.c (12, none, some (37, false)) (.c (13, none, some (37, false)) (.c (14, none, some (37, false)) (.c (15, none, some (37, false)) (.c (16, none, some (37, false)) (.c (17, none, none) (.c (18, none, none) (.c (19, none, some (44, false)) (.c (20, none, some (44, false)) (.c (21, none, some (44, false)) (.c (22, none, some (44, false)) (.c (23, none, some (44, false)) (.c (24, none, some (44, false)) (.c (25, none, some (44, false)) (.c (26, some true, some (44, false)) (.c (27, none, some (44, false)) (.c (28, none, none) (.nil)))))))))))))))))))))))))))))) (by kernel_rfl) (by kernel_rfl) (by kernel_rfl) (fun _ _ d _ _ h => by cases d <;> exact h) (by kernel_rfl) ((Below.refl _ _).drew) ?_
              simp only [selE, nthO]
              apply p_qL (ops0 := #[]) rfl rfl rfl (Nat.le_of_ble_eq_true rfl)
              focus (intro w' hb; go_wp2_with fail; refine ⟨rfl, ?_, rfl⟩; simp only [List.getElem?_toArray, List.getElem?_cons_zero, List.getElem?_cons_succ, Option.some.injEq]; rfl)
              simp only [Act.put, List.setIfInBounds_toArray, List.set_cons_zero, List.set_cons_succ, Array.toArray_toList]
              refine p_load1 rfl rfl (fun w' hb => cell_below hb (by assumption)) Tryd.underlying9 rfl ?_
              simp only [Act.put, List.setIfInBounds_toArray, List.set_cons_zero, List.set_cons_succ, Array.toArray_toList]
              apply p_qL (ops0 := #[]) rfl rfl rfl (Nat.le_of_ble_eq_true rfl)
              focus (intro w' hb; go_wp2_with fail; refine ⟨rfl, ?_, rfl⟩; simp only [List.getElem?_toArray, List.getElem?_cons_zero, List.getElem?_cons_succ, Option.some.injEq]; rfl)
              simp only [Act.put, List.setIfInBounds_toArray, List.set_cons_zero, List.set_cons_succ, Array.toArray_toList]
              refine p_load1 rfl rfl (fun w' hb => cell_below hb (by assumption)) Tryd.underlying9 rfl ?_
              simp only [Act.put, List.setIfInBounds_toArray, List.set_cons_zero, List.set_cons_succ, Array.toArray_toList]
              refine p_list (ops := #[]) rfl ?_
              go_wp2_with fail
              refine (proof_sizedB x.key x.val true HZ.out _).mono ?_
              rintro e _ ⟨rfl, rfl⟩
              go_wp2_with fail
              refine ⟨fun _ => (Below.refl w4.heap.size w4).drew, ?_⟩
              apply p_qL (ops0 := #[]) rfl rfl rfl (Nat.le_of_ble_eq_true rfl)
              focus (intro w' hb; go_wp2_with fail; refine ⟨rfl, ?_, rfl⟩; simp only [List.getElem?_toArray, List.getElem?_cons_zero, List.getElem?_cons_succ, Option.some.injEq]; rfl)
              simp only [Act.put, List.setIfInBounds_toArray, List.set_cons_zero, List.set_cons_succ, Array.toArray_toList]
              apply p_q
              focus (intro w' hb; go_simp <;> rfl)
              simp only [Act.put, List.setIfInBounds_toArray, List.set_cons_zero, List.set_cons_succ, Array.toArray_toList]
              first
              | refine p_skip rfl ?_
              | (refine p_go rfl ?_; simp only [bare]; apply p_qL (ops0 := #[]) rfl rfl rfl (Nat.le_of_ble_eq_true rfl); focus (intro w' hb; go_wp2_with fail; refine ⟨rfl, ?_, rfl⟩; simp only [List.getElem?_toArray, List.getElem?_cons_zero, List.getElem?_cons_succ, Option.some.injEq]; rfl))
              simp only [Act.put, List.setIfInBounds_toArray, List.set_cons_zero, List.set_cons_succ, Array.toArray_toList]
              first
              | refine p_skip rfl ?_
              | (refine p_go rfl ?_; simp only [bare]; refine p_load1 rfl rfl (fun w' hb => cell_below hb (by assumption)) Tryd.underlying3 rfl ?_)
              simp only [Act.put, List.setIfInBounds_toArray, List.set_cons_zero, List.set_cons_succ, Array.toArray_toList]
              first
              | refine p_skip rfl ?_
              | (refine p_go rfl ?_; simp only [bare]; apply p_qL (ops0 := #[]) rfl rfl rfl (Nat.le_of_ble_eq_true rfl); focus (intro w' hb; go_wp2_with fail; refine ⟨rfl, ?_, rfl⟩; simp only [List.getElem?_toArray, List.getElem?_cons_zero, List.getElem?_cons_succ, Option.some.injEq]; rfl))
              simp only [Act.put, List.setIfInBounds_toArray, List.set_cons_zero, List.set_cons_succ, Array.toArray_toList]
              apply p_qL (ops0 := #[]) rfl rfl rfl (Nat.le_of_ble_eq_true rfl)
              focus (intro w' hb; go_wp2_with fail; refine ⟨rfl, ?_, rfl⟩; simp only [List.getElem?_toArray, List.getElem?_cons_zero, List.getElem?_cons_succ, Option.some.injEq]; rfl)
              simp only [Act.put, List.setIfInBounds_toArray, List.set_cons_zero, List.set_cons_succ, Array.toArray_toList]
              apply p_q
              focus (intro w' hb; go_simp <;> rfl)
              simp only [Act.put, List.setIfInBounds_toArray, List.set_cons_zero, List.set_cons_succ, Array.toArray_toList]
              first
              | refine p_skip rfl ?_
              | (refine p_go rfl ?_; simp only [bare]; apply p_qL (ops0 := #[]) rfl rfl rfl (Nat.le_of_ble_eq_true rfl); focus (intro w' hb; go_wp2_with fail; refine ⟨rfl, ?_, rfl⟩; simp only [List.getElem?_toArray, List.getElem?_cons_zero, List.getElem?_cons_succ, Option.some.injEq]; rfl))
              simp only [Act.put, List.setIfInBounds_toArray, List.set_cons_zero, List.set_cons_succ, Array.toArray_toList]
              first
              | refine p_skip rfl ?_
              | (refine p_go rfl ?_; simp only [bare]; refine p_load1 rfl rfl (fun w' hb => cell_below hb (by assumption)) Tryd.underlying3 rfl ?_)
              simp only [Act.put, List.setIfInBounds_toArray, List.set_cons_zero, List.set_cons_succ, Array.toArray_toList]
              first
              | refine p_skip rfl ?_
              | (refine p_go rfl ?_; simp only [bare]; apply p_qL (ops0 := #[]) rfl rfl rfl (Nat.le_of_ble_eq_true rfl); focus (intro w' hb; go_wp2_with fail; refine ⟨rfl, ?_, rfl⟩; simp only [List.getElem?_toArray, List.getElem?_cons_zero, List.getElem?_cons_succ, Option.some.injEq]; rfl))
              simp only [Act.put, List.setIfInBounds_toArray, List.set_cons_zero, List.set_cons_succ, Array.toArray_toList]
              first
              | refine p_skip rfl ?_
              | (refine p_go rfl ?_; simp only [bare]; refine p_load1 rfl rfl (fun w' hb => cell_below hb (by assumption)) Tryd.underlying3 rfl ?_)
              simp only [Act.put, List.setIfInBounds_toArray, List.set_cons_zero, List.set_cons_succ, Array.toArray_toList]
              first
              | refine p_skip rfl ?_
              | (refine p_go rfl ?_; simp only [bare]; apply p_qL (ops0 := #[]) rfl rfl rfl (Nat.le_of_ble_eq_true rfl); focus (intro w' hb; go_wp2_with fail; refine ⟨rfl, ?_, rfl⟩; simp only [List.getElem?_toArray, List.getElem?_cons_zero, List.getElem?_cons_succ, Option.some.injEq]; rfl))
              simp only [Act.put, List.setIfInBounds_toArray, List.set_cons_zero, List.set_cons_succ, Array.toArray_toList]
              apply p_qL (ops0 := #[]) rfl rfl rfl (Nat.le_of_ble_eq_true rfl)
              focus (intro w' hb; go_wp2_with fail; refine ⟨rfl, ?_, rfl⟩; simp only [List.getElem?_toArray, List.getElem?_cons_zero, List.getElem?_cons_succ, Option.some.injEq]; rfl)
              simp only [Act.put, List.setIfInBounds_toArray, List.set_cons_zero, List.set_cons_succ, Array.toArray_toList]
              apply p_q
              focus (intro w' hb; go_simp <;> rfl)
              simp only [Act.put, List.setIfInBounds_toArray, List.set_cons_zero, List.set_cons_succ, Array.toArray_toList]
              first
              | refine p_skip rfl ?_
              | (refine p_go rfl ?_; simp only [bare]; apply p_qL (ops0 := #[]) rfl rfl rfl (Nat.le_of_ble_eq_true rfl); focus (intro w' hb; go_wp2_with fail; refine ⟨rfl, ?_, rfl⟩; simp only [List.getElem?_toArray, List.getElem?_cons_zero, List.getElem?_cons_succ, Option.some.injEq]; rfl))
              simp only [Act.put, List.setIfInBounds_toArray, List.set_cons_zero, List.set_cons_succ, Array.toArray_toList]
              first
              | refine p_skip rfl ?_
              | (refine p_go rfl ?_; simp only [bare]; refine p_load1 rfl rfl (fun w' hb => cell_below hb (by assumption)) Tryd.underlying112 rfl ?_)
              simp only [Act.put, List.setIfInBounds_toArray, List.set_cons_zero, List.set_cons_succ, Array.toArray_toList]
              first
              | refine p_skip rfl ?_
              | (refine p_go rfl ?_; simp only [bare]; apply p_q; focus (intro w' hb; go_simp <;> rfl))
              simp only [Act.put, List.setIfInBounds_toArray, List.set_cons_zero, List.set_cons_succ, Array.toArray_toList]
              first
              | refine p_skip rfl ?_
              | (refine p_go rfl ?_; simp only [bare]; apply p_qL (ops0 := #[]) rfl rfl rfl (Nat.le_of_ble_eq_true rfl); focus (intro w' hb; go_wp2_with fail; refine ⟨rfl, ?_, rfl⟩; simp only [List.getElem?_toArray, List.getElem?_cons_zero, List.getElem?_cons_succ, Option.some.injEq]; rfl))
              simp only [Act.put, List.setIfInBounds_toArray, List.set_cons_zero, List.set_cons_succ, Array.toArray_toList]
              first
              | refine p_skip rfl ?_
              | (refine p_go rfl ?_; simp only [bare]; refine p_load1 rfl rfl (fun w' hb => cell_below hb (by assumption)) Tryd.underlying3 rfl ?_)
              simp only [Act.put, List.setIfInBounds_toArray, List.set_cons_zero, List.set_cons_succ, Array.toArray_toList]
              first
              | refine p_skip rfl ?_
              | (refine p_go rfl ?_; simp only [bare]; apply p_qL (ops0 := #[]) rfl rfl rfl (Nat.le_of_ble_eq_true rfl); focus (intro w' hb; go_wp2_with fail; refine ⟨rfl, ?_, rfl⟩; simp only [List.getElem?_toArray, List.getElem?_cons_zero, List.getElem?_cons_succ, Option.some.injEq]; rfl))
              simp only [Act.put, List.setIfInBounds_toArray, List.set_cons_zero, List.set_cons_succ, Array.toArray_toList]
              first
              | refine p_skip rfl ?_
              | (refine p_go rfl ?_; simp only [bare]; refine p_load1 rfl rfl (fun w' hb => cell_below hb (by assumption)) Tryd.underlying3 rfl ?_)
              simp only [Act.put, List.setIfInBounds_toArray, List.set_cons_zero, List.set_cons_succ, Array.toArray_toList]
              refine p_skipA rfl (fun _ => (Below.refl w4.heap.size w4).drew) ?_
              simp only [Act.put, List.setIfInBounds_toArray, List.set_cons_zero, List.set_cons_succ, Array.toArray_toList]
              first
              | refine p_skip rfl ?_
              | (refine p_go rfl ?_; simp only [bare]; apply p_qL (ops0 := #[]) rfl rfl rfl (Nat.le_of_ble_eq_true rfl); focus (intro w' hb; go_wp2_with fail; refine ⟨rfl, ?_, rfl⟩; simp only [List.getElem?_toArray, List.getElem?_cons_zero, List.getElem?_cons_succ, Option.some.injEq]; rfl))
              simp only [Act.put, List.setIfInBounds_toArray, List.set_cons_zero, List.set_cons_succ, Array.toArray_toList]
              apply p_qL (ops0 := #[]) rfl rfl rfl (Nat.le_of_ble_eq_true rfl)
              focus (intro w' hb; go_wp2_with fail; refine ⟨rfl, ?_, rfl⟩; simp only [List.getElem?_toArray, List.getElem?_cons_zero, List.getElem?_cons_succ, Option.some.injEq]; rfl)
              simp only [Act.put, List.setIfInBounds_toArray, List.set_cons_zero, List.set_cons_succ, Array.toArray_toList]
              refine p_end ?_
              go_wp2
              go_ret
              exact ⟨by rw [HM.out, all_false hlt (by rw [← HX.out]; exact HF.out)]; rfl, (below_next hb0 hb4).drew⟩
          · have hF : mayLf (m : Int) x = false := by
              cases hF : mayLf (m : Int) x
              · rfl
              · simp only [mayLf, Bool.and_eq_true, decide_eq_true_eq] at hF
                exact absurd hF.1.1.2 hi0
            have HF := Lib.hid hF
            have HZ := Lib.hid hs
            have e1 : (x.index < 0) = True := eq_true (by omega)
            clear hs hF hi0 d0 hat'
            refine wp_num (fun w' => Below w4.heap.size w4 w') [0, 1, 2, 3, 5, 6, 7, 8, 9, 10, 11, 12, 13, 14, 15, 16, 17, 18, 19, 20, 21, 22, 23, 24, 25, 27, 28] (.c (0, none, none) (.c (1, none, none) (.c (2, none, none) (.c (3, none, none) (.c (4, some true, none) (.c (5, none, none) (.c (6, none, none) (.c (7, none, some (32, false)) (.c (8, none, some (32, false)) (.c (9, none, some (32, false)) (.c (10, none, none) (.c (11, none, none) (.c (12, none, some (37, false)) (.c (13, none, some (37, false)) (.c (14, none, some (37, false)) (.c (15, none, some (37, false)) (.c (16, none, some (37, false)) (.c (17, none, none) (.c (18, none, none) (.c (19, none, some (44, false)) (.c (20, none, some (44, false)) (.c (21, none, some (44, false)) (.c (22, none, some (44, false)) (.c (23, none, some (44, false)) (.c (24, none, some (44, false)) (.c (25, none, some (44, false)) (.c (26, some true, some (44, false)) (.c (27, none, some (44, false)) (.c (28, none, none) (.nil)))))))))))))))))))))))))))))) (by kernel_rfl) (by kernel_rfl) (by kernel_rfl) (fun _ _ d _ _ h => by cases d <;> exact h) (by kernel_rfl) ((Below.refl _ _).drew) ?_
            simp only [selE, nthO]
            apply p_qL (ops0 := #[]) rfl rfl rfl (Nat.le_of_ble_eq_true rfl)
            focus (intro w' hb; go_wp2_with fail; refine ⟨rfl, ?_, rfl⟩; simp only [List.getElem?_toArray, List.getElem?_cons_zero, List.getElem?_cons_succ, Option.some.injEq]; rfl)
            simp only [Act.put, List.setIfInBounds_toArray, List.set_cons_zero, List.set_cons_succ, Array.toArray_toList]
            refine p_load1 rfl rfl (fun w' hb => cell_below hb (by assumption)) Tryd.underlying9 rfl ?_
            simp only [Act.put, List.setIfInBounds_toArray, List.set_cons_zero, List.set_cons_succ, Array.toArray_toList]
            apply p_qL (ops0 := #[]) rfl rfl rfl (Nat.le_of_ble_eq_true rfl)
            focus (intro w' hb; go_wp2_with fail; refine ⟨rfl, ?_, rfl⟩; simp only [List.getElem?_toArray, List.getElem?_cons_zero, List.getElem?_cons_succ, Option.some.injEq]; rfl)
            simp only [Act.put, List.setIfInBounds_toArray, List.set_cons_zero, List.set_cons_succ, Array.toArray_toList]
            refine p_load1 rfl rfl (fun w' hb => cell_below hb (by assumption)) Tryd.underlying9 rfl ?_
            simp only [Act.put, List.setIfInBounds_toArray, List.set_cons_zero, List.set_cons_succ, Array.toArray_toList]
            refine p_list (ops := #[]) rfl ?_
            go_wp2_with fail
            refine (proof_sizedB x.key x.val true HZ.out _).mono ?_
            rintro e _ ⟨rfl, rfl⟩
            go_wp2_with fail
            refine ⟨fun _ => (Below.refl w4.heap.size w4).drew, ?_⟩
            apply p_qL (ops0 := #[]) rfl rfl rfl (Nat.le_of_ble_eq_true rfl)
            focus (intro w' hb; go_wp2_with fail; refine ⟨rfl, ?_, rfl⟩; simp only [List.getElem?_toArray, List.getElem?_cons_zero, List.getElem?_cons_succ, Option.some.injEq]; rfl)
            simp only [Act.put, List.setIfInBounds_toArray, List.set_cons_zero, List.set_cons_succ, Array.toArray_toList]
            apply p_q
            focus (intro w' hb; go_simp <;> rfl)
            simp only [Act.put, List.setIfInBounds_toArray, List.set_cons_zero, List.set_cons_succ, Array.toArray_toList]
            first
            | refine p_skip rfl ?_
            | (refine p_go rfl ?_; simp only [bare]; apply p_qL (ops0 := #[]) rfl rfl rfl (Nat.le_of_ble_eq_true rfl); focus (intro w' hb; go_wp2_with fail; refine ⟨rfl, ?_, rfl⟩; simp only [List.getElem?_toArray, List.getElem?_cons_zero, List.getElem?_cons_succ, Option.some.injEq]; rfl))
            simp only [Act.put, List.setIfInBounds_toArray, List.set_cons_zero, List.set_cons_succ, Array.toArray_toList]
            first
            | refine p_skip rfl ?_
            | (refine p_go rfl ?_; simp only [bare]; refine p_load1 rfl rfl (fun w' hb => cell_below hb (by assumption)) Tryd.underlying3 rfl ?_)
            simp only [Act.put, List.setIfInBounds_toArray, List.set_cons_zero, List.set_cons_succ, Array.toArray_toList]
            first
            | refine p_skip rfl ?_
            | (refine p_go rfl ?_; simp only [bare]; apply p_qL (ops0 := #[]) rfl rfl rfl (Nat.le_of_ble_eq_true rfl); focus (intro w' hb; go_wp2_with fail; refine ⟨rfl, ?_, rfl⟩; simp only [List.getElem?_toArray, List.getElem?_cons_zero, List.getElem?_cons_succ, Option.some.injEq]; rfl))
            simp only [Act.put, List.setIfInBounds_toArray, List.set_cons_zero, List.set_cons_succ, Array.toArray_toList]
            apply p_qL (ops0 := #[]) rfl rfl rfl (Nat.le_of_ble_eq_true rfl)
            focus (intro w' hb; go_wp2_with fail; refine ⟨rfl, ?_, rfl⟩; simp only [List.getElem?_toArray, List.getElem?_cons_zero, List.getElem?_cons_succ, Option.some.injEq]; rfl)
            simp only [Act.put, List.setIfInBounds_toArray, List.set_cons_zero, List.set_cons_succ, Array.toArray_toList]
            apply p_q
            focus (intro w' hb; go_simp <;> rfl)
            simp only [Act.put, List.setIfInBounds_toArray, List.set_cons_zero, List.set_cons_succ, Array.toArray_toList]
            first
            | refine p_skip rfl ?_
            | (refine p_go rfl ?_; simp only [bare]; apply p_qL (ops0 := #[]) rfl rfl rfl (Nat.le_of_ble_eq_true rfl); focus (intro w' hb; go_wp2_with fail; refine ⟨rfl, ?_, rfl⟩; simp only [List.getElem?_toArray, List.getElem?_cons_zero, List.getElem?_cons_succ, Option.some.injEq]; rfl))
            simp only [Act.put, List.setIfInBounds_toArray, List.set_cons_zero, List.set_cons_succ, Array.toArray_toList]
            first
            | refine p_skip rfl ?_
            | (refine p_go rfl ?_; simp only [bare]; refine p_load1 rfl rfl (fun w' hb => cell_below hb (by assumption)) Tryd.underlying3 rfl ?_)
            simp only [Act.put, List.setIfInBounds_toArray, List.set_cons_zero, List.set_cons_succ, Array.toArray_toList]
            first
            | refine p_skip rfl ?_
            | (refine p_go rfl ?_; simp only [bare]; apply p_qL (ops0 := #[]) rfl rfl rfl (Nat.le_of_ble_eq_true rfl); focus (intro w' hb; go_wp2_with fail; refine ⟨rfl, ?_, rfl⟩; simp only [List.getElem?_toArray, List.getElem?_cons_zero, List.getElem?_cons_succ, Option.some.injEq]; rfl))
            simp only [Act.put, List.setIfInBounds_toArray, List.set_cons_zero, List.set_cons_succ, Array.toArray_toList]
            first
            | refine p_skip rfl ?_
            | (refine p_go rfl ?_; simp only [bare]; refine p_load1 rfl rfl (fun w' hb => cell_below hb (by assumption)) Tryd.underlying3 rfl ?_)
            simp only [Act.put, List.setIfInBounds_toArray, List.set_cons_zero, List.set_cons_succ, Array.toArray_toList]
            first
            | refine p_skip rfl ?_
            | (refine p_go rfl ?_; simp only [bare]; apply p_qL (ops0 := #[]) rfl rfl rfl (Nat.le_of_ble_eq_true rfl); focus (intro w' hb; go_wp2_with fail; refine ⟨rfl, ?_, rfl⟩; simp only [List.getElem?_toArray, List.getElem?_cons_zero, List.getElem?_cons_succ, Option.some.injEq]; rfl))
            simp only [Act.put, List.setIfInBounds_toArray, List.set_cons_zero, List.set_cons_succ, Array.toArray_toList]
            apply p_qL (ops0 := #[]) rfl rfl rfl (Nat.le_of_ble_eq_true rfl)
            focus (intro w' hb; go_wp2_with fail; refine ⟨rfl, ?_, rfl⟩; simp only [List.getElem?_toArray, List.getElem?_cons_zero, List.getElem?_cons_succ, Option.some.injEq]; rfl)
            simp only [Act.put, List.setIfInBounds_toArray, List.set_cons_zero, List.set_cons_succ, Array.toArray_toList]
            apply p_q
            focus (intro w' hb; go_simp <;> rfl)
            simp only [Act.put, List.setIfInBounds_toArray, List.set_cons_zero, List.set_cons_succ, Array.toArray_toList]
            first
            | refine p_skip rfl ?_
            | (refine p_go rfl ?_; simp only [bare]; apply p_qL (ops0 := #[]) rfl rfl rfl (Nat.le_of_ble_eq_true rfl); focus (intro w' hb; go_wp2_with fail; refine ⟨rfl, ?_, rfl⟩; simp only [List.getElem?_toArray, List.getElem?_cons_zero, List.getElem?_cons_succ, Option.some.injEq]; rfl))
            simp only [Act.put, List.setIfInBounds_toArray, List.set_cons_zero, List.set_cons_succ, Array.toArray_toList]
            first
            | refine p_skip rfl ?_
            | (refine p_go rfl ?_; simp only [bare]; refine p_load1 rfl rfl (fun w' hb => cell_below hb (by assumption)) Tryd.underlying112 rfl ?_)
            simp only [Act.put, List.setIfInBounds_toArray, List.set_cons_zero, List.set_cons_succ, Array.toArray_toList]
            first
            | refine p_skip rfl ?_
            | (refine p_go rfl ?_; simp only [bare]; apply p_q; focus (intro w' hb; go_simp <;> rfl))
            simp only [Act.put, List.setIfInBounds_toArray, List.set_cons_zero, List.set_cons_succ, Array.toArray_toList]
            first
            | refine p_skip rfl ?_
            | (refine p_go rfl ?_; simp only [bare]; apply p_qL (ops0 := #[]) rfl rfl rfl (Nat.le_of_ble_eq_true rfl); focus (intro w' hb; go_wp2_with fail; refine ⟨rfl, ?_, rfl⟩; simp only [List.getElem?_toArray, List.getElem?_cons_zero, List.getElem?_cons_succ, Option.some.injEq]; rfl))
            simp only [Act.put, List.setIfInBounds_toArray, List.set_cons_zero, List.set_cons_succ, Array.toArray_toList]
            first
            | refine p_skip rfl ?_
            | (refine p_go rfl ?_; simp only [bare]; refine p_load1 rfl rfl (fun w' hb => cell_below hb (by assumption)) Tryd.underlying3 rfl ?_)
            simp only [Act.put, List.setIfInBounds_toArray, List.set_cons_zero, List.set_cons_succ, Array.toArray_toList]
            first
            | refine p_skip rfl ?_
            | (refine p_go rfl ?_; simp only [bare]; apply p_qL (ops0 := #[]) rfl rfl rfl (Nat.le_of_ble_eq_true rfl); focus (intro w' hb; go_wp2_with fail; refine ⟨rfl, ?_, rfl⟩; simp only [List.getElem?_toArray, List.getElem?_cons_zero, List.getElem?_cons_succ, Option.some.injEq]; rfl))
            simp only [Act.put, List.setIfInBounds_toArray, List.set_cons_zero, List.set_cons_succ, Array.toArray_toList]
            first
            | refine p_skip rfl ?_
            | (refine p_go rfl ?_; simp only [bare]; refine p_load1 rfl rfl (fun w' hb => cell_below hb (by assumption)) Tryd.underlying3 rfl ?_)
            simp only [Act.put, List.setIfInBounds_toArray, List.set_cons_zero, List.set_cons_succ, Array.toArray_toList]
            refine p_skipA rfl (fun _ => (Below.refl w4.heap.size w4).drew) ?_
            simp only [Act.put, List.setIfInBounds_toArray, List.set_cons_zero, List.set_cons_succ, Array.toArray_toList]
            first
            | refine p_skip rfl ?_
            | (refine p_go rfl ?_; simp only [bare]; apply p_qL (ops0 := #[]) rfl rfl rfl (Nat.le_of_ble_eq_true rfl); focus (intro w' hb; go_wp2_with fail; refine ⟨rfl, ?_, rfl⟩; simp only [List.getElem?_toArray, List.getElem?_cons_zero, List.getElem?_cons_succ, Option.some.injEq]; rfl))
            simp only [Act.put, List.setIfInBounds_toArray, List.set_cons_zero, List.set_cons_succ, Array.toArray_toList]
            apply p_qL (ops0 := #[]) rfl rfl rfl (Nat.le_of_ble_eq_true rfl)
            focus (intro w' hb; go_wp2_with fail; refine ⟨rfl, ?_, rfl⟩; simp only [List.getElem?_toArray, List.getElem?_cons_zero, List.getElem?_cons_succ, Option.some.injEq]; rfl)
            simp only [Act.put, List.setIfInBounds_toArray, List.set_cons_zero, List.set_cons_succ, Array.toArray_toList]
            refine p_end ?_
            go_wp2
            go_ret
            exact ⟨by rw [HM.out, all_false hlt (by rw [← HX.out]; exact HF.out)]; rfl, (below_next hb0 hb4).drew⟩
        · have hs' : sized x.key x.val = false := by simpa using hs
          have hF : mayLf (m : Int) x = false := by
            cases hF : mayLf (m : Int) x
            · rfl
            · simp only [mayLf, Bool.and_eq_true, decide_eq_true_eq] at hF
              exact absurd hF.1.1.1 hs
          have HF := Lib.hid hF
          have HZ := Lib.hid hs'
          clear hs hs' hF d0 hat'
          refine wp_num (fun w' => Below w4.heap.size w4 w') [0, 1, 2, 3, 5, 6, 7, 8, 9, 10, 11, 12, 13, 14, 15, 16, 17, 18, 19, 20, 21, 22, 23, 24, 25, 27, 28] (.c (0, none, none) (.c (1, none, none) (.c (2, none, none) (.c (3, none, none) (.c (4, some true, none) (.c (5, none, none) (.c (6, none, none) (.c (7, none, some (32, false)) (.c (8, none, some (32, false)) (.c (9, none, some (32, false)) (.c (10, none, none) (.c (11, none, none) (.c (12, none, some (37, false)) (.c (13, none, some (37, false)) (.c (14, none, some (37, false)) (.c (15, none, some (37, false)) (.c (16, none, some (37, false)) (.c (17, none, none) (.c (18, none, none) (.c (19, none, some (44, false)) (.c (20, none, some (44, false)) (.c (21, none, some (44, false)) (.c (22, none, some (44, false)) (.c (23, none, some (44, false)) (.c (24, none, some (44, false)) (.c (25, none, some (44, false)) (.c (26, some true, some (44, false)) (.c (27, none, some (44, false)) (.c (28, none, none) (.nil)))))))))))))))))))))))))))))) (by kernel_rfl) (by kernel_rfl) (by kernel_rfl) (fun _ _ d _ _ h => by cases d <;> exact h) (by kernel_rfl) ((Below.refl _ _).drew) ?_
          simp only [selE, nthO]
          apply p_qL (ops0 := #[]) rfl rfl rfl (Nat.le_of_ble_eq_true rfl)
          focus (intro w' hb; go_wp2_with fail; refine ⟨rfl, ?_, rfl⟩; simp only [List.getElem?_toArray, List.getElem?_cons_zero, List.getElem?_cons_succ, Option.some.injEq]; rfl)
          simp only [Act.put, List.setIfInBounds_toArray, List.set_cons_zero, List.set_cons_succ, Array.toArray_toList]
          refine p_load1 rfl rfl (fun w' hb => cell_below hb (by assumption)) Tryd.underlying9 rfl ?_
          simp only [Act.put, List.setIfInBounds_toArray, List.set_cons_zero, List.set_cons_succ, Array.toArray_toList]
          apply p_qL (ops0 := #[]) rfl rfl rfl (Nat.le_of_ble_eq_true rfl)
          focus (intro w' hb; go_wp2_with fail; refine ⟨rfl, ?_, rfl⟩; simp only [List.getElem?_toArray, List.getElem?_cons_zero, List.getElem?_cons_succ, Option.some.injEq]; rfl)
          simp only [Act.put, List.setIfInBounds_toArray, List.set_cons_zero, List.set_cons_succ, Array.toArray_toList]
          refine p_load1 rfl rfl (fun w' hb => cell_below hb (by assumption)) Tryd.underlying9 rfl ?_
          simp only [Act.put, List.setIfInBounds_toArray, List.set_cons_zero, List.set_cons_succ, Array.toArray_toList]
          refine p_list (ops := #[]) rfl ?_
          go_wp2_with fail
          refine (proof_sizedB x.key x.val false HZ.out _).mono ?_
          rintro e _ ⟨rfl, rfl⟩
          go_wp2_with fail
          refine ⟨fun _ => (Below.refl w4.heap.size w4).drew, ?_⟩
          apply p_qL (ops0 := #[]) rfl rfl rfl (Nat.le_of_ble_eq_true rfl)
          focus (intro w' hb; go_wp2_with fail; refine ⟨rfl, ?_, rfl⟩; simp only [List.getElem?_toArray, List.getElem?_cons_zero, List.getElem?_cons_succ, Option.some.injEq]; rfl)
          simp only [Act.put, List.setIfInBounds_toArray, List.set_cons_zero, List.set_cons_succ, Array.toArray_toList]
          apply p_q
          focus (intro w' hb; go_simp <;> rfl)
          simp only [Act.put, List.setIfInBounds_toArray, List.set_cons_zero, List.set_cons_succ, Array.toArray_toList]
          first
          | refine p_skip rfl ?_
          | (refine p_go rfl ?_; simp only [bare]; apply p_qL (ops0 := #[]) rfl rfl rfl (Nat.le_of_ble_eq_true rfl); focus (intro w' hb; go_wp2_with fail; refine ⟨rfl, ?_, rfl⟩; simp only [List.getElem?_toArray, List.getElem?_cons_zero, List.getElem?_cons_succ, Option.some.injEq]; rfl))
          simp only [Act.put, List.setIfInBounds_toArray, List.set_cons_zero, List.set_cons_succ, Array.toArray_toList]
          first
          | refine p_skip rfl ?_
          | (refine p_go rfl ?_; simp only [bare]; refine p_load1 rfl rfl (fun w' hb => cell_below hb (by assumption)) Tryd.underlying3 rfl ?_)
          simp only [Act.put, List.setIfInBounds_toArray, List.set_cons_zero, List.set_cons_succ, Array.toArray_toList]
          first
          | refine p_skip rfl ?_
          | (refine p_go rfl ?_; simp only [bare]; apply p_qL (ops0 := #[]) rfl rfl rfl (Nat.le_of_ble_eq_true rfl); focus (intro w' hb; go_wp2_with fail; refine ⟨rfl, ?_, rfl⟩; simp only [List.getElem?_toArray, List.getElem?_cons_zero, List.getElem?_cons_succ, Option.some.injEq]; rfl))
          simp only [Act.put, List.setIfInBounds_toArray, List.set_cons_zero, List.set_cons_succ, Array.toArray_toList]
          apply p_qL (ops0 := #[]) rfl rfl rfl (Nat.le_of_ble_eq_true rfl)
          focus (intro w' hb; go_wp2_with fail; refine ⟨rfl, ?_, rfl⟩; simp only [List.getElem?_toArray, List.getElem?_cons_zero, List.getElem?_cons_succ, Option.some.injEq]; rfl)
          simp only [Act.put, List.setIfInBounds_toArray, List.set_cons_zero, List.set_cons_succ, Array.toArray_toList]
          apply p_q
          focus (intro w' hb; go_simp <;> rfl)
          simp only [Act.put, List.setIfInBounds_toArray, List.set_cons_zero, List.set_cons_succ, Array.toArray_toList]
          first
          | refine p_skip rfl ?_
          | (refine p_go rfl ?_; simp only [bare]; apply p_qL (ops0 := #[]) rfl rfl rfl (Nat.le_of_ble_eq_true rfl); focus (intro w' hb; go_wp2_with fail; refine ⟨rfl, ?_, rfl⟩; simp only [List.getElem?_toArray, List.getElem?_cons_zero, List.getElem?_cons_succ, Option.some.injEq]; rfl))
          simp only [Act.put, List.setIfInBounds_toArray, List.set_cons_zero, List.set_cons_succ, Array.toArray_toList]
          first
          | refine p_skip rfl ?_
          | (refine p_go rfl ?_; simp only [bare]; refine p_load1 rfl rfl (fun w' hb => cell_below hb (by assumption)) Tryd.underlying3 rfl ?_)
          simp only [Act.put, List.setIfInBounds_toArray, List.set_cons_zero, List.set_cons_succ, Array.toArray_toList]
          first
          | refine p_skip rfl ?_
          | (refine p_go rfl ?_; simp only [bare]; apply p_qL (ops0 := #[]) rfl rfl rfl (Nat.le_of_ble_eq_true rfl); focus (intro w' hb; go_wp2_with fail; refine ⟨rfl, ?_, rfl⟩; simp only [List.getElem?_toArray, List.getElem?_cons_zero, List.getElem?_cons_succ, Option.some.injEq]; rfl))
          simp only [Act.put, List.setIfInBounds_toArray, List.set_cons_zero, List.set_cons_succ, Array.toArray_toList]
          first
          | refine p_skip rfl ?_
          | (refine p_go rfl ?_; simp only [bare]; refine p_load1 rfl rfl (fun w' hb => cell_below hb (by assumption)) Tryd.underlying3 rfl ?_)
          simp only [Act.put, List.setIfInBounds_toArray, List.set_cons_zero, List.set_cons_succ, Array.toArray_toList]
          first
          | refine p_skip rfl ?_
          | (refine p_go rfl ?_; simp only [bare]; apply p_qL (ops0 := #[]) rfl rfl rfl (Nat.le_of_ble_eq_true rfl); focus (intro w' hb; go_wp2_with fail; refine ⟨rfl, ?_, rfl⟩; simp only [List.getElem?_toArray, List.getElem?_cons_zero, List.getElem?_cons_succ, Option.some.injEq]; rfl))
          simp only [Act.put, List.setIfInBounds_toArray, List.set_cons_zero, List.set_cons_succ, Array.toArray_toList]
          apply p_qL (ops0 := #[]) rfl rfl rfl (Nat.le_of_ble_eq_true rfl)
          focus (intro w' hb; go_wp2_with fail; refine ⟨rfl, ?_, rfl⟩; simp only [List.getElem?_toArray, List.getElem?_cons_zero, List.getElem?_cons_succ, Option.some.injEq]; rfl)
          simp only [Act.put, List.setIfInBounds_toArray, List.set_cons_zero, List.set_cons_succ, Array.toArray_toList]
          apply p_q
          focus (intro w' hb; go_simp <;> rfl)
          simp only [Act.put, List.setIfInBounds_toArray, List.set_cons_zero, List.set_cons_succ, Array.toArray_toList]
          first
          | refine p_skip rfl ?_
          | (refine p_go rfl ?_; simp only [bare]; apply p_qL (ops0 := #[]) rfl rfl rfl (Nat.le_of_ble_eq_true rfl); focus (intro w' hb; go_wp2_with fail; refine ⟨rfl, ?_, rfl⟩; simp only [List.getElem?_toArray, List.getElem?_cons_zero, List.getElem?_cons_succ, Option.some.injEq]; rfl))
          simp only [Act.put, List.setIfInBounds_toArray, List.set_cons_zero, List.set_cons_succ, Array.toArray_toList]
          first
          | refine p_skip rfl ?_
          | (refine p_go rfl ?_; simp only [bare]; refine p_load1 rfl rfl (fun w' hb => cell_below hb (by assumption)) Tryd.underlying112 rfl ?_)
          simp only [Act.put, List.setIfInBounds_toArray, List.set_cons_zero, List.set_cons_succ, Array.toArray_toList]
          first
          | refine p_skip rfl ?_
          | (refine p_go rfl ?_; simp only [bare]; apply p_q; focus (intro w' hb; go_simp <;> rfl))
          simp only [Act.put, List.setIfInBounds_toArray, List.set_cons_zero, List.set_cons_succ, Array.toArray_toList]
          first
          | refine p_skip rfl ?_
          | (refine p_go rfl ?_; simp only [bare]; apply p_qL (ops0 := #[]) rfl rfl rfl (Nat.le_of_ble_eq_true rfl); focus (intro w' hb; go_wp2_with fail; refine ⟨rfl, ?_, rfl⟩; simp only [List.getElem?_toArray, List.getElem?_cons_zero, List.getElem?_cons_succ, Option.some.injEq]; rfl))
          simp only [Act.put, List.setIfInBounds_toArray, List.set_cons_zero, List.set_cons_succ, Array.toArray_toList]
          first
          | refine p_skip rfl ?_
          | (refine p_go rfl ?_; simp only [bare]; refine p_load1 rfl rfl (fun w' hb => cell_below hb (by assumption)) Tryd.underlying3 rfl ?_)
          simp only [Act.put, List.setIfInBounds_toArray, List.set_cons_zero, List.set_cons_succ, Array.toArray_toList]
          first
          | refine p_skip rfl ?_
          | (refine p_go rfl ?_; simp only [bare]; apply p_qL (ops0 := #[]) rfl rfl rfl (Nat.le_of_ble_eq_true rfl); focus (intro w' hb; go_wp2_with fail; refine ⟨rfl, ?_, rfl⟩; simp only [List.getElem?_toArray, List.getElem?_cons_zero, List.getElem?_cons_succ, Option.some.injEq]; rfl))
          simp only [Act.put, List.setIfInBounds_toArray, List.set_cons_zero, List.set_cons_succ, Array.toArray_toList]
          first
          | refine p_skip rfl ?_
          | (refine p_go rfl ?_; simp only [bare]; refine p_load1 rfl rfl (fun w' hb => cell_below hb (by assumption)) Tryd.underlying3 rfl ?_)
          simp only [Act.put, List.setIfInBounds_toArray, List.set_cons_zero, List.set_cons_succ, Array.toArray_toList]
          refine p_skipA rfl (fun _ => (Below.refl w4.heap.size w4).drew) ?_
          simp only [Act.put, List.setIfInBounds_toArray, List.set_cons_zero, List.set_cons_succ, Array.toArray_toList]
          first
          | refine p_skip rfl ?_
          | (refine p_go rfl ?_; simp only [bare]; apply p_qL (ops0 := #[]) rfl rfl rfl (Nat.le_of_ble_eq_true rfl); focus (intro w' hb; go_wp2_with fail; refine ⟨rfl, ?_, rfl⟩; simp only [List.getElem?_toArray, List.getElem?_cons_zero, List.getElem?_cons_succ, Option.some.injEq]; rfl))
          simp only [Act.put, List.setIfInBounds_toArray, List.set_cons_zero, List.set_cons_succ, Array.toArray_toList]
          apply p_qL (ops0 := #[]) rfl rfl rfl (Nat.le_of_ble_eq_true rfl)
          focus (intro w' hb; go_wp2_with fail; refine ⟨rfl, ?_, rfl⟩; simp only [List.getElem?_toArray, List.getElem?_cons_zero, List.getElem?_cons_succ, Option.some.injEq]; rfl)
          simp only [Act.put, List.setIfInBounds_toArray, List.set_cons_zero, List.set_cons_succ, Array.toArray_toList]
          refine p_end ?_
          go_wp2
          go_ret
          exact ⟨by rw [HM.out, all_false hlt (by rw [← HX.out]; exact HF.out)]; rfl, (below_next hb0 hb4).drew⟩
      · obtain rfl : k = L.length := by omega
        have hg : mayPf p = true := by rw [HM.out]; exact all_iff.2 (fun j hj => HA.out j hj)
        have HG := Lib.hid hg
        clear hg
        go_wp2
        go_ret
        exact ⟨by rw [HG.out]; rfl, below_next hb0 hb⟩
  · have hm : mayPf p = false := by
      cases hm : mayPf p
      · rfl
      · simp only [mayPf, Bool.and_eq_true, decide_eq_true_eq] at hm
        exact absurd ⟨hm.1.1.1, hm.1.1.2, hm.1.2⟩ hd
    have HM := Lib.hid hm
    clear hm
    have HD := Lib.hid hd
    clear hd
    go_enter Tryd.func30, Tryd.ntmps30
    go_wp2
    all_goals first
      | (go_ret; exact ⟨by rw [HM.out]; rfl, below_alloc (Below.refl _ _) _⟩)
      | (exfalso; have := HD.out; omega)
end Go.Proofs.YtlkjeneffohnkaaDoor
