import Derived.Test.YtlkjeneffohnkaaDoorKp1
set_option linter.unusedVariables false
set_option linter.unusedSimpArgs false
namespace Go.Proofs.YtlkjeneffohnkaaDoor
open Go.RowKit Go.Proofs Go.Proofs.Plan Go.Proofs.YtlkjeneffohnkaaDoorW.PrintWords
def ptup (k : Nat) (b : Bool) : Value := .tuple #[.int .i64 k, .bool b]
set_option maxHeartbeats 1000000 in
set_option maxRecDepth 100000 in
theorem r12_place (key : Bs) (A : Option Addr) (n c : Nat) (xs : List Pr) (w : World) (h : kP.C w A n xs) :
    Calls Tryd.prog 102 #[.slice A n c, .string key] w fun e w' => e = .returned (ptup (place xs key) (isAt xs (place xs key) key)) ∧ Below w.heap.size w w' := by
  have HL := Lib.hid h.1
  have HM := h.2.1
  have HH := Lib.hid h
  clear h
  go_enter Tryd.func102, Tryd.ntmps102
  go_wp2
  go_loopg [6] n (fun g i wr => ∃ k : Nat, k + g = n ∧ i = .int .i64 k ∧ (∀ j, j < k → blt (xs.getD j dP).key key = true) ∧ w = wr)
  case atStart => exact ⟨0, by omega, rfl, fun j hj => by omega, rfl⟩
  case round =>
    obtain ⟨k, hk, rfl, hall, rfl⟩ := hrel
    have HA := Lib.hid hall
    clear hall
    by_cases hlt : k < n
    · obtain ⟨ad, rfl, q0, q1⟩ := kP_at HH.out k hlt
      obtain ⟨x, hx⟩ : ∃ x, x = xs.getD k dP := ⟨_, rfl⟩
      rw [← hx] at q0 q1
      have HXX := Lib.hid hx
      clear hx
      cases hb : Op.bytesLess x.key.toList key.toList
      · have hp : place xs key = k := by
          have HB := Lib.hid hb
          refine place_unique k (by rw [HL.out]; omega) (fun i hi => HA.out i hi) (fun _ => by rw [← HXX.out]; exact HB.out)
        have ha : isAt xs k key = (x.key.toList == key.toList) := by
          unfold isAt
          rw [HL.out, decide_eq_true hlt, Bool.true_and, ← HXX.out, eq_toList]
        have hpt : ptup (place xs key) (isAt xs (place xs key) key) = ptup k (x.key.toList == key.toList) := by rw [hp, ha]
        have HPT := Lib.hid hpt
        clear hp ha hpt
        cases he : (x.key.toList == key.toList)
        all_goals
          have HE := Lib.hid he
          go_upto_region 4 with (fail)
          refine wp_num (fun w' => Below w.heap.size w w') [0, 1, 2, 3, 4, 5, 6, 7, 8, 9, 10, 11, 12, 13, 14, 15] (.c (0, none, none) (.c (1, none, none) (.c (2, none, none) (.c (3, none, none) (.c (4, none, none) (.c (5, none, none) (.c (6, none, some (27, true)) (.c (7, none, some (27, true)) (.c (8, none, some (27, true)) (.c (9, none, some (27, true)) (.c (10, none, some (27, true)) (.c (11, none, some (27, true)) (.c (12, none, some (27, true)) (.c (13, none, none) (.c (14, none, none) (.c (15, none, none) (.nil))))))))))))))))) (by kernel_rfl) (by kernel_rfl) (by kernel_rfl) (fun _ _ d _ _ h => by cases d <;> exact h) (by kernel_rfl) ((Below.refl _ _).drew) ?_
          simp only [selE, nthO]
          apply p_q
          focus (intro w' hb; go_simp <;> rfl)
          simp only [Act.put, List.setIfInBounds_toArray, List.set_cons_zero, List.set_cons_succ, Array.toArray_toList]
          apply p_q
          focus (intro w' hb; go_simp <;> rfl)
          simp only [Act.put, List.setIfInBounds_toArray, List.set_cons_zero, List.set_cons_succ, Array.toArray_toList]
          apply p_q
          focus (intro w' hb; go_simp <;> rfl)
          simp only [Act.put, List.setIfInBounds_toArray, List.set_cons_zero, List.set_cons_succ, Array.toArray_toList]
          apply p_q
          focus (intro w' hb; go_simp <;> rfl)
          simp only [Act.put, List.setIfInBounds_toArray, List.set_cons_zero, List.set_cons_succ, Array.toArray_toList]
          apply p_qL (ops0 := #[]) rfl rfl rfl (Nat.le_of_ble_eq_true rfl)
          focus (intro w' hb; go_wp2_with fail; refine ⟨rfl, ?_, rfl⟩; simp only [List.getElem?_toArray, List.getElem?_cons_zero, List.getElem?_cons_succ, Option.some.injEq]; rfl)
          simp only [Act.put, List.setIfInBounds_toArray, List.set_cons_zero, List.set_cons_succ, Array.toArray_toList]
          apply p_q
          focus (intro w' hb; go_simp <;> rfl)
          simp only [Act.put, List.setIfInBounds_toArray, List.set_cons_zero, List.set_cons_succ, Array.toArray_toList]
          first
          | refine p_skip rfl ?_
          | (refine p_go rfl ?_; simp only [bare]; apply p_q; focus (intro w' hb; go_simp <;> rfl))
          simp only [Act.put, List.setIfInBounds_toArray, List.set_cons_zero, List.set_cons_succ, Array.toArray_toList]
          first
          | refine p_skip rfl ?_
          | (refine p_go rfl ?_; simp only [bare]; apply p_q; focus (intro w' hb; go_simp <;> rfl))
          simp only [Act.put, List.setIfInBounds_toArray, List.set_cons_zero, List.set_cons_succ, Array.toArray_toList]
          first
          | refine p_skip rfl ?_
          | (refine p_go rfl ?_; simp only [bare]; apply p_qL (ops0 := #[]) rfl rfl rfl (Nat.le_of_ble_eq_true rfl); focus (intro w' hb; go_wp2_with fail; refine ⟨rfl, ?_, rfl⟩; simp only [List.getElem?_toArray, List.getElem?_cons_zero, List.getElem?_cons_succ, Option.some.injEq]; rfl))
          simp only [Act.put, List.setIfInBounds_toArray, List.set_cons_zero, List.set_cons_succ, Array.toArray_toList]
          first
          | refine p_skip rfl ?_
          | (refine p_go rfl ?_; simp only [bare]; apply p_qL (ops0 := #[]) rfl rfl rfl (Nat.le_of_ble_eq_true rfl); focus (intro w' hb; go_wp2_with fail; refine ⟨rfl, ?_, rfl⟩; simp only [List.getElem?_toArray, List.getElem?_cons_zero, List.getElem?_cons_succ, Option.some.injEq]; rfl))
          simp only [Act.put, List.setIfInBounds_toArray, List.set_cons_zero, List.set_cons_succ, Array.toArray_toList]
          first
          | refine p_skip rfl ?_
          | (refine p_go rfl ?_; simp only [bare]; refine p_load1 rfl rfl (fun w' hb => cell_below hb (by assumption)) Tryd.underlying9 rfl ?_)
          simp only [Act.put, List.setIfInBounds_toArray, List.set_cons_zero, List.set_cons_succ, Array.toArray_toList]
          first
          | refine p_skip rfl ?_
          | (refine p_go rfl ?_; simp only [bare]; apply p_q; focus (intro w' hb; go_simp <;> rfl))
          simp only [Act.put, List.setIfInBounds_toArray, List.set_cons_zero, List.set_cons_succ, Array.toArray_toList]
          first
          | refine p_skip rfl ?_
          | (refine p_go rfl ?_; simp only [bare]; apply p_qL (ops0 := #[]) rfl rfl rfl (Nat.le_of_ble_eq_true rfl); focus (intro w' hb; go_wp2_with fail; refine ⟨rfl, ?_, rfl⟩; simp only [List.getElem?_toArray, List.getElem?_cons_zero, List.getElem?_cons_succ, Option.some.injEq]; rfl))
          simp only [Act.put, List.setIfInBounds_toArray, List.set_cons_zero, List.set_cons_succ, Array.toArray_toList]
          apply p_qL (ops0 := #[]) rfl rfl rfl (Nat.le_of_ble_eq_true rfl)
          focus (intro w' hb; go_wp2_with fail; refine ⟨rfl, ?_, rfl⟩; simp only [List.getElem?_toArray, List.getElem?_cons_zero, List.getElem?_cons_succ, Option.some.injEq]; rfl)
          simp only [Act.put, List.setIfInBounds_toArray, List.set_cons_zero, List.set_cons_succ, Array.toArray_toList]
          apply p_q
          focus (intro w' hb; go_simp <;> rfl)
          simp only [Act.put, List.setIfInBounds_toArray, List.set_cons_zero, List.set_cons_succ, Array.toArray_toList]
          apply p_q
          focus (intro w' hb; go_simp <;> rfl)
          simp only [Act.put, List.setIfInBounds_toArray, List.set_cons_zero, List.set_cons_succ, Array.toArray_toList]
          refine p_end ?_
          go_wp2
          go_ret2
          exact ⟨by rw [HPT.out, HE.out]; rfl, (Below.refl _ _).drew⟩
      · go_wp2
        go_roundg (gk - 1)
        case measure => omega
        case rel =>
          refine ⟨k + 1, by omega, by go_num, fun j hj => ?_, rfl⟩
          by_cases hjk : j < k
          · exact HA.out j hjk
          · obtain rfl : j = k := by omega
            rw [← HXX.out]; exact hb
    · obtain rfl : k = n := by omega
      have hp : place xs key = k := place_unique k (by rw [HL.out]; omega) (fun i hi => HA.out i hi) (fun h => by rw [HL.out] at h; omega)
      have ha : isAt xs k key = false := by unfold isAt; rw [HL.out, decide_eq_false (Nat.lt_irrefl k)]; rfl
      have hpt : ptup (place xs key) (isAt xs (place xs key) key) = ptup k false := by rw [hp, ha]
      have HPT := Lib.hid hpt
      clear hp ha hpt
      have c0 : decide ((k : Int) < (k : Int)) = false := by simp
      go_upto_region 4 with (fail)
      refine wp_num (fun w' => Below w.heap.size w w') [0, 1, 2, 3, 4, 5, 6, 7, 8, 9, 10, 11, 12, 13, 14, 15] (.c (0, none, none) (.c (1, none, none) (.c (2, none, none) (.c (3, none, none) (.c (4, none, none) (.c (5, none, none) (.c (6, none, some (27, true)) (.c (7, none, some (27, true)) (.c (8, none, some (27, true)) (.c (9, none, some (27, true)) (.c (10, none, some (27, true)) (.c (11, none, some (27, true)) (.c (12, none, some (27, true)) (.c (13, none, none) (.c (14, none, none) (.c (15, none, none) (.nil))))))))))))))))) (by kernel_rfl) (by kernel_rfl) (by kernel_rfl) (fun _ _ d _ _ h => by cases d <;> exact h) (by kernel_rfl) ((Below.refl _ _).drew) ?_
      simp only [selE, nthO]
      apply p_q
      focus (intro w' hb; go_simp <;> rfl)
      simp only [Act.put, List.setIfInBounds_toArray, List.set_cons_zero, List.set_cons_succ, Array.toArray_toList]
      apply p_q
      focus (intro w' hb; go_simp <;> rfl)
      simp only [Act.put, List.setIfInBounds_toArray, List.set_cons_zero, List.set_cons_succ, Array.toArray_toList]
      apply p_q
      focus (intro w' hb; go_simp <;> rfl)
      simp only [Act.put, List.setIfInBounds_toArray, List.set_cons_zero, List.set_cons_succ, Array.toArray_toList]
      apply p_q
      focus (intro w' hb; go_simp <;> rfl)
      simp only [Act.put, List.setIfInBounds_toArray, List.set_cons_zero, List.set_cons_succ, Array.toArray_toList]
      apply p_qL (ops0 := #[]) rfl rfl rfl (Nat.le_of_ble_eq_true rfl)
      focus (intro w' hb; go_wp2_with fail; refine ⟨rfl, ?_, rfl⟩; simp only [List.getElem?_toArray, List.getElem?_cons_zero, List.getElem?_cons_succ, Option.some.injEq]; rfl)
      simp only [Act.put, List.setIfInBounds_toArray, List.set_cons_zero, List.set_cons_succ, Array.toArray_toList]
      apply p_q
      focus (intro w' hb; go_simp <;> rfl)
      simp only [Act.put, List.setIfInBounds_toArray, List.set_cons_zero, List.set_cons_succ, Array.toArray_toList]
      first
      | refine p_skip rfl ?_
      | (refine p_go rfl ?_; simp only [bare]; apply p_q; focus (intro w' hb; go_simp <;> rfl))
      simp only [Act.put, List.setIfInBounds_toArray, List.set_cons_zero, List.set_cons_succ, Array.toArray_toList]
      first
      | refine p_skip rfl ?_
      | (refine p_go rfl ?_; simp only [bare]; apply p_q; focus (intro w' hb; go_simp <;> rfl))
      simp only [Act.put, List.setIfInBounds_toArray, List.set_cons_zero, List.set_cons_succ, Array.toArray_toList]
      first
      | refine p_skip rfl ?_
      | (refine p_go rfl ?_; simp only [bare]; apply p_qL (ops0 := #[]) rfl rfl rfl (Nat.le_of_ble_eq_true rfl); focus (intro w' hb; go_wp2_with fail; refine ⟨rfl, ?_, rfl⟩; simp only [List.getElem?_toArray, List.getElem?_cons_zero, List.getElem?_cons_succ, Option.some.injEq]; rfl))
      simp only [Act.put, List.setIfInBounds_toArray, List.set_cons_zero, List.set_cons_succ, Array.toArray_toList]
      first
      | refine p_skip rfl ?_
      | (refine p_go rfl ?_; simp only [bare]; apply p_qL (ops0 := #[]) rfl rfl rfl (Nat.le_of_ble_eq_true rfl); focus (intro w' hb; go_wp2_with fail; refine ⟨rfl, ?_, rfl⟩; simp only [List.getElem?_toArray, List.getElem?_cons_zero, List.getElem?_cons_succ, Option.some.injEq]; rfl))
      simp only [Act.put, List.setIfInBounds_toArray, List.set_cons_zero, List.set_cons_succ, Array.toArray_toList]
      first
      | refine p_skip rfl ?_
      | (refine p_go rfl ?_; simp only [bare]; refine p_load1 rfl rfl (fun w' hb => cell_below hb (by assumption)) Tryd.underlying9 rfl ?_)
      simp only [Act.put, List.setIfInBounds_toArray, List.set_cons_zero, List.set_cons_succ, Array.toArray_toList]
      first
      | refine p_skip rfl ?_
      | (refine p_go rfl ?_; simp only [bare]; apply p_q; focus (intro w' hb; go_simp <;> rfl))
      simp only [Act.put, List.setIfInBounds_toArray, List.set_cons_zero, List.set_cons_succ, Array.toArray_toList]
      first
      | refine p_skip rfl ?_
      | (refine p_go rfl ?_; simp only [bare]; apply p_qL (ops0 := #[]) rfl rfl rfl (Nat.le_of_ble_eq_true rfl); focus (intro w' hb; go_wp2_with fail; refine ⟨rfl, ?_, rfl⟩; simp only [List.getElem?_toArray, List.getElem?_cons_zero, List.getElem?_cons_succ, Option.some.injEq]; rfl))
      simp only [Act.put, List.setIfInBounds_toArray, List.set_cons_zero, List.set_cons_succ, Array.toArray_toList]
      apply p_qL (ops0 := #[]) rfl rfl rfl (Nat.le_of_ble_eq_true rfl)
      focus (intro w' hb; go_wp2_with fail; refine ⟨rfl, ?_, rfl⟩; simp only [List.getElem?_toArray, List.getElem?_cons_zero, List.getElem?_cons_succ, Option.some.injEq]; rfl)
      simp only [Act.put, List.setIfInBounds_toArray, List.set_cons_zero, List.set_cons_succ, Array.toArray_toList]
      apply p_q
      focus (intro w' hb; go_simp <;> rfl)
      simp only [Act.put, List.setIfInBounds_toArray, List.set_cons_zero, List.set_cons_succ, Array.toArray_toList]
      apply p_q
      focus (intro w' hb; go_simp <;> rfl)
      simp only [Act.put, List.setIfInBounds_toArray, List.set_cons_zero, List.set_cons_succ, Array.toArray_toList]
      refine p_end ?_
      go_wp2
      go_ret2
      exact ⟨by rw [HPT.out]; rfl, (Below.refl _ _).drew⟩
/-- Set: the key has the value -/
def setP (xs : List Pr) (key val : Bs) : List Pr := xs.take (place xs key) ++ [⟨key, val⟩] ++ xs.drop (if isAt xs (place xs key) key = true then place xs key + 1 else place xs key)
end Go.Proofs.YtlkjeneffohnkaaDoor
