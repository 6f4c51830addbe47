import Derived.Test.YtlkjeneffohnkaaDoorPf1
set_option linter.unusedVariables false
set_option linter.unusedSimpArgs false
namespace Go.Proofs.YtlkjeneffohnkaaDoor
open Go.RowKit Go.Proofs Go.Proofs.Plan Go.Proofs.YtlkjeneffohnkaaDoorW.PrintWords
/-- pair k is as it must be behind the ones ahead -/
def goodAt (xs : List Pr) (k : Nat) : Bool := sized (xs.getD k dP).key (xs.getD k dP).val && (k == 0 || blt (xs.getD (k - 1) dP).key (xs.getD k dP).key)
theorem rising_iff : ∀ l : List Pr, rising l = true ↔ ∀ i, i + 1 < l.length → blt (l.getD i dP).key (l.getD (i + 1) dP).key = true
  | [] => by simp [rising]
  | [a] => by simp [rising]
  | a :: b :: l => by
    rw [rising, Bool.and_eq_true, rising_iff (b :: l)]
    constructor
    · rintro ⟨h1, h2⟩ i hi
      cases i with
      | zero => exact h1
      | succ i => exact h2 i (by simpa using hi)
    · intro h
      exact ⟨h 0 (by simp), fun i hi => h (i + 1) (by simpa using hi)⟩
theorem good_iff (xs : List Pr) : good xs = true ↔ ∀ j, j < xs.length → goodAt xs j = true := by
  rw [good, Bool.and_eq_true, rising_iff, List.all_eq_true]
  constructor
  · rintro ⟨h1, h2⟩ j hj
    rw [goodAt, Bool.and_eq_true]
    refine ⟨h1 _ (getD_mem hj), ?_⟩
    cases j with
    | zero => rfl
    | succ j => rw [Bool.or_eq_true]; exact .inr (h2 j hj)
  · intro h
    refine ⟨fun x hx => ?_, fun i hi => ?_⟩
    · obtain ⟨j, hj, rfl⟩ := List.mem_iff_getElem.1 hx
      have := h j hj
      rw [goodAt, Bool.and_eq_true, getD_lt xs dP hj] at this
      exact this.1
    · have := h (i + 1) hi
      rw [goodAt, Bool.and_eq_true, Bool.or_eq_true] at this
      rcases this.2 with h0 | h0
      · simp at h0
      · exact h0
theorem good_false {xs : List Pr} {j : Nat} (hj : j < xs.length) (h : goodAt xs j = false) : good xs = false := by
  cases hg : good xs
  · rfl
  · rw [(good_iff xs).1 hg j hj] at h; cases h
set_option maxHeartbeats 2000000 in
set_option maxRecDepth 100000 in
theorem proof_Good (A : Option Addr) (n c : Nat) (xs : List Pr) (w : World) (hn : n ≤ 1073741824) (h : kP.C w A n xs) :
    Calls Tryd.prog 17 #[.slice A n c] w fun e w' => e = .returned (.bool (good xs)) ∧ Below w.heap.size w w' := by
  have hl := h.1
  have HL := Lib.hid hl
  have HH := Lib.hid h
  clear h hl
  go_enter Tryd.func17, Tryd.ntmps17
  go_wp2
  go_loopg [7] n (fun g i wr => ∃ k : Nat, k + g = n ∧ i = .int .i64 k ∧ (∀ j, j < k → goodAt xs j = true) ∧ Below w.heap.size w wr)
  case atStart => exact ⟨0, by omega, rfl, fun j hj => by omega, Below.refl _ _⟩
  case round =>
    obtain ⟨k, hk, rfl, hall, hb⟩ := hrel
    have HA := Lib.hid hall
    clear hall
    by_cases hlt : k < n
    · obtain ⟨ad, rfl, hat⟩ := kP_get HH.out k hlt
      obtain ⟨x, hx⟩ : ∃ x, x = xs.getD k dP := ⟨_, rfl⟩
      rw [← hx] at hat
      have hat' : World.at_ wr (ad.add (k * 2)) [.string x.key, .string x.val] := at_below hb hat
      have HX := Lib.hid hx
      clear hx hat
      have hgk : goodAt xs k = (sized x.key x.val && (k == 0 || blt (xs.getD (k - 1) dP).key x.key)) := by rw [HX.out]; rfl
      have HGK := Lib.hid hgk
      clear hgk
      go_upto_region 4 with (first | (refine l_load rfl rfl rfl hat' Tryd.underlying60 rfl Tryd.info60 ?_))
      obtain ⟨w4, hw4⟩ : ∃ w4, w4 = wr.alloc (Obj.cells #[Value.string x.key, Value.string x.val] 60) := ⟨_, rfl⟩
      have q0 : w4.cell? ⟨wr.heap.size, 0, none⟩ = some (.string x.key) := by rw [hw4, cell_of_row _ _ _ _ _ _ (heap_alloc_is _ _ _ rfl)]; rfl
      have q1 : w4.cell? ⟨wr.heap.size, 1, none⟩ = some (.string x.val) := by rw [hw4, cell_of_row _ _ _ _ _ _ (heap_alloc_is _ _ _ rfl)]; rfl
      have hb4 : Below w.heap.size w w4 := by rw [hw4]; exact below_alloc hb _
      rw [← hw4]
      clear hw4
      by_cases hs : sized x.key x.val = true
      · have HZ := Lib.hid hs
        clear hs
        by_cases h0 : k = 0
        · subst h0
          refine wp_num (fun w' => Below w4.heap.size w4 w') [0, 1, 2, 3, 5, 6, 7, 8, 9, 10, 11, 12, 13, 14, 15, 16, 17, 18, 19, 20] (.c (0, none, none) (.c (1, none, none) (.c (2, none, none) (.c (3, none, none) (.c (4, some true, none) (.c (5, none, none) (.c (6, none, none) (.c (7, none, some (18, false)) (.c (8, none, some (18, false)) (.c (9, none, some (18, false)) (.c (10, none, some (21, true)) (.c (11, none, some (21, true)) (.c (12, none, some (21, true)) (.c (13, none, some (21, true)) (.c (14, none, some (21, true)) (.c (15, none, some (21, true)) (.c (16, none, some (21, true)) (.c (17, none, some (21, true)) (.c (18, none, some (21, true)) (.c (19, none, some (18, false)) (.c (20, none, none) (.nil)))))))))))))))))))))) (by kernel_rfl) (by kernel_rfl) (by kernel_rfl) (fun _ _ d _ _ h => by cases d <;> exact h) (by kernel_rfl) ((Below.refl _ _).drew) ?_
          simp only [selE, nthO]
          apply p_qL (ops0 := #[]) rfl rfl rfl (Nat.le_of_ble_eq_true rfl)
          focus (intro w' hb; go_wp2_with fail; refine ⟨rfl, ?_, rfl⟩; simp only [List.getElem?_toArray, List.getElem?_cons_zero, List.getElem?_cons_succ, Option.some.injEq]; rfl)
          simp only [Act.put, List.setIfInBounds_toArray, List.set_cons_zero, List.set_cons_succ, Array.toArray_toList]
          refine p_load1 rfl rfl (fun w' hb => cell_below hb (by assumption)) Tryd.underlying9 rfl ?_
          simp only [Act.put, List.setIfInBounds_toArray, List.set_cons_zero, List.set_cons_succ, Array.toArray_toList]
          apply p_qL (ops0 := #[]) rfl rfl rfl (Nat.le_of_ble_eq_true rfl)
          focus (intro w' hb; go_wp2_with fail; refine ⟨rfl, ?_, rfl⟩; simp only [List.getElem?_toArray, List.getElem?_cons_zero, List.getElem?_cons_succ, Option.some.injEq]; rfl)
          simp only [Act.put, List.setIfInBounds_toArray, List.set_cons_zero, List.set_cons_succ, Array.toArray_toList]
          refine p_load1 rfl rfl (fun w' hb => cell_below hb (by assumption)) Tryd.underlying9 rfl ?_
          simp only [Act.put, List.setIfInBounds_toArray, List.set_cons_zero, List.set_cons_succ, Array.toArray_toList]
          refine p_list (ops := #[]) rfl ?_
          go_wp2_with fail
          refine (proof_sizedB x.key x.val true HZ.out _).mono ?_
          rintro e _ ⟨rfl, rfl⟩
          go_wp2_with fail
          refine ⟨fun _ => (Below.refl w4.heap.size w4).drew, ?_⟩
          apply p_qL (ops0 := #[]) rfl rfl rfl (Nat.le_of_ble_eq_true rfl)
          focus (intro w' hb; go_wp2_with fail; refine ⟨rfl, ?_, rfl⟩; simp only [List.getElem?_toArray, List.getElem?_cons_zero, List.getElem?_cons_succ, Option.some.injEq]; rfl)
          simp only [Act.put, List.setIfInBounds_toArray, List.set_cons_zero, List.set_cons_succ, Array.toArray_toList]
          apply p_q
          focus (intro w' hb; go_simp <;> rfl)
          simp only [Act.put, List.setIfInBounds_toArray, List.set_cons_zero, List.set_cons_succ, Array.toArray_toList]
          first
          | refine p_skip rfl ?_
          | (refine p_go rfl ?_; simp only [bare]; apply p_q; focus (intro w' hb; go_simp <;> rfl))
          simp only [Act.put, List.setIfInBounds_toArray, List.set_cons_zero, List.set_cons_succ, Array.toArray_toList]
          first
          | refine p_skip rfl ?_
          | (refine p_go rfl ?_; simp only [bare]; apply p_qL (ops0 := #[]) rfl rfl rfl (Nat.le_of_ble_eq_true rfl); focus (intro w' hb; go_wp2_with fail; refine ⟨rfl, ?_, rfl⟩; simp only [List.getElem?_toArray, List.getElem?_cons_zero, List.getElem?_cons_succ, Option.some.injEq]; rfl))
          simp only [Act.put, List.setIfInBounds_toArray, List.set_cons_zero, List.set_cons_succ, Array.toArray_toList]
          first
          | refine p_skip rfl ?_
          | (refine p_go rfl ?_; simp only [bare]; apply p_q; focus (intro w' hb; go_simp <;> rfl))
          simp only [Act.put, List.setIfInBounds_toArray, List.set_cons_zero, List.set_cons_succ, Array.toArray_toList]
          first
          | refine p_skip rfl ?_
          | (refine p_go rfl ?_; simp only [bare]; apply p_q; focus (intro w' hb; go_simp <;> rfl))
          simp only [Act.put, List.setIfInBounds_toArray, List.set_cons_zero, List.set_cons_succ, Array.toArray_toList]
          first
          | refine p_skip rfl ?_
          | (refine p_go rfl ?_; simp only [bare]; apply p_q; focus (intro w' hb; go_simp <;> rfl))
          simp only [Act.put, List.setIfInBounds_toArray, List.set_cons_zero, List.set_cons_succ, Array.toArray_toList]
          first
          | refine p_skip rfl ?_
          | (refine p_go rfl ?_; simp only [bare]; apply p_qL (ops0 := #[]) rfl rfl rfl (Nat.le_of_ble_eq_true rfl); focus (intro w' hb; go_wp2_with fail; refine ⟨rfl, ?_, rfl⟩; simp only [List.getElem?_toArray, List.getElem?_cons_zero, List.getElem?_cons_succ, Option.some.injEq]; rfl))
          simp only [Act.put, List.setIfInBounds_toArray, List.set_cons_zero, List.set_cons_succ, Array.toArray_toList]
          first
          | refine p_skip rfl ?_
          | (refine p_go rfl ?_; simp only [bare]; apply p_qL (ops0 := #[]) rfl rfl rfl (Nat.le_of_ble_eq_true rfl); focus (intro w' hb; go_wp2_with fail; refine ⟨rfl, ?_, rfl⟩; simp only [List.getElem?_toArray, List.getElem?_cons_zero, List.getElem?_cons_succ, Option.some.injEq]; rfl))
          simp only [Act.put, List.setIfInBounds_toArray, List.set_cons_zero, List.set_cons_succ, Array.toArray_toList]
          first
          | refine p_skip rfl ?_
          | (refine p_go rfl ?_; simp only [bare]; apply p_qL (ops0 := #[]) rfl rfl rfl (Nat.le_of_ble_eq_true rfl); focus (intro w' hb; go_wp2_with fail; refine ⟨rfl, ?_, rfl⟩; simp only [List.getElem?_toArray, List.getElem?_cons_zero, List.getElem?_cons_succ, Option.some.injEq]; rfl))
          simp only [Act.put, List.setIfInBounds_toArray, List.set_cons_zero, List.set_cons_succ, Array.toArray_toList]
          first
          | refine p_skip rfl ?_
          | (refine p_go rfl ?_; simp only [bare]; refine p_load1 rfl rfl (fun w' hb => cell_below hb (by assumption)) Tryd.underlying9 rfl ?_)
          simp only [Act.put, List.setIfInBounds_toArray, List.set_cons_zero, List.set_cons_succ, Array.toArray_toList]
          first
          | refine p_skip rfl ?_
          | (refine p_go rfl ?_; simp only [bare]; apply p_qL (ops0 := #[]) rfl rfl rfl (Nat.le_of_ble_eq_true rfl); focus (intro w' hb; go_wp2_with fail; refine ⟨rfl, ?_, rfl⟩; simp only [List.getElem?_toArray, List.getElem?_cons_zero, List.getElem?_cons_succ, Option.some.injEq]; rfl))
          simp only [Act.put, List.setIfInBounds_toArray, List.set_cons_zero, List.set_cons_succ, Array.toArray_toList]
          first
          | refine p_skip rfl ?_
          | (refine p_go rfl ?_; simp only [bare]; refine p_load1 rfl rfl (fun w' hb => cell_below hb (by assumption)) Tryd.underlying9 rfl ?_)
          simp only [Act.put, List.setIfInBounds_toArray, List.set_cons_zero, List.set_cons_succ, Array.toArray_toList]
          first
          | refine p_skip rfl ?_
          | (refine p_go rfl ?_; simp only [bare]; apply p_qL (ops0 := #[]) rfl rfl rfl (Nat.le_of_ble_eq_true rfl); focus (intro w' hb; go_wp2_with fail; refine ⟨rfl, ?_, rfl⟩; simp only [List.getElem?_toArray, List.getElem?_cons_zero, List.getElem?_cons_succ, Option.some.injEq]; rfl))
          simp only [Act.put, List.setIfInBounds_toArray, List.set_cons_zero, List.set_cons_succ, Array.toArray_toList]
          first
          | refine p_skip rfl ?_
          | (refine p_go rfl ?_; simp only [bare]; apply p_qL (ops0 := #[]) rfl rfl rfl (Nat.le_of_ble_eq_true rfl); focus (intro w' hb; go_wp2_with fail; refine ⟨rfl, ?_, rfl⟩; simp only [List.getElem?_toArray, List.getElem?_cons_zero, List.getElem?_cons_succ, Option.some.injEq]; rfl))
          simp only [Act.put, List.setIfInBounds_toArray, List.set_cons_zero, List.set_cons_succ, Array.toArray_toList]
          apply p_qL (ops0 := #[]) rfl rfl rfl (Nat.le_of_ble_eq_true rfl)
          focus (intro w' hb; go_wp2_with fail; refine ⟨rfl, ?_, rfl⟩; simp only [List.getElem?_toArray, List.getElem?_cons_zero, List.getElem?_cons_succ, Option.some.injEq]; rfl)
          simp only [Act.put, List.setIfInBounds_toArray, List.set_cons_zero, List.set_cons_succ, Array.toArray_toList]
          refine p_end ?_
          go_wp2
          go_roundg (gk - 1)
          case measure => omega
          case rel =>
            refine ⟨1, by omega, by go_num, fun j hj => ?_, hb4.drew⟩
            obtain rfl : j = 0 := by omega
            rw [HGK.out, HZ.out]; rfl
        · obtain ⟨j, rfl⟩ : ∃ j, k = j + 1 := ⟨k - 1, by omega⟩
          obtain ⟨ad2, had2, hat2⟩ := kP_get HH.out j (by omega)
          obtain rfl : ad = ad2 := by injection had2
          obtain ⟨y, hy⟩ : ∃ y, y = xs.getD j dP := ⟨_, rfl⟩
          rw [← hy] at hat2
          have q2 : w4.cell? (ad.add (j * 2)) = some (.string y.key) := cell_below (show Below w.heap.size w w4 from hb4) (by have := at_cell hat2 0 (v := .string y.key) rfl; rwa [add_add] at this)
          have ej : ((j + 1 : Nat) : Int) - 1 = (j : Int) := by omega
          have c0 : (0 < ((j + 1 : Nat) : Int)) = True := eq_true (by omega)
          have HY := Lib.hid hy
          clear hy hat2 had2
          have hgk := HGK.out
          rw [Nat.add_sub_cancel, ← HY.out] at hgk
          have HGK := Lib.hid hgk
          clear hgk
          refine wp_num (fun w' => Below w4.heap.size w4 w') [0, 1, 2, 3, 5, 6, 7, 8, 9, 10, 11, 12, 13, 14, 15, 16, 17, 18, 19, 20] (.c (0, none, none) (.c (1, none, none) (.c (2, none, none) (.c (3, none, none) (.c (4, some true, none) (.c (5, none, none) (.c (6, none, none) (.c (7, none, some (18, false)) (.c (8, none, some (18, false)) (.c (9, none, some (18, false)) (.c (10, none, some (21, true)) (.c (11, none, some (21, true)) (.c (12, none, some (21, true)) (.c (13, none, some (21, true)) (.c (14, none, some (21, true)) (.c (15, none, some (21, true)) (.c (16, none, some (21, true)) (.c (17, none, some (21, true)) (.c (18, none, some (21, true)) (.c (19, none, some (18, false)) (.c (20, none, none) (.nil)))))))))))))))))))))) (by kernel_rfl) (by kernel_rfl) (by kernel_rfl) (fun _ _ d _ _ h => by cases d <;> exact h) (by kernel_rfl) ((Below.refl _ _).drew) ?_
          simp only [selE, nthO]
          apply p_qL (ops0 := #[]) rfl rfl rfl (Nat.le_of_ble_eq_true rfl)
          focus (intro w' hb; go_wp2_with fail; refine ⟨rfl, ?_, rfl⟩; simp only [List.getElem?_toArray, List.getElem?_cons_zero, List.getElem?_cons_succ, Option.some.injEq]; rfl)
          simp only [Act.put, List.setIfInBounds_toArray, List.set_cons_zero, List.set_cons_succ, Array.toArray_toList]
          refine p_load1 rfl rfl (fun w' hb => cell_below hb (by assumption)) Tryd.underlying9 rfl ?_
          simp only [Act.put, List.setIfInBounds_toArray, List.set_cons_zero, List.set_cons_succ, Array.toArray_toList]
          apply p_qL (ops0 := #[]) rfl rfl rfl (Nat.le_of_ble_eq_true rfl)
          focus (intro w' hb; go_wp2_with fail; refine ⟨rfl, ?_, rfl⟩; simp only [List.getElem?_toArray, List.getElem?_cons_zero, List.getElem?_cons_succ, Option.some.injEq]; rfl)
          simp only [Act.put, List.setIfInBounds_toArray, List.set_cons_zero, List.set_cons_succ, Array.toArray_toList]
          refine p_load1 rfl rfl (fun w' hb => cell_below hb (by assumption)) Tryd.underlying9 rfl ?_
          simp only [Act.put, List.setIfInBounds_toArray, List.set_cons_zero, List.set_cons_succ, Array.toArray_toList]
          refine p_list (ops := #[]) rfl ?_
          go_wp2_with fail
          refine (proof_sizedB x.key x.val true HZ.out _).mono ?_
          rintro e _ ⟨rfl, rfl⟩
          go_wp2_with fail
          refine ⟨fun _ => (Below.refl w4.heap.size w4).drew, ?_⟩
          apply p_qL (ops0 := #[]) rfl rfl rfl (Nat.le_of_ble_eq_true rfl)
          focus (intro w' hb; go_wp2_with fail; refine ⟨rfl, ?_, rfl⟩; simp only [List.getElem?_toArray, List.getElem?_cons_zero, List.getElem?_cons_succ, Option.some.injEq]; rfl)
          simp only [Act.put, List.setIfInBounds_toArray, List.set_cons_zero, List.set_cons_succ, Array.toArray_toList]
          apply p_q
          focus (intro w' hb; go_simp <;> rfl)
          simp only [Act.put, List.setIfInBounds_toArray, List.set_cons_zero, List.set_cons_succ, Array.toArray_toList]
          first
          | refine p_skip rfl ?_
          | (refine p_go rfl ?_; simp only [bare]; apply p_q; focus (intro w' hb; go_simp <;> rfl))
          simp only [Act.put, List.setIfInBounds_toArray, List.set_cons_zero, List.set_cons_succ, Array.toArray_toList]
          first
          | refine p_skip rfl ?_
          | (refine p_go rfl ?_; simp only [bare]; apply p_qL (ops0 := #[]) rfl rfl rfl (Nat.le_of_ble_eq_true rfl); focus (intro w' hb; go_wp2_with fail; refine ⟨rfl, ?_, rfl⟩; simp only [List.getElem?_toArray, List.getElem?_cons_zero, List.getElem?_cons_succ, Option.some.injEq]; rfl))
          simp only [Act.put, List.setIfInBounds_toArray, List.set_cons_zero, List.set_cons_succ, Array.toArray_toList]
          first
          | refine p_skip rfl ?_
          | (refine p_go rfl ?_; simp only [bare]; apply p_q; focus (intro w' hb; go_simp <;> rfl))
          simp only [Act.put, List.setIfInBounds_toArray, List.set_cons_zero, List.set_cons_succ, Array.toArray_toList]
          first
          | refine p_skip rfl ?_
          | (refine p_go rfl ?_; simp only [bare]; apply p_q; focus (intro w' hb; go_simp <;> rfl))
          simp only [Act.put, List.setIfInBounds_toArray, List.set_cons_zero, List.set_cons_succ, Array.toArray_toList]
          first
          | refine p_skip rfl ?_
          | (refine p_go rfl ?_; simp only [bare]; apply p_q; focus (intro w' hb; go_simp <;> rfl))
          simp only [Act.put, List.setIfInBounds_toArray, List.set_cons_zero, List.set_cons_succ, Array.toArray_toList]
          first
          | refine p_skip rfl ?_
          | (refine p_go rfl ?_; simp only [bare]; apply p_qL (ops0 := #[]) rfl rfl rfl (Nat.le_of_ble_eq_true rfl); focus (intro w' hb; go_wp2_with fail; refine ⟨rfl, ?_, rfl⟩; simp only [List.getElem?_toArray, List.getElem?_cons_zero, List.getElem?_cons_succ, Option.some.injEq]; rfl))
          simp only [Act.put, List.setIfInBounds_toArray, List.set_cons_zero, List.set_cons_succ, Array.toArray_toList]
          first
          | refine p_skip rfl ?_
          | (refine p_go rfl ?_; simp only [bare]; apply p_qL (ops0 := #[]) rfl rfl rfl (Nat.le_of_ble_eq_true rfl); focus (intro w' hb; go_wp2_with fail; refine ⟨rfl, ?_, rfl⟩; simp only [List.getElem?_toArray, List.getElem?_cons_zero, List.getElem?_cons_succ, Option.some.injEq]; rfl))
          simp only [Act.put, List.setIfInBounds_toArray, List.set_cons_zero, List.set_cons_succ, Array.toArray_toList]
          first
          | refine p_skip rfl ?_
          | (refine p_go rfl ?_; simp only [bare]; apply p_qL (ops0 := #[]) rfl rfl rfl (Nat.le_of_ble_eq_true rfl); focus (intro w' hb; go_wp2_with fail; refine ⟨rfl, ?_, rfl⟩; simp only [List.getElem?_toArray, List.getElem?_cons_zero, List.getElem?_cons_succ, Option.some.injEq]; rfl))
          simp only [Act.put, List.setIfInBounds_toArray, List.set_cons_zero, List.set_cons_succ, Array.toArray_toList]
          first
          | refine p_skip rfl ?_
          | (refine p_go rfl ?_; simp only [bare]; refine p_load1 rfl rfl (fun w' hb => cell_below hb (by assumption)) Tryd.underlying9 rfl ?_)
          simp only [Act.put, List.setIfInBounds_toArray, List.set_cons_zero, List.set_cons_succ, Array.toArray_toList]
          first
          | refine p_skip rfl ?_
          | (refine p_go rfl ?_; simp only [bare]; apply p_qL (ops0 := #[]) rfl rfl rfl (Nat.le_of_ble_eq_true rfl); focus (intro w' hb; go_wp2_with fail; refine ⟨rfl, ?_, rfl⟩; simp only [List.getElem?_toArray, List.getElem?_cons_zero, List.getElem?_cons_succ, Option.some.injEq]; rfl))
          simp only [Act.put, List.setIfInBounds_toArray, List.set_cons_zero, List.set_cons_succ, Array.toArray_toList]
          first
          | refine p_skip rfl ?_
          | (refine p_go rfl ?_; simp only [bare]; refine p_load1 rfl rfl (fun w' hb => cell_below hb (by assumption)) Tryd.underlying9 rfl ?_)
          simp only [Act.put, List.setIfInBounds_toArray, List.set_cons_zero, List.set_cons_succ, Array.toArray_toList]
          first
          | refine p_skip rfl ?_
          | (refine p_go rfl ?_; simp only [bare]; apply p_qL (ops0 := #[]) rfl rfl rfl (Nat.le_of_ble_eq_true rfl); focus (intro w' hb; go_wp2_with fail; refine ⟨rfl, ?_, rfl⟩; simp only [List.getElem?_toArray, List.getElem?_cons_zero, List.getElem?_cons_succ, Option.some.injEq]; rfl))
          simp only [Act.put, List.setIfInBounds_toArray, List.set_cons_zero, List.set_cons_succ, Array.toArray_toList]
          first
          | refine p_skip rfl ?_
          | (refine p_go rfl ?_; simp only [bare]; apply p_qL (ops0 := #[]) rfl rfl rfl (Nat.le_of_ble_eq_true rfl); focus (intro w' hb; go_wp2_with fail; refine ⟨rfl, ?_, rfl⟩; simp only [List.getElem?_toArray, List.getElem?_cons_zero, List.getElem?_cons_succ, Option.some.injEq]; rfl))
          simp only [Act.put, List.setIfInBounds_toArray, List.set_cons_zero, List.set_cons_succ, Array.toArray_toList]
          apply p_qL (ops0 := #[]) rfl rfl rfl (Nat.le_of_ble_eq_true rfl)
          focus (intro w' hb; go_wp2_with fail; refine ⟨rfl, ?_, rfl⟩; simp only [List.getElem?_toArray, List.getElem?_cons_zero, List.getElem?_cons_succ, Option.some.injEq]; rfl)
          simp only [Act.put, List.setIfInBounds_toArray, List.set_cons_zero, List.set_cons_succ, Array.toArray_toList]
          refine p_end ?_
          cases hbl : Op.bytesLess y.key.toList x.key.toList
          · have HB := Lib.hid hbl
            go_wp2
            go_ret
            exact ⟨by rw [good_false (j := j + 1) (by rw [HL.out]; exact hlt) (by rw [HGK.out, HZ.out, blt, HB.out]; rfl)]; rfl, hb4.drew⟩
          · have HB := Lib.hid hbl
            go_wp2
            go_roundg (gk - 1)
            case measure => omega
            case rel =>
              refine ⟨j + 2, by omega, by go_num, fun i hi => ?_, hb4.drew⟩
              by_cases hij : i < j + 1
              · exact HA.out i hij
              · obtain rfl : i = j + 1 := by omega
                rw [HGK.out, HZ.out, blt, HB.out]; rfl
      · have hs' : sized x.key x.val = false := by simpa using hs
        have HZ := Lib.hid hs'
        clear hs hs'
        refine wp_num (fun w' => Below w4.heap.size w4 w') [0, 1, 2, 3, 5, 6, 7, 8, 9, 10, 11, 12, 13, 14, 15, 16, 17, 18, 19, 20] (.c (0, none, none) (.c (1, none, none) (.c (2, none, none) (.c (3, none, none) (.c (4, some true, none) (.c (5, none, none) (.c (6, none, none) (.c (7, none, some (18, false)) (.c (8, none, some (18, false)) (.c (9, none, some (18, false)) (.c (10, none, some (21, true)) (.c (11, none, some (21, true)) (.c (12, none, some (21, true)) (.c (13, none, some (21, true)) (.c (14, none, some (21, true)) (.c (15, none, some (21, true)) (.c (16, none, some (21, true)) (.c (17, none, some (21, true)) (.c (18, none, some (21, true)) (.c (19, none, some (18, false)) (.c (20, none, none) (.nil)))))))))))))))))))))) (by kernel_rfl) (by kernel_rfl) (by kernel_rfl) (fun _ _ d _ _ h => by cases d <;> exact h) (by kernel_rfl) ((Below.refl _ _).drew) ?_
        simp only [selE, nthO]
        apply p_qL (ops0 := #[]) rfl rfl rfl (Nat.le_of_ble_eq_true rfl)
        focus (intro w' hb; go_wp2_with fail; refine ⟨rfl, ?_, rfl⟩; simp only [List.getElem?_toArray, List.getElem?_cons_zero, List.getElem?_cons_succ, Option.some.injEq]; rfl)
        simp only [Act.put, List.setIfInBounds_toArray, List.set_cons_zero, List.set_cons_succ, Array.toArray_toList]
        refine p_load1 rfl rfl (fun w' hb => cell_below hb (by assumption)) Tryd.underlying9 rfl ?_
        simp only [Act.put, List.setIfInBounds_toArray, List.set_cons_zero, List.set_cons_succ, Array.toArray_toList]
        apply p_qL (ops0 := #[]) rfl rfl rfl (Nat.le_of_ble_eq_true rfl)
        focus (intro w' hb; go_wp2_with fail; refine ⟨rfl, ?_, rfl⟩; simp only [List.getElem?_toArray, List.getElem?_cons_zero, List.getElem?_cons_succ, Option.some.injEq]; rfl)
        simp only [Act.put, List.setIfInBounds_toArray, List.set_cons_zero, List.set_cons_succ, Array.toArray_toList]
        refine p_load1 rfl rfl (fun w' hb => cell_below hb (by assumption)) Tryd.underlying9 rfl ?_
        simp only [Act.put, List.setIfInBounds_toArray, List.set_cons_zero, List.set_cons_succ, Array.toArray_toList]
        refine p_list (ops := #[]) rfl ?_
        go_wp2_with fail
        refine (proof_sizedB x.key x.val false HZ.out _).mono ?_
        rintro e _ ⟨rfl, rfl⟩
        go_wp2_with fail
        refine ⟨fun _ => (Below.refl w4.heap.size w4).drew, ?_⟩
        apply p_qL (ops0 := #[]) rfl rfl rfl (Nat.le_of_ble_eq_true rfl)
        focus (intro w' hb; go_wp2_with fail; refine ⟨rfl, ?_, rfl⟩; simp only [List.getElem?_toArray, List.getElem?_cons_zero, List.getElem?_cons_succ, Option.some.injEq]; rfl)
        simp only [Act.put, List.setIfInBounds_toArray, List.set_cons_zero, List.set_cons_succ, Array.toArray_toList]
        apply p_q
        focus (intro w' hb; go_simp <;> rfl)
        simp only [Act.put, List.setIfInBounds_toArray, List.set_cons_zero, List.set_cons_succ, Array.toArray_toList]
        first
        | refine p_skip rfl ?_
        | (refine p_go rfl ?_; simp only [bare]; apply p_q; focus (intro w' hb; go_simp <;> rfl))
        simp only [Act.put, List.setIfInBounds_toArray, List.set_cons_zero, List.set_cons_succ, Array.toArray_toList]
        first
        | refine p_skip rfl ?_
        | (refine p_go rfl ?_; simp only [bare]; apply p_qL (ops0 := #[]) rfl rfl rfl (Nat.le_of_ble_eq_true rfl); focus (intro w' hb; go_wp2_with fail; refine ⟨rfl, ?_, rfl⟩; simp only [List.getElem?_toArray, List.getElem?_cons_zero, List.getElem?_cons_succ, Option.some.injEq]; rfl))
        simp only [Act.put, List.setIfInBounds_toArray, List.set_cons_zero, List.set_cons_succ, Array.toArray_toList]
        first
        | refine p_skip rfl ?_
        | (refine p_go rfl ?_; simp only [bare]; apply p_q; focus (intro w' hb; go_simp <;> rfl))
        simp only [Act.put, List.setIfInBounds_toArray, List.set_cons_zero, List.set_cons_succ, Array.toArray_toList]
        first
        | refine p_skip rfl ?_
        | (refine p_go rfl ?_; simp only [bare]; apply p_q; focus (intro w' hb; go_simp <;> rfl))
        simp only [Act.put, List.setIfInBounds_toArray, List.set_cons_zero, List.set_cons_succ, Array.toArray_toList]
        first
        | refine p_skip rfl ?_
        | (refine p_go rfl ?_; simp only [bare]; apply p_q; focus (intro w' hb; go_simp <;> rfl))
        simp only [Act.put, List.setIfInBounds_toArray, List.set_cons_zero, List.set_cons_succ, Array.toArray_toList]
        first
        | refine p_skip rfl ?_
        | (refine p_go rfl ?_; simp only [bare]; apply p_qL (ops0 := #[]) rfl rfl rfl (Nat.le_of_ble_eq_true rfl); focus (intro w' hb; go_wp2_with fail; refine ⟨rfl, ?_, rfl⟩; simp only [List.getElem?_toArray, List.getElem?_cons_zero, List.getElem?_cons_succ, Option.some.injEq]; rfl))
        simp only [Act.put, List.setIfInBounds_toArray, List.set_cons_zero, List.set_cons_succ, Array.toArray_toList]
        first
        | refine p_skip rfl ?_
        | (refine p_go rfl ?_; simp only [bare]; apply p_qL (ops0 := #[]) rfl rfl rfl (Nat.le_of_ble_eq_true rfl); focus (intro w' hb; go_wp2_with fail; refine ⟨rfl, ?_, rfl⟩; simp only [List.getElem?_toArray, List.getElem?_cons_zero, List.getElem?_cons_succ, Option.some.injEq]; rfl))
        simp only [Act.put, List.setIfInBounds_toArray, List.set_cons_zero, List.set_cons_succ, Array.toArray_toList]
        first
        | refine p_skip rfl ?_
        | (refine p_go rfl ?_; simp only [bare]; apply p_qL (ops0 := #[]) rfl rfl rfl (Nat.le_of_ble_eq_true rfl); focus (intro w' hb; go_wp2_with fail; refine ⟨rfl, ?_, rfl⟩; simp only [List.getElem?_toArray, List.getElem?_cons_zero, List.getElem?_cons_succ, Option.some.injEq]; rfl))
        simp only [Act.put, List.setIfInBounds_toArray, List.set_cons_zero, List.set_cons_succ, Array.toArray_toList]
        first
        | refine p_skip rfl ?_
        | (refine p_go rfl ?_; simp only [bare]; refine p_load1 rfl rfl (fun w' hb => cell_below hb (by assumption)) Tryd.underlying9 rfl ?_)
        simp only [Act.put, List.setIfInBounds_toArray, List.set_cons_zero, List.set_cons_succ, Array.toArray_toList]
        first
        | refine p_skip rfl ?_
        | (refine p_go rfl ?_; simp only [bare]; apply p_qL (ops0 := #[]) rfl rfl rfl (Nat.le_of_ble_eq_true rfl); focus (intro w' hb; go_wp2_with fail; refine ⟨rfl, ?_, rfl⟩; simp only [List.getElem?_toArray, List.getElem?_cons_zero, List.getElem?_cons_succ, Option.some.injEq]; rfl))
        simp only [Act.put, List.setIfInBounds_toArray, List.set_cons_zero, List.set_cons_succ, Array.toArray_toList]
        first
        | refine p_skip rfl ?_
        | (refine p_go rfl ?_; simp only [bare]; refine p_load1 rfl rfl (fun w' hb => cell_below hb (by assumption)) Tryd.underlying9 rfl ?_)
        simp only [Act.put, List.setIfInBounds_toArray, List.set_cons_zero, List.set_cons_succ, Array.toArray_toList]
        first
        | refine p_skip rfl ?_
        | (refine p_go rfl ?_; simp only [bare]; apply p_qL (ops0 := #[]) rfl rfl rfl (Nat.le_of_ble_eq_true rfl); focus (intro w' hb; go_wp2_with fail; refine ⟨rfl, ?_, rfl⟩; simp only [List.getElem?_toArray, List.getElem?_cons_zero, List.getElem?_cons_succ, Option.some.injEq]; rfl))
        simp only [Act.put, List.setIfInBounds_toArray, List.set_cons_zero, List.set_cons_succ, Array.toArray_toList]
        first
        | refine p_skip rfl ?_
        | (refine p_go rfl ?_; simp only [bare]; apply p_qL (ops0 := #[]) rfl rfl rfl (Nat.le_of_ble_eq_true rfl); focus (intro w' hb; go_wp2_with fail; refine ⟨rfl, ?_, rfl⟩; simp only [List.getElem?_toArray, List.getElem?_cons_zero, List.getElem?_cons_succ, Option.some.injEq]; rfl))
        simp only [Act.put, List.setIfInBounds_toArray, List.set_cons_zero, List.set_cons_succ, Array.toArray_toList]
        apply p_qL (ops0 := #[]) rfl rfl rfl (Nat.le_of_ble_eq_true rfl)
        focus (intro w' hb; go_wp2_with fail; refine ⟨rfl, ?_, rfl⟩; simp only [List.getElem?_toArray, List.getElem?_cons_zero, List.getElem?_cons_succ, Option.some.injEq]; rfl)
        simp only [Act.put, List.setIfInBounds_toArray, List.set_cons_zero, List.set_cons_succ, Array.toArray_toList]
        refine p_end ?_
        go_wp2
        go_ret
        exact ⟨by rw [good_false (j := k) (by rw [HL.out]; exact hlt) (by rw [HGK.out, HZ.out]; rfl)]; rfl, hb4.drew⟩
    · obtain rfl : k = n := by omega
      have hg : good xs = true := (good_iff xs).2 (fun j hj => HA.out j (by rw [← HL.out]; exact hj))
      have HG := Lib.hid hg
      clear hg
      go_wp2
      go_ret
      exact ⟨by rw [HG.out]; rfl, hb⟩
end Go.Proofs.YtlkjeneffohnkaaDoor
