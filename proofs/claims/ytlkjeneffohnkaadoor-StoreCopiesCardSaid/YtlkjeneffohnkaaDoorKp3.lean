import Derived.Test.YtlkjeneffohnkaaDoorKp2
set_option linter.unusedVariables false
set_option linter.unusedSimpArgs false
namespace Go.Proofs.YtlkjeneffohnkaaDoor
open Go.RowKit Go.Proofs Go.Proofs.Plan Go.Proofs.YtlkjeneffohnkaaDoorW.PrintWords
theorem Tryd.info46 : (Tryd.prog.info? 46).map (·.size) = some 2 := by kernel_rfl
theorem kP_take {w : World} {A : Option Addr} {n : Nat} {xs : List Pr} (h : kP.C w A n xs) {m : Nat} (hm : m ≤ n) : kP.C w A m (xs.take m) := by
  have hl := h.1
  have := Kd.C_take (m := m) (by rw [hl]; exact h) (by omega)
  rwa [List.length_take, Nat.min_eq_left (by omega)] at this
set_option maxHeartbeats 1000000 in
set_option maxRecDepth 100000 in
theorem r12_Set (key val : Bs) (A : Option Addr) (n c : Nat) (xs : List Pr) (w : World) (hn : n ≤ 1073741824) (hc : n ≤ c) (h : kP.C w A n xs) :
    Calls Tryd.prog 46 #[.slice A n c, .string key, .string val] w fun e w' => ∃ v, e = .returned v ∧ kP.R 46 w' w.heap.size yes v (setP xs key val) ∧ Below w.heap.size w w' := by
  have hl := h.1
  have hpl := place_le xs key
  have hcon := r12_place key A n c xs w h
  have hat : isAt xs (place xs key) key = true → place xs key < n := fun ha => by
    simp only [isAt, Bool.and_eq_true, decide_eq_true_eq] at ha
    rw [← hl]; exact ha.1
  have hset : setP xs key val = xs.take (place xs key) ++ [⟨key, val⟩] ++ xs.drop (if isAt xs (place xs key) key = true then place xs key + 1 else place xs key) := rfl
  rw [hl] at hpl
  generalize place xs key = k at *
  generalize isAt xs k key = b at *
  have ct := cut_take (P := Tryd.prog) 22 46 .i64 2 Tryd.underlying22 Tryd.info46 A n c k (by omega)
  have hC1 := kP_take h hpl
  have hT : (xs.take k).length = k := by rw [List.length_take]; omega
  have HT := Lib.hid hT
  have HC := Lib.hid hcon
  have HX := Lib.hid hC1
  clear hcon hC1 hl hT
  cases b
  all_goals
    simp only [if_true, if_false, Bool.false_eq_true] at hset
    simp only [forall_const, Bool.false_eq_true, false_implies] at hat
  · obtain ⟨A2, cd, hA2⟩ := cut_drop (P := Tryd.prog) 22 46 .i64 2 Tryd.underlying22 Tryd.info46 A n c k hpl
    have hC2 := hA2 kP w xs rfl hc h
    have HY := Lib.hid hC2
    have HS := Lib.hid hset
    clear hA2 hC2 hset h
    go_enter Tryd.func46, Tryd.ntmps46
    go_upto_region 3 with (first
      | (go_at_call 102; refine HC.out.mono ?_; rintro e w2 ⟨rfl, B2⟩; simp only [ptup])
      | (refine l_appendRows kP kP_plain (w0 := w) (base := w.heap.size) (e := 46) (Kd.R_nil _ _ _ _ _) (Kd.C_below HX.out B2) B2 B2.size rfl rfl Tryd.underlying22 Tryd.infoQ rfl (by decide) (by decide) rfl rfl (by simp; omega) ?_; intro v1 w3 R3 B3 G3))
    rw [List.nil_append] at R3
    have hs3 : ((xs.take k).length + 1) * 32 ≤ 140737488355328 := by rw [HT.out]; omega
    have HS3 := Lib.hid hs3
    clear hs3
    go_upto_region 4 with (first
      | (refine l_lit1K rfl rfl rfl (show _ = 2 from rfl) (by decide) (by decide) (by decide) Tryd.underlying22 Tryd.infoQ rfl ?_)
      | (refine l_appendK kP (w0 := w) (base := w.heap.size) (W := w3) (p := ⟨key, val⟩) R3 B3 B3.size rfl rfl Tryd.underlying22 Tryd.infoQ rfl (by decide) (by decide) rfl rfl rfl HS3.out ?_; intro v2 w4 R4 B4 G4))
    have hs4 : ((xs.take k ++ [(⟨key, val⟩ : Pr)]).length + (n - k)) * 32 ≤ 140737488355328 := by rw [List.length_append, HT.out]; simp; omega
    have HS4 := Lib.hid hs4
    clear hs4
    go_wp2_with (first
      | (refine l_appendRows kP kP_plain (w0 := w) (base := w.heap.size) (W := w4) (e := 46) R4 (Kd.C_below HY.out B4) B4 B4.size rfl rfl Tryd.underlying22 Tryd.infoQ rfl (by decide) (by decide) rfl rfl HS4.out ?_; intro v3 w5 R5 B5 G5))
    go_ret
    exact ⟨_, rfl, by rw [HS.out]; exact R5, B5⟩
  · obtain ⟨A2, cd, hA2⟩ := cut_drop (P := Tryd.prog) 22 46 .i64 2 Tryd.underlying22 Tryd.info46 A n c (k + 1) hat
    have hC2 := hA2 kP w xs rfl hc h
    have HY := Lib.hid hC2
    have HS := Lib.hid hset
    have ek : ((k + 1 : Nat) : Int) = (k : Int) + 1 := by omega
    rw [ek] at cd
    clear hA2 hC2 hset h ek
    go_enter Tryd.func46, Tryd.ntmps46
    go_upto_region 3 with (first
      | (go_at_call 102; refine HC.out.mono ?_; rintro e w2 ⟨rfl, B2⟩; simp only [ptup])
      | (refine l_appendRows kP kP_plain (w0 := w) (base := w.heap.size) (e := 46) (Kd.R_nil _ _ _ _ _) (Kd.C_below HX.out B2) B2 B2.size rfl rfl Tryd.underlying22 Tryd.infoQ rfl (by decide) (by decide) rfl rfl (by simp; omega) ?_; intro v1 w3 R3 B3 G3))
    rw [List.nil_append] at R3
    have hs3 : ((xs.take k).length + 1) * 32 ≤ 140737488355328 := by rw [HT.out]; omega
    have HS3 := Lib.hid hs3
    clear hs3
    go_upto_region 4 with (first
      | (refine l_lit1K rfl rfl rfl (show _ = 2 from rfl) (by decide) (by decide) (by decide) Tryd.underlying22 Tryd.infoQ rfl ?_)
      | (refine l_appendK kP (w0 := w) (base := w.heap.size) (W := w3) (p := ⟨key, val⟩) R3 B3 B3.size rfl rfl Tryd.underlying22 Tryd.infoQ rfl (by decide) (by decide) rfl rfl rfl HS3.out ?_; intro v2 w4 R4 B4 G4))
    have hs4 : ((xs.take k ++ [(⟨key, val⟩ : Pr)]).length + (n - (k + 1))) * 32 ≤ 140737488355328 := by rw [List.length_append, HT.out]; simp; omega
    have HS4 := Lib.hid hs4
    clear hs4
    go_wp2_with (first
      | (refine l_appendRows kP kP_plain (w0 := w) (base := w.heap.size) (W := w4) (e := 46) R4 (Kd.C_below HY.out B4) B4 B4.size rfl rfl Tryd.underlying22 Tryd.infoQ rfl (by decide) (by decide) rfl rfl HS4.out ?_; intro v3 w5 R5 B5 G5))
    go_ret
    exact ⟨_, rfl, by rw [HS.out]; exact R5, B5⟩
/-- Rise -/
def riseStep (out : List Pr) (x : Pr) : List Pr := if sized x.key x.val = true then setP out x.key x.val else out
def rise (xs : List Pr) : List Pr := xs.foldl riseStep []
theorem setP_length (xs : List Pr) (k v : Bs) : (setP xs k v).length ≤ xs.length + 1 := by
  have := place_le xs k
  unfold setP
  split <;> simp only [List.length_append, List.length_take, List.length_drop, List.length_singleton] <;> omega
theorem riseStep_length (out : List Pr) (x : Pr) : (riseStep out x).length ≤ out.length + 1 := by
  unfold riseStep; split
  · exact setP_length _ _ _
  · omega
theorem foldl_length (xs : List Pr) : ∀ out, (xs.foldl riseStep out).length ≤ out.length + xs.length := by
  induction xs with
  | nil => intro out; simp
  | cons x xs ih => intro out; rw [List.foldl_cons]; have := ih (riseStep out x); have := riseStep_length out x; simp only [List.length_cons]; omega
theorem rise_length (xs : List Pr) : (rise xs).length ≤ xs.length := by have := foldl_length xs []; simpa [rise] using this
theorem rise_snoc (xs : List Pr) (x : Pr) : rise (xs ++ [x]) = riseStep (rise xs) x := by unfold rise; rw [List.foldl_append]; rfl
set_option maxHeartbeats 1000000 in
set_option maxRecDepth 100000 in
theorem keep_Rise (A : Option Addr) (n c : Nat) (xs : List Pr) (w : World) (hn : n ≤ 1073741824) (h : kP.C w A n xs) :
    Calls Tryd.prog 29 #[.slice A n c] w fun e w' => ∃ v, e = .returned v ∧ kP.R 46 w' w.heap.size yes v (rise xs) ∧ Below w.heap.size w w' := by
  have HL := Lib.hid h.1
  have HH := Lib.hid h
  clear h
  go_enter Tryd.func29, Tryd.ntmps29
  go_wp2
  go_loopg [3, 4] n (fun g v i wr => ∃ k : Nat, k + g = n ∧ i = .int .i64 k ∧ kP.R 46 wr w.heap.size yes v (rise (xs.take k)) ∧ Below w.heap.size w wr)
  case atStart => exact ⟨0, by omega, rfl, Kd.R_nil _ _ _ _ _, Below.refl _ _⟩
  case round =>
    obtain ⟨k, hk, rfl, hr, hb⟩ := hrel
    by_cases hlt : k < n
    · obtain ⟨ad, rfl, p0, p1⟩ := kP_at HH.out k hlt
      obtain ⟨x, hx⟩ : ∃ x, x = xs.getD k dP := ⟨_, rfl⟩
      rw [← hx] at p0 p1
      have e : rise (xs.take (k + 1)) = riseStep (rise (xs.take k)) x := by
        have hk' : k < xs.length := by rw [HL.out]; exact hlt
        rw [List.take_add_one, List.getElem?_eq_getElem hk', hx, getD_lt xs dP hk']
        exact rise_snoc _ _
      obtain ⟨A3, c3, rfl, hc3, C3⟩ := Kd.R_reads hr
      have hl3 : (rise (xs.take k)).length ≤ 1073741824 := by have := rise_length (xs.take k); rw [List.length_take] at this; omega
      have HE := Lib.hid e
      have HL3 := Lib.hid hl3
      have HC3 := Lib.hid C3
      have HCC := Lib.hid hc3
      clear hx e hl3 C3 hc3
      go_upto_region 5 with (fail)
      cases hs : sized x.key x.val
      · have HZ := Lib.hid hs
        have hst : riseStep (rise (xs.take k)) x = rise (xs.take k) := by unfold riseStep; rw [hs]; rfl
        have HST := Lib.hid hst
        clear hs hst
        refine wp_num (fun w' => Below w.heap.size w w') [0, 1, 2, 3, 4, 5, 6, 7, 8, 9] (.c (0, none, none) (.c (1, none, none) (.c (2, none, none) (.c (3, none, none) (.c (4, none, none) (.c (5, none, none) (.c (6, none, none) (.c (7, none, none) (.c (8, none, none) (.c (9, none, none) (.c (10, some true, none) (.nil)))))))))))) (by kernel_rfl) (by kernel_rfl) (by kernel_rfl) (fun _ _ d _ _ h => by cases d <;> exact h) (by kernel_rfl) (hb.drew) ?_
        simp only [selE, nthO]
        apply p_q
        focus (intro w' hb; go_simp <;> rfl)
        simp only [Act.put, List.setIfInBounds_toArray, List.set_cons_zero, List.set_cons_succ, Array.toArray_toList]
        apply p_q
        focus (intro w' hb; go_simp <;> rfl)
        simp only [Act.put, List.setIfInBounds_toArray, List.set_cons_zero, List.set_cons_succ, Array.toArray_toList]
        apply p_qL (ops0 := #[]) rfl rfl rfl (Nat.le_of_ble_eq_true rfl)
        focus (intro w' hb; go_wp2_with fail; refine ⟨rfl, ?_, rfl⟩; simp only [List.getElem?_toArray, List.getElem?_cons_zero, List.getElem?_cons_succ, Option.some.injEq]; rfl)
        simp only [Act.put, List.setIfInBounds_toArray, List.set_cons_zero, List.set_cons_succ, Array.toArray_toList]
        apply p_qL (ops0 := #[]) rfl rfl rfl (Nat.le_of_ble_eq_true rfl)
        focus (intro w' hb; go_wp2_with fail; refine ⟨rfl, ?_, rfl⟩; simp only [List.getElem?_toArray, List.getElem?_cons_zero, List.getElem?_cons_succ, Option.some.injEq]; rfl)
        simp only [Act.put, List.setIfInBounds_toArray, List.set_cons_zero, List.set_cons_succ, Array.toArray_toList]
        refine p_load1 rfl rfl (fun w' hb => cell_below hb (by assumption)) Tryd.underlying9 rfl ?_
        simp only [Act.put, List.setIfInBounds_toArray, List.set_cons_zero, List.set_cons_succ, Array.toArray_toList]
        apply p_q
        focus (intro w' hb; go_simp <;> rfl)
        simp only [Act.put, List.setIfInBounds_toArray, List.set_cons_zero, List.set_cons_succ, Array.toArray_toList]
        apply p_q
        focus (intro w' hb; go_simp <;> rfl)
        simp only [Act.put, List.setIfInBounds_toArray, List.set_cons_zero, List.set_cons_succ, Array.toArray_toList]
        apply p_qL (ops0 := #[]) rfl rfl rfl (Nat.le_of_ble_eq_true rfl)
        focus (intro w' hb; go_wp2_with fail; refine ⟨rfl, ?_, rfl⟩; simp only [List.getElem?_toArray, List.getElem?_cons_zero, List.getElem?_cons_succ, Option.some.injEq]; rfl)
        simp only [Act.put, List.setIfInBounds_toArray, List.set_cons_zero, List.set_cons_succ, Array.toArray_toList]
        apply p_qL (ops0 := #[]) rfl rfl rfl (Nat.le_of_ble_eq_true rfl)
        focus (intro w' hb; go_wp2_with fail; refine ⟨rfl, ?_, rfl⟩; simp only [List.getElem?_toArray, List.getElem?_cons_zero, List.getElem?_cons_succ, Option.some.injEq]; rfl)
        simp only [Act.put, List.setIfInBounds_toArray, List.set_cons_zero, List.set_cons_succ, Array.toArray_toList]
        refine p_load1 rfl rfl (fun w' hb => cell_below hb (by assumption)) Tryd.underlying9 rfl ?_
        simp only [Act.put, List.setIfInBounds_toArray, List.set_cons_zero, List.set_cons_succ, Array.toArray_toList]
        refine p_list (ops := #[]) rfl ?_
        go_wp2_with fail
        refine (r12_MayPairB x.key x.val false HZ.out _).mono ?_
        rintro e _ ⟨rfl, rfl⟩
        go_wp2_with fail
        refine ⟨fun _ => hb.drew, ?_⟩
        refine p_end ?_
        go_wp2
        go_roundg (gk - 1)
        case measure => omega
        case rel => exact ⟨k + 1, by omega, by go_num, by rw [HE.out, HST.out]; exact Kd.R_drew hr, hb.drew⟩
      · have HZ := Lib.hid hs
        have hst : riseStep (rise (xs.take k)) x = setP (rise (xs.take k)) x.key x.val := by unfold riseStep; rw [hs]; rfl
        have HST := Lib.hid hst
        clear hs hst
        refine wp_num (fun w' => Below w.heap.size w w') [0, 1, 2, 3, 4, 5, 6, 7, 8, 9] (.c (0, none, none) (.c (1, none, none) (.c (2, none, none) (.c (3, none, none) (.c (4, none, none) (.c (5, none, none) (.c (6, none, none) (.c (7, none, none) (.c (8, none, none) (.c (9, none, none) (.c (10, some true, none) (.nil)))))))))))) (by kernel_rfl) (by kernel_rfl) (by kernel_rfl) (fun _ _ d _ _ h => by cases d <;> exact h) (by kernel_rfl) (hb.drew) ?_
        simp only [selE, nthO]
        apply p_q
        focus (intro w' hb; go_simp <;> rfl)
        simp only [Act.put, List.setIfInBounds_toArray, List.set_cons_zero, List.set_cons_succ, Array.toArray_toList]
        apply p_q
        focus (intro w' hb; go_simp <;> rfl)
        simp only [Act.put, List.setIfInBounds_toArray, List.set_cons_zero, List.set_cons_succ, Array.toArray_toList]
        apply p_qL (ops0 := #[]) rfl rfl rfl (Nat.le_of_ble_eq_true rfl)
        focus (intro w' hb; go_wp2_with fail; refine ⟨rfl, ?_, rfl⟩; simp only [List.getElem?_toArray, List.getElem?_cons_zero, List.getElem?_cons_succ, Option.some.injEq]; rfl)
        simp only [Act.put, List.setIfInBounds_toArray, List.set_cons_zero, List.set_cons_succ, Array.toArray_toList]
        apply p_qL (ops0 := #[]) rfl rfl rfl (Nat.le_of_ble_eq_true rfl)
        focus (intro w' hb; go_wp2_with fail; refine ⟨rfl, ?_, rfl⟩; simp only [List.getElem?_toArray, List.getElem?_cons_zero, List.getElem?_cons_succ, Option.some.injEq]; rfl)
        simp only [Act.put, List.setIfInBounds_toArray, List.set_cons_zero, List.set_cons_succ, Array.toArray_toList]
        refine p_load1 rfl rfl (fun w' hb => cell_below hb (by assumption)) Tryd.underlying9 rfl ?_
        simp only [Act.put, List.setIfInBounds_toArray, List.set_cons_zero, List.set_cons_succ, Array.toArray_toList]
        apply p_q
        focus (intro w' hb; go_simp <;> rfl)
        simp only [Act.put, List.setIfInBounds_toArray, List.set_cons_zero, List.set_cons_succ, Array.toArray_toList]
        apply p_q
        focus (intro w' hb; go_simp <;> rfl)
        simp only [Act.put, List.setIfInBounds_toArray, List.set_cons_zero, List.set_cons_succ, Array.toArray_toList]
        apply p_qL (ops0 := #[]) rfl rfl rfl (Nat.le_of_ble_eq_true rfl)
        focus (intro w' hb; go_wp2_with fail; refine ⟨rfl, ?_, rfl⟩; simp only [List.getElem?_toArray, List.getElem?_cons_zero, List.getElem?_cons_succ, Option.some.injEq]; rfl)
        simp only [Act.put, List.setIfInBounds_toArray, List.set_cons_zero, List.set_cons_succ, Array.toArray_toList]
        apply p_qL (ops0 := #[]) rfl rfl rfl (Nat.le_of_ble_eq_true rfl)
        focus (intro w' hb; go_wp2_with fail; refine ⟨rfl, ?_, rfl⟩; simp only [List.getElem?_toArray, List.getElem?_cons_zero, List.getElem?_cons_succ, Option.some.injEq]; rfl)
        simp only [Act.put, List.setIfInBounds_toArray, List.set_cons_zero, List.set_cons_succ, Array.toArray_toList]
        refine p_load1 rfl rfl (fun w' hb => cell_below hb (by assumption)) Tryd.underlying9 rfl ?_
        simp only [Act.put, List.setIfInBounds_toArray, List.set_cons_zero, List.set_cons_succ, Array.toArray_toList]
        refine p_list (ops := #[]) rfl ?_
        go_wp2_with fail
        refine (r12_MayPairB x.key x.val true HZ.out _).mono ?_
        rintro e _ ⟨rfl, rfl⟩
        go_wp2_with fail
        refine ⟨fun _ => hb.drew, ?_⟩
        refine p_end ?_
        go_upto_region 6 with (fail)
        refine wp_num (fun w' => Below w.heap.size w w') [0, 1, 2, 3, 4, 5, 6, 7, 8, 9, 10, 12] (.c (0, none, none) (.c (1, none, none) (.c (2, none, none) (.c (3, none, none) (.c (4, none, none) (.c (5, none, none) (.c (6, none, none) (.c (7, none, none) (.c (8, none, none) (.c (9, none, none) (.c (10, none, none) (.c (11, some true, none) (.c (12, none, none) (.nil)))))))))))))) (by kernel_rfl) (by kernel_rfl) (by kernel_rfl) (fun _ _ d _ _ h => by cases d <;> exact h) (by kernel_rfl) (hb.drew.drew) ?_
        simp only [selE, nthO]
        apply p_q
        focus (intro w' hb; go_simp <;> rfl)
        simp only [Act.put, List.setIfInBounds_toArray, List.set_cons_zero, List.set_cons_succ, Array.toArray_toList]
        apply p_q
        focus (intro w' hb; go_simp <;> rfl)
        simp only [Act.put, List.setIfInBounds_toArray, List.set_cons_zero, List.set_cons_succ, Array.toArray_toList]
        apply p_q
        focus (intro w' hb; go_simp <;> rfl)
        simp only [Act.put, List.setIfInBounds_toArray, List.set_cons_zero, List.set_cons_succ, Array.toArray_toList]
        apply p_qL (ops0 := #[]) rfl rfl rfl (Nat.le_of_ble_eq_true rfl)
        focus (intro w' hb; go_wp2_with fail; refine ⟨rfl, ?_, rfl⟩; simp only [List.getElem?_toArray, List.getElem?_cons_zero, List.getElem?_cons_succ, Option.some.injEq]; rfl)
        simp only [Act.put, List.setIfInBounds_toArray, List.set_cons_zero, List.set_cons_succ, Array.toArray_toList]
        apply p_qL (ops0 := #[]) rfl rfl rfl (Nat.le_of_ble_eq_true rfl)
        focus (intro w' hb; go_wp2_with fail; refine ⟨rfl, ?_, rfl⟩; simp only [List.getElem?_toArray, List.getElem?_cons_zero, List.getElem?_cons_succ, Option.some.injEq]; rfl)
        simp only [Act.put, List.setIfInBounds_toArray, List.set_cons_zero, List.set_cons_succ, Array.toArray_toList]
        refine p_load1 rfl rfl (fun w' hb => cell_below hb (by assumption)) Tryd.underlying9 rfl ?_
        simp only [Act.put, List.setIfInBounds_toArray, List.set_cons_zero, List.set_cons_succ, Array.toArray_toList]
        apply p_q
        focus (intro w' hb; go_simp <;> rfl)
        simp only [Act.put, List.setIfInBounds_toArray, List.set_cons_zero, List.set_cons_succ, Array.toArray_toList]
        apply p_q
        focus (intro w' hb; go_simp <;> rfl)
        simp only [Act.put, List.setIfInBounds_toArray, List.set_cons_zero, List.set_cons_succ, Array.toArray_toList]
        apply p_qL (ops0 := #[]) rfl rfl rfl (Nat.le_of_ble_eq_true rfl)
        focus (intro w' hb; go_wp2_with fail; refine ⟨rfl, ?_, rfl⟩; simp only [List.getElem?_toArray, List.getElem?_cons_zero, List.getElem?_cons_succ, Option.some.injEq]; rfl)
        simp only [Act.put, List.setIfInBounds_toArray, List.set_cons_zero, List.set_cons_succ, Array.toArray_toList]
        apply p_qL (ops0 := #[]) rfl rfl rfl (Nat.le_of_ble_eq_true rfl)
        focus (intro w' hb; go_wp2_with fail; refine ⟨rfl, ?_, rfl⟩; simp only [List.getElem?_toArray, List.getElem?_cons_zero, List.getElem?_cons_succ, Option.some.injEq]; rfl)
        simp only [Act.put, List.setIfInBounds_toArray, List.set_cons_zero, List.set_cons_succ, Array.toArray_toList]
        refine p_load1 rfl rfl (fun w' hb => cell_below hb (by assumption)) Tryd.underlying9 rfl ?_
        simp only [Act.put, List.setIfInBounds_toArray, List.set_cons_zero, List.set_cons_succ, Array.toArray_toList]
        refine p_list (ops := #[]) rfl ?_
        go_wp2_with fail
        refine (r12_Set x.key x.val A3 _ c3 (rise (xs.take k)) _ HL3.out HCC.out (Kd.C_drew (Kd.C_drew HC3.out))).mono ?_
        rintro e w5 ⟨v5, rfl, R5, hw5⟩
        go_wp2_with fail
        have Bw5 : Below w.heap.size w w5 := below_next (hb.drew.drew) hw5
        refine ⟨fun _ => Bw5, ?_⟩
        apply p_q
        focus (intro w' hb; go_simp <;> rfl)
        simp only [Act.put, List.setIfInBounds_toArray, List.set_cons_zero, List.set_cons_succ, Array.toArray_toList]
        refine p_end ?_
        go_wp2
        go_roundg (gk - 1)
        case measure => omega
        case rel => exact ⟨k + 1, by omega, by go_num, by rw [HE.out, HST.out]; exact Kd.R_lower R5 hb.drew.drew.size, Bw5⟩
    · obtain rfl : k = n := by omega
      have e : xs.take k = xs := List.take_of_length_le (by rw [HL.out]; exact Nat.le_refl _)
      rw [e] at hr
      go_wp2
      go_ret
      exact ⟨_, rfl, hr, hb⟩
end Go.Proofs.YtlkjeneffohnkaaDoor
