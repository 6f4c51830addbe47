import Derived.Test.YtlkjeneffohnkaaDoorTree5
import Derived.Great.BuildSlice
set_option linter.unusedVariables false
set_option linter.unusedSimpArgs false
namespace Go.Proofs.YtlkjeneffohnkaaDoor
open Go.RowKit Go.Proofs Go.Proofs.Plan Go.Proofs.YtlkjeneffohnkaaDoorW.PrintWords
theorem Tryd.zeroH : (Tryd.prog.info? 24).map (fun i => (i.zero, i.size, i.bytes)) = some (some (.agg (hv hz)), 32, 32) := by kernel_rfl
abbrev yes : Nat → Prop := fun _ => True
/-- append of one digest -/
theorem l_appendH {P : Program} {ops : Array Oper} {rest : List Oper} {o : Oper} {a : Act} {Q : Exit → Act → World → Prop} {w0 W : World} {base : Nat} (hgd : o.guard = none) {s x : Operand} {t e : TypeId}
    (ho : o.op = .call { callee := .builtin .append, args := #[s, x], argTypes := #[t, t] }) (ht : P.underlying t = some (.slice e)) (hinfo : (P.info? e).map (fun i => (i.zero, i.size, i.bytes)) = some (some (.agg (hv hz)), 32, 32))
    {v : Value} {xs : List Bs} {h : Bs} (hs : a.eval s = v) (hx : a.eval x = .slice (some ⟨W.heap.size, 0, none⟩) 1 1) (h32 : h.size = 32) (HO : kH.R e W base yes v xs) (HB : Below base w0 W) (hbase : base ≤ W.heap.size) (hl : xs.length ≤ 1073741824)
    (k : ∀ v1 w1, kH.R e w1 base yes v1 (xs ++ [h]) → Below base w0 w1 → wpList P ops Q rest (a.put o.dst v1) w1) : wpList P ops Q (o :: rest) a (W.alloc (.cells (hv h) e)) := by
  refine Kd.R_append kH base hgd s x t e (.agg (hv hz)) 32 ho ht hinfo (hv_size hz_size) (by decide) (by decide) v xs h (hc h) yes (fun _ => False) hs hx ⟨h32, rfl⟩ (fun _ h => h.elim) (fun _ _ => trivial) HO HB hbase ?_ (fun v1 w1 h1 h2 _ _ => k v1 w1 h1 h2)
  omega
theorem set_run (V : List Value) : ∀ (p z : List Value), z.length = V.length → (V.zipIdx p.length).foldl (fun (cs : Array Value) x => cs.setIfInBounds (0 + x.2) x.1) (p ++ z).toArray = (p ++ V).toArray := by
  induction V with
  | nil => intro p z hz; rw [List.length_eq_zero_iff.1 hz]; rfl
  | cons v V ih =>
    intro p z hz
    cases z with
    | nil => simp at hz
    | cons y z =>
      have h1 := ih (p ++ [v]) z (by simpa using hz)
      simp only [List.zipIdx_cons, List.foldl_cons]
      rw [show ((p ++ y :: z).toArray).setIfInBounds (0 + p.length) v = (p ++ [v] ++ z).toArray by simp]
      rw [show p.length + 1 = (p ++ [v]).length by simp, h1]
      simp
theorem fill_one {Z V : Array Value} {n : Nat} (hZ : Z.size = n) (hV : V.size = n) : Instr.fill (fun i => some (i * n, n)) Z [(0, .agg V)] = some V := by
  have h := set_run V.toList [] Z.toList (by simp [hZ, hV])
  simp only [List.nil_append, Array.toArray_toList, List.length_nil] at h
  unfold Instr.fill
  simp only [Value.cells, Nat.zero_mul, hV, hZ, ne_eq, not_true_eq_false, decide_false, Bool.false_or, Nat.zero_add, gt_iff_lt, Nat.lt_irrefl, Bool.false_eq_true, or_self, if_false]
  unfold Instr.fill
  rw [← Array.foldl_toList, Array.toList_zipIdx]
  simpa using h
theorem l_lit1H {P : Program} {ops : Array Oper} {rest : List Oper} {o : Oper} {a : Act} {Q : Exit → Act → World → Prop} {W : World} (hgd : o.guard = none) {x : Operand} {t e : TypeId} (ho : o.op = .buildSlice t 1 #[(0, x)]) {h : Bs} (hx : a.eval x = .agg (hv h)) (h32 : h.size = 32)
    (ht : P.underlying t = some (.slice e)) (hinfo : (P.info? e).map (fun i => (i.zero, i.size, i.bytes)) = some (some (.agg (hv hz)), 32, 32))
    (k : wpList P ops Q rest (a.put o.dst (.slice (some ⟨W.heap.size, 0, none⟩) 1 1)) (W.alloc (.cells (hv h) e))) : wpList P ops Q (o :: rest) a W := by
  obtain ⟨i0, hi, hzz⟩ := Option.map_eq_some_iff.1 hinfo
  simp only [Prod.mk.injEq] at hzz
  obtain ⟨hz0, hz1, hz2⟩ := hzz
  refine wpList_buildSlice hgd t e 1 _ ho (hv h) i0 _ ht hi hz0 (by rw [hz1]; decide) (by rw [hz1]; decide) ?_ k
  simp only [List.map_toArray, List.map_cons, List.map_nil, hx, hz1]
  exact fill_one (by simp) (hv_size h32)
theorem way_lt {l : List Bs} {i : Nat} (h : l.length < 2) : way l i = [] := by rw [way, dif_pos h]
theorem way_ge {l : List Bs} {i : Nat} (h : 2 ≤ l.length) : way l i = if i < half l.length then way (l.take (half l.length)) i ++ [top (l.drop (half l.length))] else way (l.drop (half l.length)) (i - half l.length) ++ [top (l.take (half l.length))] := by
  conv => lhs; rw [way]
  rw [dif_neg (by omega)]
set_option maxHeartbeats 1000000 in
set_option maxRecDepth 100000 in
theorem tree_Way : ∀ (n i : Nat) (A : Option Addr) (c : Nat) (xs : List Bs) (w : World), i < n → n ≤ 1073741824 → n ≤ c → Tab w → kH.C w A n xs →
    Calls Tryd.prog 84 #[.slice A n c, .int .i64 i] w fun e w' => ∃ v, e = .returned v ∧ kH.R 24 w' w.heap.size yes v (way xs i) ∧ Below w.heap.size w w' := by
  intro n
  induction n using Nat.strongRecOn with
  | _ n ih =>
    intro i A c xs w hi hn hc ht h
    have hl := h.1
    have c0 : ((i : Int) < 0) = False := by simp
    have c1 : decide ((n : Int) ≤ (i : Int)) = false := by simp; omega
    by_cases h2 : 2 ≤ n
    · have c2 : decide ((n : Int) < 2) = false := by simp; omega
      have hk := half_lt h2
      have hkp := half_pos n
      have hs := kH_sizes h
      have s1 := top_size (xs.take (half n)) (fun x hx => hs x (List.mem_of_mem_take hx))
      have s2 := top_size (xs.drop (half n)) (fun x hx => hs x (List.mem_of_mem_drop hx))
      have hw := way_ge (l := xs) (i := i) (by omega)
      rw [hl] at hw
      have ct := cut_take (P := Tryd.prog) 112 24 .i64 32 Tryd.underlying112 Tryd.info24 A n c (half n) (by omega)
      obtain ⟨A2, cd, hA2⟩ := cut_drop (P := Tryd.prog) 112 24 .i64 32 Tryd.underlying112 Tryd.info24 A n c (half n) (by omega)
      have hC1 : kH.C w A (half n) (xs.take (half n)) := by
        have := Kd.C_take (m := half n) (by rw [hl]; exact h) (by omega)
        rwa [List.length_take, Nat.min_eq_left (by omega)] at this
      have hC2 := hA2 kH w xs rfl hc h
      have HI := Lib.hid ih
      have HT := Lib.hid ht
      have HS := Lib.hid hs
      clear ih ht hs hA2
      by_cases hlt : i < half n
      · rw [if_pos hlt] at hw
        have hwl : (way (xs.take (half n)) i).length ≤ 1073741824 := by rw [way_length]; have := deep_le (xs.take (half n)).length i; rw [List.length_take] at this ⊢; omega
        have HW := Lib.hid hw
        have HL := Lib.hid hwl
        have HLX := Lib.hid hl
        clear hw hwl hl
        go_enter Tryd.func84, Tryd.ntmps84
        go_upto_region 5 with (first | (go_at_call 120; refine (tree_HalfP n h2 hn _).mono ?_; rintro e w2 ⟨rfl, rfl⟩))
        refine wp_num (fun w' => Below w.heap.size w w') [0, 1, 2, 3, 5, 6, 7, 11] (.c (0, none, none) (.c (1, none, none) (.c (2, none, none) (.c (3, none, none) (.c (5, none, none) (.c (6, none, none) (.c (7, none, none) (.c (4, some true, none) (.c (8, some true, none) (.c (9, some true, none) (.c (10, some true, none) (.c (11, none, none) (.nil))))))))))))) (by kernel_rfl) (by kernel_rfl) (by kernel_rfl) (fun _ _ d _ _ h => by cases d <;> exact h) (by kernel_rfl) ((Below.refl _ _).drew) ?_
        simp only [selE, nthO]
        apply p_q
        focus (intro w' hb; go_simp <;> rfl)
        simp only [Act.put, List.setIfInBounds_toArray, List.set_cons_zero, List.set_cons_succ, Array.toArray_toList]
        apply p_q
        focus (intro w' hb; go_simp <;> rfl)
        simp only [Act.put, List.setIfInBounds_toArray, List.set_cons_zero, List.set_cons_succ, Array.toArray_toList]
        apply p_qL (ops0 := #[]) rfl rfl rfl (Nat.le_of_ble_eq_true rfl)
        focus (intro w' hb; go_wp2_with fail; refine ⟨rfl, ?_, rfl⟩; simp only [List.getElem?_toArray, List.getElem?_cons_zero, List.getElem?_cons_succ, Option.some.injEq]; rfl)
        simp only [Act.put, List.setIfInBounds_toArray, List.set_cons_zero, List.set_cons_succ, Array.toArray_toList]
        apply p_q
        focus (intro w' hb; go_simp <;> rfl)
        simp only [Act.put, List.setIfInBounds_toArray, List.set_cons_zero, List.set_cons_succ, Array.toArray_toList]
        apply p_q
        focus (intro w' hb; go_simp <;> rfl)
        simp only [Act.put, List.setIfInBounds_toArray, List.set_cons_zero, List.set_cons_succ, Array.toArray_toList]
        apply p_q
        focus (intro w' hb; go_simp <;> rfl)
        simp only [Act.put, List.setIfInBounds_toArray, List.set_cons_zero, List.set_cons_succ, Array.toArray_toList]
        apply p_qL (ops0 := #[]) rfl rfl rfl (Nat.le_of_ble_eq_true rfl)
        focus (intro w' hb; go_wp2_with fail; refine ⟨rfl, ?_, rfl⟩; simp only [List.getElem?_toArray, List.getElem?_cons_zero, List.getElem?_cons_succ, Option.some.injEq]; rfl)
        simp only [Act.put, List.setIfInBounds_toArray, List.set_cons_zero, List.set_cons_succ, Array.toArray_toList]
        refine p_list (ops := #[]) rfl ?_
        go_wp2_with fail
        refine (HI.out (half n) hk i A c _ _ hlt (by omega) (by omega) (tab_below ((Below.refl w.heap.size w).drew) HT.out) (Kd.C_below hC1 ((Below.refl w.heap.size w).drew))).mono ?_
        rintro e w3 ⟨v, rfl, R3, hw3⟩
        go_wp2_with fail
        have Bw3 : Below w.heap.size w w3 := below_next ((Below.refl w.heap.size w).drew) hw3
        refine ⟨fun _ => Bw3, ?_⟩
        refine p_list (ops := #[]) rfl ?_
        go_wp2_with fail
        refine (tree_Top (n - half n) A2 (c - half n) _ _ (tab_below (Bw3) HT.out) (Kd.C_below hC2 (Bw3)) (by omega) (by omega)).mono ?_
        rintro e w4 ⟨rfl, hw4⟩
        go_wp2_with fail
        have Bw4 : Below w.heap.size w w4 := below_next (Bw3) hw4
        refine ⟨fun _ => Bw4, ?_⟩
        refine p_list (ops := #[]) rfl ?_
        refine l_lit1H rfl rfl rfl s2 Tryd.underlying112 Tryd.zeroH ?_
        refine ⟨fun _ => below_alloc Bw4 _, ?_⟩
        refine p_list (ops := #[]) rfl ?_
        refine l_appendH (w0 := w) (base := w.heap.size) rfl rfl Tryd.underlying112 Tryd.zeroH rfl rfl s2 (Kd.R_below R3 hw4) Bw4 Bw4.size HL.out ?_
        intro v1 w5 R5 B5
        refine ⟨fun _ => B5, ?_⟩
        apply p_q
        focus (intro w' hb; go_simp <;> rfl)
        simp only [Act.put, List.setIfInBounds_toArray, List.set_cons_zero, List.set_cons_succ, Array.toArray_toList]
        refine p_end ?_
        go_wp2
        go_ret
        exact ⟨v1, rfl, by rw [HW.out]; exact R5, B5⟩
      · rw [if_neg hlt] at hw
        have ei : (i : Int) - (half n : Int) = ((i - half n : Nat) : Int) := by omega
        have hwl : (way (xs.drop (half n)) (i - half n)).length ≤ 1073741824 := by rw [way_length]; have := deep_le (xs.drop (half n)).length (i - half n); rw [List.length_drop] at this ⊢; omega
        have HW := Lib.hid hw
        have HL := Lib.hid hwl
        have HLX := Lib.hid hl
        clear hw hwl hl
        go_enter Tryd.func84, Tryd.ntmps84
        go_upto_region 6 with (first | (go_at_call 120; refine (tree_HalfP n h2 hn _).mono ?_; rintro e w2 ⟨rfl, rfl⟩))
        refine wp_num (fun w' => Below w.heap.size w w') [0, 1, 2, 3, 4, 5, 7, 8, 9, 13] (.c (0, none, none) (.c (1, none, none) (.c (2, none, none) (.c (3, none, none) (.c (4, none, none) (.c (5, none, none) (.c (7, none, none) (.c (8, none, none) (.c (9, none, none) (.c (6, some true, none) (.c (10, some true, none) (.c (11, some true, none) (.c (12, some true, none) (.c (13, none, none) (.nil))))))))))))))) (by kernel_rfl) (by kernel_rfl) (by kernel_rfl) (fun _ _ d _ _ h => by cases d <;> exact h) (by kernel_rfl) ((Below.refl _ _).drew) ?_
        simp only [selE, nthO]
        apply p_q
        focus (intro w' hb; go_simp <;> rfl)
        simp only [Act.put, List.setIfInBounds_toArray, List.set_cons_zero, List.set_cons_succ, Array.toArray_toList]
        apply p_q
        focus (intro w' hb; go_simp <;> rfl)
        simp only [Act.put, List.setIfInBounds_toArray, List.set_cons_zero, List.set_cons_succ, Array.toArray_toList]
        apply p_qL (ops0 := #[]) rfl rfl rfl (Nat.le_of_ble_eq_true rfl)
        focus (intro w' hb; go_wp2_with fail; refine ⟨rfl, ?_, rfl⟩; simp only [List.getElem?_toArray, List.getElem?_cons_zero, List.getElem?_cons_succ, Option.some.injEq]; rfl)
        simp only [Act.put, List.setIfInBounds_toArray, List.set_cons_zero, List.set_cons_succ, Array.toArray_toList]
        apply p_q
        focus (intro w' hb; go_simp <;> rfl)
        simp only [Act.put, List.setIfInBounds_toArray, List.set_cons_zero, List.set_cons_succ, Array.toArray_toList]
        apply p_q
        focus (intro w' hb; go_simp <;> rfl)
        simp only [Act.put, List.setIfInBounds_toArray, List.set_cons_zero, List.set_cons_succ, Array.toArray_toList]
        apply p_qL (ops0 := #[]) rfl rfl rfl (Nat.le_of_ble_eq_true rfl)
        focus (intro w' hb; go_wp2_with fail; refine ⟨rfl, ?_, rfl⟩; simp only [List.getElem?_toArray, List.getElem?_cons_zero, List.getElem?_cons_succ, Option.some.injEq]; rfl)
        simp only [Act.put, List.setIfInBounds_toArray, List.set_cons_zero, List.set_cons_succ, Array.toArray_toList]
        apply p_q
        focus (intro w' hb; go_simp <;> rfl)
        simp only [Act.put, List.setIfInBounds_toArray, List.set_cons_zero, List.set_cons_succ, Array.toArray_toList]
        apply p_q
        focus (intro w' hb; go_simp <;> rfl)
        simp only [Act.put, List.setIfInBounds_toArray, List.set_cons_zero, List.set_cons_succ, Array.toArray_toList]
        apply p_qL (ops0 := #[]) rfl rfl rfl (Nat.le_of_ble_eq_true rfl)
        focus (intro w' hb; go_wp2_with fail; refine ⟨rfl, ?_, rfl⟩; simp only [List.getElem?_toArray, List.getElem?_cons_zero, List.getElem?_cons_succ, Option.some.injEq]; rfl)
        simp only [Act.put, List.setIfInBounds_toArray, List.set_cons_zero, List.set_cons_succ, Array.toArray_toList]
        refine p_list (ops := #[]) rfl ?_
        go_wp2_with fail
        refine (HI.out (n - half n) (by omega) (i - half n) A2 (c - half n) _ _ (by omega) (by omega) (by omega) (tab_below ((Below.refl w.heap.size w).drew) HT.out) (Kd.C_below hC2 ((Below.refl w.heap.size w).drew))).mono ?_
        rintro e w3 ⟨v, rfl, R3, hw3⟩
        go_wp2_with fail
        have Bw3 : Below w.heap.size w w3 := below_next ((Below.refl w.heap.size w).drew) hw3
        refine ⟨fun _ => Bw3, ?_⟩
        refine p_list (ops := #[]) rfl ?_
        go_wp2_with fail
        refine (tree_Top (half n) A c _ _ (tab_below (Bw3) HT.out) (Kd.C_below hC1 (Bw3)) (by omega) (by omega)).mono ?_
        rintro e w4 ⟨rfl, hw4⟩
        go_wp2_with fail
        have Bw4 : Below w.heap.size w w4 := below_next (Bw3) hw4
        refine ⟨fun _ => Bw4, ?_⟩
        refine p_list (ops := #[]) rfl ?_
        refine l_lit1H rfl rfl rfl s1 Tryd.underlying112 Tryd.zeroH ?_
        refine ⟨fun _ => below_alloc Bw4 _, ?_⟩
        refine p_list (ops := #[]) rfl ?_
        refine l_appendH (w0 := w) (base := w.heap.size) rfl rfl Tryd.underlying112 Tryd.zeroH rfl rfl s1 (Kd.R_below R3 hw4) Bw4 Bw4.size HL.out ?_
        intro v1 w5 R5 B5
        refine ⟨fun _ => B5, ?_⟩
        apply p_q
        focus (intro w' hb; go_simp <;> rfl)
        simp only [Act.put, List.setIfInBounds_toArray, List.set_cons_zero, List.set_cons_succ, Array.toArray_toList]
        refine p_end ?_
        go_wp2
        go_ret
        exact ⟨v1, rfl, by rw [HW.out]; exact R5, B5⟩
    · have c2 : decide ((n : Int) < 2) = true := by simp; omega
      have HW := Lib.hid (way_lt (l := xs) (i := i) (by omega))
      clear ih ht hl
      go_enter Tryd.func84, Tryd.ntmps84
      go_wp2
      all_goals (go_ret; exact ⟨_, rfl, by rw [HW.out]; exact Kd.R_nil _ _ _ _ _, Below.refl _ _⟩)
end Go.Proofs.YtlkjeneffohnkaaDoor
