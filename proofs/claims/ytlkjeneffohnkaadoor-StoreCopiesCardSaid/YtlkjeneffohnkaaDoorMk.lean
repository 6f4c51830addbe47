import Derived.Test.YtlkjeneffohnkaaDoorKp1
import Derived.Test.YtlkjeneffohnkaaDoorMk1
import Derived.Test.YtlkjeneffohnkaaDoorSrch
set_option linter.unusedVariables false
set_option linter.unusedSimpArgs false
namespace Go.Proofs.YtlkjeneffohnkaaDoor
open Go.RowKit Go.Proofs Go.Proofs.Plan Go.Proofs.YtlkjeneffohnkaaDoorW.PrintWords
/-- a proof is returned -/
def PfAt (p : Pf) (w0 : World) (e : Ending) (w : World) : Prop := ∃ A c, e = .returned (.agg #[.int .i64 p.count, .slice A p.leaves.length c]) ∧ p.leaves.length ≤ c ∧ kLf.C w A p.leaves.length p.leaves ∧ Below w0.heap.size w0 w ∧ kLf.R 114 w w0.heap.size yes (.slice A p.leaves.length c) p.leaves
/-- the leaves of places a.. -/
def lv (xs : List Pr) (a m : Nat) : List Lf := (List.range m).map fun j => leafAt xs (a + j)
theorem lv_succ (xs : List Pr) (a m : Nat) : lv xs a (m + 1) = lv xs a m ++ [leafAt xs (a + m)] := by unfold lv; rw [List.range_succ, List.map_append]; rfl
theorem lv_length (xs : List Pr) (a m : Nat) : (lv xs a m).length = m := by simp [lv]
def mFrom (xs : List Pr) (key : Bs) : Nat := if isAt xs (place xs key) key = true then place xs key else place xs key - 1
def mTo (xs : List Pr) (key : Bs) : Nat := min (place xs key + 1) xs.length
theorem mFrom_le (xs : List Pr) (key : Bs) : mFrom xs key ≤ mTo xs key := by
  have := place_le xs key
  unfold mFrom mTo
  split
  · rename_i h
    simp only [isAt, Bool.and_eq_true, decide_eq_true_eq] at h
    have := h.1
    omega
  · omega
theorem mTo_le (xs : List Pr) (key : Bs) : mTo xs key ≤ xs.length := by unfold mTo; omega
theorem make_lv {xs : List Pr} (hg : good xs = true) (key : Bs) : make xs key = ⟨xs.length, lv xs (mFrom xs key) (mTo xs key - mFrom xs key)⟩ := by
  rw [make_eq hg]
  have hp := place_le xs key
  by_cases h : isAt xs (place xs key) key = true
  · rw [if_pos h]
    have h' := h
    simp only [isAt, Bool.and_eq_true, decide_eq_true_eq] at h'
    have e1 : mFrom xs key = place xs key := by unfold mFrom; rw [if_pos h]
    have e2 : mTo xs key = place xs key + 1 := by unfold mTo; omega
    rw [e1, e2, Nat.add_sub_cancel_left]; rfl
  · rw [if_neg h]
    have e1 : mFrom xs key = place xs key - 1 := by unfold mFrom; rw [if_neg h]
    by_cases h0 : 0 < place xs key <;> by_cases h1 : place xs key < xs.length
    · have e2 : mTo xs key = place xs key + 1 := by unfold mTo; omega
      rw [if_pos h0, if_pos h1, e1, e2, show place xs key + 1 - (place xs key - 1) = 2 by omega]
      show _ = (⟨_, [leafAt xs (place xs key - 1 + 0), leafAt xs (place xs key - 1 + 1)]⟩ : Pf)
      rw [show place xs key - 1 + 1 = place xs key by omega]; rfl
    · have e2 : mTo xs key = place xs key := by unfold mTo; omega
      rw [if_pos h0, if_neg h1, e1, e2, show place xs key - (place xs key - 1) = 1 by omega]; rfl
    · have e2 : mTo xs key = place xs key + 1 := by unfold mTo; omega
      rw [if_neg h0, if_pos h1, e1, e2, show place xs key + 1 - (place xs key - 1) = 1 by omega, show place xs key = 0 by omega]; rfl
    · have e2 : mTo xs key = 0 := by unfold mTo; omega
      rw [if_neg h0, if_neg h1, e2, Nat.zero_sub]; rfl
theorem proof_GoodB (b : Bool) (A : Option Addr) (n c : Nat) (xs : List Pr) (hb : good xs = b) (w : World) (hn : n ≤ 1073741824) (h : kP.C w A n xs) :
    Calls Tryd.prog 17 #[.slice A n c] w fun e w' => e = .returned (.bool b) ∧ Below w.heap.size w w' := by subst hb; exact proof_Good A n c xs w hn h
def zPf : Array Value := #[.int .i64 0, .slice none 0 0]
theorem lf_M {W W1 : World} {base base' : Nat} {x : Lf} {v u : Value} {ok : Nat → Prop} {ys : List Lf} (h : kH.R 24 W1 W.heap.size yes v x.path) (hu : kLf.R 114 W base ok u ys) (hb : base' ≤ W.heap.size) :
    kLf.M W1 base' (fun k => some k ≠ u.ownBlock) x [.string x.key, .string x.val, .int .i64 x.index, v] :=
  ⟨[v], rfl, v, rfl, Kd.R_mono (Kd.R_lower (Kd.R_newR h hu) hb) (fun _ hk => hk.2)⟩
/-- Make's variables have been laid -/
theorem wp_mk {P : Program} {cd : Code} {Q : Exit → Act → World → Prop} {a : Act} {w : World} {C0 C1 C2 : Array Value} {t0 t1 t2 : TypeId}
    (k : ∀ w1, Below w.heap.size w w1 → w1.heap[w.heap.size]? = some (.cells C0 t0 (0, 0)) → w1.heap[w.heap.size + 1]? = some (.cells C1 t1 (0, 0)) → w1.heap[w.heap.size + 1 + 1]? = some (.cells C2 t2 (0, 0)) → cd.wp P Q a w1) :
    cd.wp P Q a (((w.alloc (.cells C0 t0)).alloc (.cells C1 t1)).alloc (.cells C2 t2)) :=
  k _ (below_alloc (below_alloc (below_alloc (Below.refl _ _) _) _) _) (heap_alloc_at (heap_alloc_at (heap_alloc_is _ _ _ rfl))) (heap_alloc_at (heap_alloc_is _ _ _ (by simp))) (heap_alloc_is _ _ _ (by simp))
theorem ret_S {P : Program} {a : Act} {w : World} {fn : Func} {R : Ending → World → Prop} {p b o n ty : Nat} {C : Array Value} {d : TypeDesc} (hr : fn.results = #[.cell p ty]) (hp : a.tmps[p]?.getD undef = .pointer (some ⟨b, o, none⟩)) (ht : w.there b o n) (hn : C.size = n)
    (hu : P.underlying ty = some d) (hd : d.isRow = true) (hi : (P.info? ty).map (·.size) = some n) (hdf : a.defers = []) (hR : R (.returned (.agg C)) (w.setCells b o C.toList)) : bodyPost P fn R .ret a (w.setCells b o C.toList) :=
  ret_row (cs := C.toList) hr hp (World.rangeAt_setCells_same _ _ _ _ (by rw [Array.length_toList, hn]; exact ht)) hu hd (by rw [Array.length_toList, hn]; exact hi) hdf (by rw [Array.toArray_toList]; exact hR)
theorem block_set2 {w : World} {g t : Nat} {a b : Value} (h : w.heap[g]? = some (.cells #[a, b] t (0, 0))) (u v : Value) : (w.setCells g 0 [u, v]).heap[g]? = some (.cells #[u, v] t (0, 0)) := by
  have h1 := heap_setCell_same w g 0 _ t u h
  exact heap_setCell_same _ g 1 _ t v h1
theorem R_set2 {α : Type} {d : Kd α} {e base : Nat} {ok : Nat → Prop} {w : World} {x : Value} {xs : List α} (h : d.R e w base ok x xs) {g t : Nat} {a b : Value} (hb : w.heap[g]? = some (.cells #[a, b] t (0, 0))) (ht : ∀ q, q ∈ e :: d.E → q ≠ t) (u v : Value) : d.R e (w.setCells g 0 [u, v]) base ok x xs :=
  Kd.R_set (Kd.R_set h hb ht 0 u) (heap_setCell_same w g 0 _ t u hb) ht 1 v
theorem hashE : ∀ q, q ∈ 24 :: kH.E → q ≠ 27 := by
  intro q hq
  simp only [kH, List.mem_cons, List.not_mem_nil, or_false] at hq
  omega
theorem hashE2 : ∀ q, q ∈ 24 :: kH.E → q ≠ 114 := by
  intro q hq
  simp only [kH, List.mem_cons, List.not_mem_nil, or_false] at hq
  omega
theorem leafE : ∀ q, q ∈ 114 :: kLf.E → q ≠ 27 := by
  intro q hq
  simp only [kLf, pre, Kd.slice, kH, List.mem_cons, List.not_mem_nil, or_false] at hq
  omega
theorem leafAt_eq (xs : List Pr) (i : Nat) : leafAt xs i = ⟨(xs.getD i dP).key, (xs.getD i dP).val, (i : Int), way (sums xs) i⟩ := rfl
/-- Way, its row told as a slice -/
theorem tree_WayS (n i : Nat) (A : Option Addr) (c : Nat) (xs : List Bs) (w : World) (hi : i < n) (hn : n ≤ 1073741824) (hc : n ≤ c) (ht : Tab w) (h : kH.C w A n xs) :
    Calls Tryd.prog 84 #[.slice A n c, .int .i64 i] w fun e w' => ∃ A5 c5, e = .returned (.slice A5 (way xs i).length c5) ∧ kH.R 24 w' w.heap.size yes (.slice A5 (way xs i).length c5) (way xs i) ∧ Below w.heap.size w w' :=
  (tree_Way n i A c xs w hi hn hc ht h).mono fun e w' ⟨v, he, hr, hb⟩ => by
    obtain ⟨A5, c5, rfl⟩ := Kd.R_slice hr
    exact ⟨A5, c5, he, hr, hb⟩
set_option maxHeartbeats 1000000 in
set_option maxRecDepth 100000 in
theorem proof_Make (key : Bs) (A : Option Addr) (n c : Nat) (xs : List Pr) (w : World) (ht : Tab w) (hn : n ≤ 1073741824) (hc : n ≤ c) (h : kP.C w A n xs) :
    Calls Tryd.prog 21 #[.slice A n c, .string key] w (PfAt (make xs key) w) := by
  have HT := Lib.hid ht
  have HL := Lib.hid h.1
  have HH := Lib.hid h
  have HCC := Lib.hid hc
  clear ht h hc
  cases hg : good xs
  · have hm : make xs key = ⟨0, []⟩ := by unfold make; rw [if_neg (by rw [hg]; decide)]
    have HM := Lib.hid hm
    have HG := Lib.hid hg
    clear hm hg
    go_enter Tryd.func21, Tryd.ntmps21
    go_upto_region 1 with (fail)
    refine wp_mk ?_
    intro w1 B1 k0 k1 k2
    have f0 := cell_block k0 0 (v := .slice A n c) rfl
    have T2 := there_block k2 0 2 (Nat.le_refl _)
    go_wp2_with (first
      | (go_at_call 17; refine (proof_GoodB false A n c xs HG.out _ hn (Kd.C_below HH.out B1)).mono ?_; rintro e w2 ⟨rfl, B2⟩)
      | (refine l_storeS rfl rfl rfl rfl rfl (there_below B2 T2) Tryd.infoPf (one2 rfl rfl) ?_))
    refine ret_row (cs := [.int .i64 0, .slice none 0 0]) rfl rfl (World.rangeAt_setCells_same _ _ _ _ (there_below B2 T2)) Tryd.underlying27 rfl Tryd.infoPf rfl ?_
    exact ⟨none, 0, by rw [HM.out]; rfl, by rw [HM.out]; exact Nat.le_refl _, by rw [HM.out]; exact Kd.C_nil _ _, below_setCells _ _ _ (below_next B1 B2) (by omega), by rw [HM.out]; exact Kd.R_nil _ _ _ _ _⟩
  · have hm := make_lv hg key
    have hgm : ∀ x ∈ xs, x.key.size ≤ 4294967296 ∧ x.val.size ≤ 4294967296 := fun x hx => by
      have := sized_of_good hg x hx
      simp only [sized, Bool.and_eq_true, decide_eq_true_eq] at this
      omega
    have hrs := rising_of_good hg
    obtain ⟨k, hk⟩ : ∃ k, k = place xs key := ⟨_, rfl⟩
    have hkn : k ≤ n := by rw [hk, ← HL.out]; exact place_le xs key
    have h1 : ∀ i, i < k → (fun i => !blt (xs.getD i dP).key key) i = false := fun i hi => by
      show (!blt (xs.getD i dP).key key) = false
      rw [place_below i (by rw [← hk]; exact hi)]; rfl
    have h2 : ∀ i, k ≤ i → i < n → (fun i => !blt (xs.getD i dP).key key) i = true := fun i hi hin => by
      show (!blt (xs.getD i dP).key key) = true
      rcases Nat.lt_or_ge k i with hlt | hge
      · rw [place_above hrs i (by rw [← hk]; exact hlt) (by rw [HL.out]; exact hin)]; rfl
      · obtain rfl : i = k := by omega
        subst hk
        rw [place_at (by rw [HL.out]; exact hin)]; rfl
    obtain ⟨fr, hfr⟩ : ∃ fr, fr = mFrom xs key := ⟨_, rfl⟩
    obtain ⟨tt, hto⟩ : ∃ tt, tt = mTo xs key := ⟨_, rfl⟩
    have hft : fr ≤ tt := by rw [hfr, hto]; exact mFrom_le xs key
    have htn : tt ≤ n := by rw [hto, ← HL.out]; exact mTo_le xs key
    have efr : fr = if isAt xs k key = true then k else k - 1 := by rw [hfr, hk]; rfl
    have eto : tt = min (k + 1) n := by rw [hto, hk, ← HL.out]; rfl
    have eat : isAt xs k key = (decide (k < n) && decide ((xs.getD k dP).key = key)) := by unfold isAt; rw [HL.out]
    have hmk : make xs key = ⟨n, lv xs fr (tt - fr)⟩ := by rw [hm, ← hfr, ← hto, HL.out]
    have HM := Lib.hid hmk
    have HG := Lib.hid hg
    have HSZ := Lib.hid hgm
    have H1 := Lib.hid h1
    have H2 := Lib.hid h2
    have EF := Lib.hid efr
    have ET := Lib.hid eto
    have EA := Lib.hid eat
    clear hm hmk hg hgm h1 h2 efr eto eat hfr hto hrs hk
    generalize isAt xs k key = at_ at EF EA
    go_enter Tryd.func21, Tryd.ntmps21
    go_upto_region 1 with (fail)
    refine wp_mk ?_
    intro w1 B1 k0 k1 k2
    have f0 := cell_block k0 0 (v := .slice A n c) rfl
    go_upto_region 3 with (first
      | (go_at_call 17; refine (proof_GoodB true A n c xs HG.out _ hn (Kd.C_below HH.out B1)).mono ?_; rintro e w2 ⟨rfl, hw2⟩))
    have B2 := below_next B1 hw2
    have m0 := block_below hw2 k0
    have m1 := block_below hw2 k1
    have m2 := block_below hw2 k2
    clear k0 k1 k2 f0 hw2
    have f0 := cell_block m0 0 (v := .slice A n c) rfl
    have f1 := cell_block m1 0 (v := .string key) rfl
    have hf : ∀ W, Below w2.heap.size w2 W → ∀ i, i < n → Calls Tryd.prog 83 (#[.int .i64 i] ++ #[.pointer (some ⟨w.heap.size, 0, none⟩), .pointer (some ⟨w.heap.size + 1, 0, none⟩)]) W fun e w' => e = .returned (.bool ((fun i => !blt (xs.getD i dP).key key) i)) ∧ Below W.heap.size W w' :=
      fun W hW i hi => make_1 xs A n c key _ _ i hi W (cell_below hW f0) (cell_below hW f1) (Kd.C_below HH.out (below_next B2 hW))
    have HF := Lib.hid hf
    clear hf
    have eg := eg_of Tryd.func83 (by kernel_rfl) rfl
    go_upto_region 4 with (first
      | (go_at_call 82; refine (sort_Search 83 eg _ n k (fun i => !blt (xs.getD i dP).key key) _ hn hkn H1.out H2.out HF.out).mono ?_; rintro e w3 ⟨rfl, hw3⟩))
    have m0' := block_below hw3 m0
    have m1' := block_below hw3 m1
    have m2' := block_below hw3 m2
    have B3 := below_next B2 hw3
    clear HF H1 H2 f0 f1 m0 m1 m2 hw3 eg
    have f0 := cell_block m0' 0 (v := .slice A n c) rfl
    have f1 := cell_block m1' 0 (v := .string key) rfl
    have ek : IntKind.i64.wrap ((k : Int) + 1) = (k : Int) + 1 := IntWalk.i64_in _ (by omega)
    have ej : IntKind.i64.wrap ((k : Int) - 1) = (k : Int) - 1 := IntWalk.i64_in _ (by omega)
    have emax : max ((k : Int) - 1) 0 = ((k - 1 : Nat) : Int) := by omega
    have emin : min ((k : Int) + 1) (n : Int) = (tt : Int) := by have := ET.out; omega
    have EMX := Lib.hid emax
    have EMN := Lib.hid emin
    clear emax emin
    refine wp_num (fun w' => Below w3.heap.size w3 w') [0, 1, 2, 3, 4, 5, 6, 7, 8, 9] (.c (0, none, none) (.c (1, none, none) (.c (2, none, none) (.c (3, none, none) (.c (4, none, none) (.c (5, none, none) (.c (6, none, none) (.c (7, none, none) (.c (8, none, none) (.c (9, none, none) (.nil))))))))))) (by kernel_rfl) (by kernel_rfl) (by kernel_rfl) (fun _ _ d _ _ h => by cases d <;> exact h) (by kernel_rfl) ((Below.refl _ _).drew) ?_
    simp only [selE, nthO]
    apply p_q
    focus (intro w' hb; go_simp <;> rfl)
    simp only [Act.put, List.setIfInBounds_toArray, List.set_cons_zero, List.set_cons_succ, Array.toArray_toList]
    apply p_qL (ops0 := #[]) rfl rfl rfl (Nat.le_of_ble_eq_true rfl)
    focus (intro w' hb; go_wp2_with fail; refine ⟨rfl, ?_, rfl⟩; simp only [List.getElem?_toArray, List.getElem?_cons_zero, List.getElem?_cons_succ, Option.some.injEq]; rfl)
    simp only [Act.put, List.setIfInBounds_toArray, List.set_cons_zero, List.set_cons_succ, Array.toArray_toList]
    apply p_q
    focus (intro w' hb; go_simp <;> rfl)
    simp only [Act.put, List.setIfInBounds_toArray, List.set_cons_zero, List.set_cons_succ, Array.toArray_toList]
    apply p_q
    focus (intro w' hb; go_simp <;> rfl)
    simp only [Act.put, List.setIfInBounds_toArray, List.set_cons_zero, List.set_cons_succ, Array.toArray_toList]
    apply p_qL (ops0 := #[]) rfl rfl rfl (Nat.le_of_ble_eq_true rfl)
    focus (intro w' hb; go_wp2_with fail; refine ⟨rfl, ?_, rfl⟩; simp only [List.getElem?_toArray, List.getElem?_cons_zero, List.getElem?_cons_succ, Option.some.injEq]; rfl)
    simp only [Act.put, List.setIfInBounds_toArray, List.set_cons_zero, List.set_cons_succ, Array.toArray_toList]
    refine p_load1 rfl rfl (fun w' hb => cell_below hb (by assumption)) Tryd.underlying31 rfl ?_
    simp only [Act.put, List.setIfInBounds_toArray, List.set_cons_zero, List.set_cons_succ, Array.toArray_toList]
    apply p_q
    focus (intro w' hb; go_simp <;> rfl)
    simp only [Act.put, List.setIfInBounds_toArray, List.set_cons_zero, List.set_cons_succ, Array.toArray_toList]
    apply p_q
    focus (intro w' hb; go_simp <;> rfl)
    simp only [Act.put, List.setIfInBounds_toArray, List.set_cons_zero, List.set_cons_succ, Array.toArray_toList]
    apply p_q
    focus (intro w' hb; go_simp <;> rfl)
    simp only [Act.put, List.setIfInBounds_toArray, List.set_cons_zero, List.set_cons_succ, Array.toArray_toList]
    apply p_q
    focus (intro w' hb; go_simp <;> rfl)
    simp only [Act.put, List.setIfInBounds_toArray, List.set_cons_zero, List.set_cons_succ, Array.toArray_toList]
    refine p_end ?_
    rw [EMX.out, EMN.out]
    clear ek ej
    go_upto_region 5 with (fail)
    go_cut [39] from 27 to 39 (fun u w' => u = .bool at_ ∧ w' = w3.drew.drew)
    case first =>
      by_cases hlt : k < n
      · obtain ⟨ad, hA, q0, q1⟩ := kP_at HH.out k hlt
        subst hA
        have q := cell_below B3 q0
        have e0 : at_ = ((xs.getD k dP).key.toList == key.toList) := by rw [EA.out, decide_eq_true hlt, eq_toList]; rfl
        subst e0
        clear q0 q1
        cases hb : ((xs.getD k dP).key.toList == key.toList)
        all_goals
          refine wp_num (fun w' => Below w3.drew.heap.size w3.drew w') [0, 1, 2, 3, 4, 5, 6, 7, 8, 9, 10, 11, 12] (.c (0, none, none) (.c (1, none, none) (.c (2, none, none) (.c (3, none, none) (.c (4, none, none) (.c (5, none, some (31, true)) (.c (6, none, some (31, true)) (.c (7, none, some (31, true)) (.c (8, none, some (31, true)) (.c (9, none, some (31, true)) (.c (10, none, some (31, true)) (.c (11, none, some (31, true)) (.c (12, none, none) (.nil)))))))))))))) (by kernel_rfl) (by kernel_rfl) (by kernel_rfl) (fun _ _ d _ _ h => by cases d <;> exact h) (by kernel_rfl) ((Below.refl _ _).drew) ?_
          simp only [selE, nthO]
          apply p_q
          focus (intro w' hb; go_simp <;> rfl)
          simp only [Act.put, List.setIfInBounds_toArray, List.set_cons_zero, List.set_cons_succ, Array.toArray_toList]
          refine p_load1 rfl rfl (fun w' hb => cell_below hb (by assumption)) Tryd.underlying31 rfl ?_
          simp only [Act.put, List.setIfInBounds_toArray, List.set_cons_zero, List.set_cons_succ, Array.toArray_toList]
          apply p_q
          focus (intro w' hb; go_simp <;> rfl)
          simp only [Act.put, List.setIfInBounds_toArray, List.set_cons_zero, List.set_cons_succ, Array.toArray_toList]
          apply p_qL (ops0 := #[]) rfl rfl rfl (Nat.le_of_ble_eq_true rfl)
          focus (intro w' hb; go_wp2_with fail; refine ⟨rfl, ?_, rfl⟩; simp only [List.getElem?_toArray, List.getElem?_cons_zero, List.getElem?_cons_succ, Option.some.injEq]; rfl)
          simp only [Act.put, List.setIfInBounds_toArray, List.set_cons_zero, List.set_cons_succ, Array.toArray_toList]
          apply p_q
          focus (intro w' hb; go_simp <;> rfl)
          simp only [Act.put, List.setIfInBounds_toArray, List.set_cons_zero, List.set_cons_succ, Array.toArray_toList]
          first
          | refine p_skip rfl ?_
          | (refine p_go rfl ?_; simp only [bare]; refine p_load1 rfl rfl (fun w' hb => cell_below hb (by assumption)) Tryd.underlying31 rfl ?_)
          simp only [Act.put, List.setIfInBounds_toArray, List.set_cons_zero, List.set_cons_succ, Array.toArray_toList]
          first
          | refine p_skip rfl ?_
          | (refine p_go rfl ?_; simp only [bare]; apply p_q; focus (intro w' hb; go_simp <;> rfl))
          simp only [Act.put, List.setIfInBounds_toArray, List.set_cons_zero, List.set_cons_succ, Array.toArray_toList]
          first
          | refine p_skip rfl ?_
          | (refine p_go rfl ?_; simp only [bare]; apply p_qL (ops0 := #[]) rfl rfl rfl (Nat.le_of_ble_eq_true rfl); focus (intro w' hb; go_wp2_with fail; refine ⟨rfl, ?_, rfl⟩; simp only [List.getElem?_toArray, List.getElem?_cons_zero, List.getElem?_cons_succ, Option.some.injEq]; rfl))
          simp only [Act.put, List.setIfInBounds_toArray, List.set_cons_zero, List.set_cons_succ, Array.toArray_toList]
          first
          | refine p_skip rfl ?_
          | (refine p_go rfl ?_; simp only [bare]; apply p_qL (ops0 := #[]) rfl rfl rfl (Nat.le_of_ble_eq_true rfl); focus (intro w' hb; go_wp2_with fail; refine ⟨rfl, ?_, rfl⟩; simp only [List.getElem?_toArray, List.getElem?_cons_zero, List.getElem?_cons_succ, Option.some.injEq]; rfl))
          simp only [Act.put, List.setIfInBounds_toArray, List.set_cons_zero, List.set_cons_succ, Array.toArray_toList]
          first
          | refine p_skip rfl ?_
          | (refine p_go rfl ?_; simp only [bare]; refine p_load1 rfl rfl (fun w' hb => cell_below hb (by assumption)) Tryd.underlying9 rfl ?_)
          simp only [Act.put, List.setIfInBounds_toArray, List.set_cons_zero, List.set_cons_succ, Array.toArray_toList]
          first
          | refine p_skip rfl ?_
          | (refine p_go rfl ?_; simp only [bare]; refine p_load1 rfl rfl (fun w' hb => cell_below hb (by assumption)) Tryd.underlying9 rfl ?_)
          simp only [Act.put, List.setIfInBounds_toArray, List.set_cons_zero, List.set_cons_succ, Array.toArray_toList]
          first
          | refine p_skip rfl ?_
          | (refine p_go rfl ?_; simp only [bare]; apply p_qL (ops0 := #[]) rfl rfl rfl (Nat.le_of_ble_eq_true rfl); focus (intro w' hb; go_wp2_with fail; refine ⟨rfl, ?_, rfl⟩; simp only [List.getElem?_toArray, List.getElem?_cons_zero, List.getElem?_cons_succ, Option.some.injEq]; rfl))
          simp only [Act.put, List.setIfInBounds_toArray, List.set_cons_zero, List.set_cons_succ, Array.toArray_toList]
          apply p_qL (ops0 := #[]) rfl rfl rfl (Nat.le_of_ble_eq_true rfl)
          focus (intro w' hb; go_wp2_with fail; refine ⟨rfl, ?_, rfl⟩; simp only [List.getElem?_toArray, List.getElem?_cons_zero, List.getElem?_cons_succ, Option.some.injEq]; rfl)
          simp only [Act.put, List.setIfInBounds_toArray, List.set_cons_zero, List.set_cons_succ, Array.toArray_toList]
          refine p_end ?_
          go_wp2
          go_meet
          case rel => exact ⟨rfl, rfl⟩
      · have e0 : at_ = false := by rw [EA.out, decide_eq_false hlt]; rfl
        subst e0
        refine wp_num (fun w' => Below w3.drew.heap.size w3.drew w') [0, 1, 2, 3, 4, 5, 6, 7, 8, 9, 10, 11, 12] (.c (0, none, none) (.c (1, none, none) (.c (2, none, none) (.c (3, none, none) (.c (4, none, none) (.c (5, none, some (31, true)) (.c (6, none, some (31, true)) (.c (7, none, some (31, true)) (.c (8, none, some (31, true)) (.c (9, none, some (31, true)) (.c (10, none, some (31, true)) (.c (11, none, some (31, true)) (.c (12, none, none) (.nil)))))))))))))) (by kernel_rfl) (by kernel_rfl) (by kernel_rfl) (fun _ _ d _ _ h => by cases d <;> exact h) (by kernel_rfl) ((Below.refl _ _).drew) ?_
        simp only [selE, nthO]
        apply p_q
        focus (intro w' hb; go_simp <;> rfl)
        simp only [Act.put, List.setIfInBounds_toArray, List.set_cons_zero, List.set_cons_succ, Array.toArray_toList]
        refine p_load1 rfl rfl (fun w' hb => cell_below hb (by assumption)) Tryd.underlying31 rfl ?_
        simp only [Act.put, List.setIfInBounds_toArray, List.set_cons_zero, List.set_cons_succ, Array.toArray_toList]
        apply p_q
        focus (intro w' hb; go_simp <;> rfl)
        simp only [Act.put, List.setIfInBounds_toArray, List.set_cons_zero, List.set_cons_succ, Array.toArray_toList]
        apply p_qL (ops0 := #[]) rfl rfl rfl (Nat.le_of_ble_eq_true rfl)
        focus (intro w' hb; go_wp2_with fail; refine ⟨rfl, ?_, rfl⟩; simp only [List.getElem?_toArray, List.getElem?_cons_zero, List.getElem?_cons_succ, Option.some.injEq]; rfl)
        simp only [Act.put, List.setIfInBounds_toArray, List.set_cons_zero, List.set_cons_succ, Array.toArray_toList]
        apply p_q
        focus (intro w' hb; go_simp <;> rfl)
        simp only [Act.put, List.setIfInBounds_toArray, List.set_cons_zero, List.set_cons_succ, Array.toArray_toList]
        first
        | refine p_skip rfl ?_
        | (refine p_go rfl ?_; simp only [bare]; refine p_load1 rfl rfl (fun w' hb => cell_below hb (by assumption)) Tryd.underlying31 rfl ?_)
        simp only [Act.put, List.setIfInBounds_toArray, List.set_cons_zero, List.set_cons_succ, Array.toArray_toList]
        first
        | refine p_skip rfl ?_
        | (refine p_go rfl ?_; simp only [bare]; apply p_q; focus (intro w' hb; go_simp <;> rfl))
        simp only [Act.put, List.setIfInBounds_toArray, List.set_cons_zero, List.set_cons_succ, Array.toArray_toList]
        first
        | refine p_skip rfl ?_
        | (refine p_go rfl ?_; simp only [bare]; apply p_qL (ops0 := #[]) rfl rfl rfl (Nat.le_of_ble_eq_true rfl); focus (intro w' hb; go_wp2_with fail; refine ⟨rfl, ?_, rfl⟩; simp only [List.getElem?_toArray, List.getElem?_cons_zero, List.getElem?_cons_succ, Option.some.injEq]; rfl))
        simp only [Act.put, List.setIfInBounds_toArray, List.set_cons_zero, List.set_cons_succ, Array.toArray_toList]
        first
        | refine p_skip rfl ?_
        | (refine p_go rfl ?_; simp only [bare]; apply p_qL (ops0 := #[]) rfl rfl rfl (Nat.le_of_ble_eq_true rfl); focus (intro w' hb; go_wp2_with fail; refine ⟨rfl, ?_, rfl⟩; simp only [List.getElem?_toArray, List.getElem?_cons_zero, List.getElem?_cons_succ, Option.some.injEq]; rfl))
        simp only [Act.put, List.setIfInBounds_toArray, List.set_cons_zero, List.set_cons_succ, Array.toArray_toList]
        first
        | refine p_skip rfl ?_
        | (refine p_go rfl ?_; simp only [bare]; refine p_load1 rfl rfl (fun w' hb => cell_below hb (by assumption)) Tryd.underlying9 rfl ?_)
        simp only [Act.put, List.setIfInBounds_toArray, List.set_cons_zero, List.set_cons_succ, Array.toArray_toList]
        first
        | refine p_skip rfl ?_
        | (refine p_go rfl ?_; simp only [bare]; refine p_load1 rfl rfl (fun w' hb => cell_below hb (by assumption)) Tryd.underlying9 rfl ?_)
        simp only [Act.put, List.setIfInBounds_toArray, List.set_cons_zero, List.set_cons_succ, Array.toArray_toList]
        first
        | refine p_skip rfl ?_
        | (refine p_go rfl ?_; simp only [bare]; apply p_qL (ops0 := #[]) rfl rfl rfl (Nat.le_of_ble_eq_true rfl); focus (intro w' hb; go_wp2_with fail; refine ⟨rfl, ?_, rfl⟩; simp only [List.getElem?_toArray, List.getElem?_cons_zero, List.getElem?_cons_succ, Option.some.injEq]; rfl))
        simp only [Act.put, List.setIfInBounds_toArray, List.set_cons_zero, List.set_cons_succ, Array.toArray_toList]
        apply p_qL (ops0 := #[]) rfl rfl rfl (Nat.le_of_ble_eq_true rfl)
        focus (intro w' hb; go_wp2_with fail; refine ⟨rfl, ?_, rfl⟩; simp only [List.getElem?_toArray, List.getElem?_cons_zero, List.getElem?_cons_succ, Option.some.injEq]; rfl)
        simp only [Act.put, List.setIfInBounds_toArray, List.set_cons_zero, List.set_cons_succ, Array.toArray_toList]
        refine p_end ?_
        go_wp2
        go_meet
        case rel => exact ⟨rfl, rfl⟩
    obtain ⟨rfl, rfl⟩ := hcut
    go_upto_if 39 with (fail)
    go_cut [6] from 40 to 40 (fun u w' => u = .int .i64 (fr : Int) ∧ w' = w3.drew.drew)
    case first =>
      cases at_
      all_goals
        go_wp2
        go_meet
        case rel => exact ⟨by rw [EF.out]; rfl, rfl⟩
    obtain ⟨rfl, rfl⟩ := hcut
    go_upto_region 7 with (fail)
    obtain ⟨wq, hwq⟩ : ∃ wq, wq = w3.drew.drew := ⟨_, rfl⟩
    have n0 : wq.heap[w.heap.size]? = some (.cells #[.slice A n c] 31 (0, 0)) := by rw [hwq]; exact m0'
    have n2 : wq.heap[w.heap.size + 1 + 1]? = some (.cells #[.int .i64 0, .slice none 0 0] 27 (0, 0)) := by rw [hwq]; exact m2'
    have BQ : Below w.heap.size w wq := by rw [hwq]; exact B3.drew.drew
    rw [← hwq]
    clear hwq f0 f1 m0' m1' m2' B3 EMX EMN EF EA ET
    have f0 := cell_block n0 0 (v := .slice A n c) rfl
    go_cut [8, 9] from 41 to 45 (fun u v w' => ∃ (g : Nat) (A3 : Option Addr) (c3 : Nat), u = .pointer (some ⟨g, 0, none⟩) ∧ v = .slice A3 n c3 ∧ wq.heap.size ≤ g ∧ w'.heap[g]? = some (.cells #[.int .i64 n, .slice none 0 0] 27 (0, 0)) ∧ kH.R 24 w' wq.heap.size yes (.slice A3 n c3) (sums xs) ∧ Below wq.heap.size wq w')
    case first =>
      refine wp_num (fun w' => Below wq.heap.size wq w') [0, 1, 2, 3, 7] (.c (0, none, none) (.c (1, none, none) (.c (2, none, none) (.c (3, none, none) (.f (.c (4, some true, none) (.c (5, some true, none) (.c (6, some true, none) (.c (7, none, none) (.nil))))) (.c (5, some true, none) (.c (4, some true, none) (.c (6, some true, none) (.c (7, none, none) (.nil)))))))))) (by kernel_rfl) (by kernel_rfl) (by kernel_rfl) (fun _ _ d _ _ h => by cases d <;> exact h) (by kernel_rfl) ((Below.refl _ _).drew) ?_
      simp only [selE, nthO]
      refine p_load1 rfl rfl (fun w' hb => cell_below hb (by assumption)) Tryd.underlying31 rfl ?_
      simp only [Act.put, List.setIfInBounds_toArray, List.set_cons_zero, List.set_cons_succ, Array.toArray_toList]
      apply p_q
      focus (intro w' hb; go_simp <;> rfl)
      simp only [Act.put, List.setIfInBounds_toArray, List.set_cons_zero, List.set_cons_succ, Array.toArray_toList]
      apply p_q
      focus (intro w' hb; go_simp <;> rfl)
      simp only [Act.put, List.setIfInBounds_toArray, List.set_cons_zero, List.set_cons_succ, Array.toArray_toList]
      refine p_load1 rfl rfl (fun w' hb => cell_below hb (by assumption)) Tryd.underlying31 rfl ?_
      simp only [Act.put, List.setIfInBounds_toArray, List.set_cons_zero, List.set_cons_succ, Array.toArray_toList]
      refine p_fork ?_ ?_
      · skip
        refine p_list (ops := #[]) rfl ?_
        go_wp2_with fail
        refine (proof_sums A n c xs _ hn HSZ.out (tab_below (below_next BQ ((Below.refl wq.heap.size wq).drew)) HT.out) (Kd.C_below HH.out (below_next BQ ((Below.refl wq.heap.size wq).drew)))).mono ?_
        rintro e w5 ⟨v5, rfl, R5, hw5⟩
        go_wp2_with fail
        have Bw5 : Below wq.heap.size wq w5 := below_next ((Below.refl wq.heap.size wq).drew) hw5
        refine ⟨fun _ => Bw5, ?_⟩
        refine p_list (ops := #[]) rfl ?_
        go_wp2_with fail
        refine ⟨fun _ => (Bw5).alloc (Bw5).size _, ?_⟩
        have hg := Bw5.size
        have hb5 := heap_alloc_is w5 (Obj.cells #[Value.int .i64 0, .slice none 0 0] 27) w5.heap.size rfl
        refine p_store rfl rfl rfl (there_block hb5 0 2 (Nat.le_refl _)) Tryd.infoPf (one2 rfl rfl) (fun _ => below_setCells _ _ _ (below_alloc Bw5 _) hg) ?_
        simp only [Act.put, List.setIfInBounds_toArray, List.set_cons_zero, List.set_cons_succ, Array.toArray_toList]
        apply p_q
        focus (intro w' hb; go_simp <;> rfl)
        simp only [Act.put, List.setIfInBounds_toArray, List.set_cons_zero, List.set_cons_succ, Array.toArray_toList]
        refine p_end ?_
        obtain ⟨A3, c3, rfl, _, _⟩ := Kd.R_reads R5
        have hl := sums_length xs
        rw [HL.out] at hl
        have R6 := R_set2 (Kd.R_alloc R5 (Obj.cells #[Value.int .i64 0, .slice none 0 0] 27)) hb5 hashE (.int .i64 n) (.slice none 0 0)
        rw [hl] at R6 ⊢
        have R7 := Kd.R_lower (base' := wq.heap.size) R6 (Nat.le_refl _)
        have hb6 := block_set2 hb5 (.int .i64 n) (.slice none 0 0)
        have BB := below_setCells w5.heap.size [.int .i64 n, .slice none 0 0] 0 (below_alloc Bw5 (Obj.cells #[Value.int .i64 0, .slice none 0 0] 27)) hg
        clear hl R5 R6 hb5
        go_wp2
        go_meet
        case rel => exact ⟨_, _, _, rfl, rfl, hg, hb6, R7, BB⟩
      · skip
        refine p_list (ops := #[]) rfl ?_
        go_wp2_with fail
        refine ⟨fun _ => ((Below.refl wq.heap.size wq).drew).alloc ((Below.refl wq.heap.size wq).drew).size _, ?_⟩
        have hb5 : (wq.alloc (Obj.cells #[Value.int .i64 0, .slice none 0 0] 27)).drew.heap[wq.heap.size]? = some (Obj.cells #[Value.int .i64 0, .slice none 0 0] 27 (0, 0)) := heap_alloc_is wq _ _ rfl
        have hg : wq.heap.size ≤ wq.heap.size := Nat.le_refl _
        generalize hE : (wq.alloc (Obj.cells #[Value.int .i64 0, .slice none 0 0] 27)).drew = w5' at hb5 ⊢
        have hbw : Below wq.heap.size wq w5' := by rw [← hE]; exact (below_alloc (Below.refl wq.heap.size wq) _).drew
        refine p_list (ops := #[]) rfl ?_
        go_wp2_with fail
        refine (proof_sums A n c xs _ hn HSZ.out (tab_below (below_next BQ (hbw)) HT.out) (Kd.C_below HH.out (below_next BQ (hbw)))).mono ?_
        rintro e w5 ⟨v5, rfl, R5, hw5⟩
        go_wp2_with fail
        have Bw5 : Below wq.heap.size wq w5 := below_next (hbw) hw5
        refine ⟨fun _ => Bw5, ?_⟩
        have hb6 := block_below hw5 hb5
        refine p_store rfl rfl rfl (there_block hb6 0 2 (Nat.le_refl _)) Tryd.infoPf (one2 rfl rfl) (fun _ => below_setCells _ _ _ Bw5 hg) ?_
        simp only [Act.put, List.setIfInBounds_toArray, List.set_cons_zero, List.set_cons_succ, Array.toArray_toList]
        apply p_q
        focus (intro w' hb; go_simp <;> rfl)
        simp only [Act.put, List.setIfInBounds_toArray, List.set_cons_zero, List.set_cons_succ, Array.toArray_toList]
        refine p_end ?_
        obtain ⟨A3, c3, rfl, _, _⟩ := Kd.R_reads R5
        have hl := sums_length xs
        rw [HL.out] at hl
        have R6 := R_set2 R5 hb6 hashE (.int .i64 n) (.slice none 0 0)
        rw [hl] at R6 ⊢
        have R7 := Kd.R_lower R6 hbw.size
        have hb7 := block_set2 hb6 (.int .i64 n) (.slice none 0 0)
        have BB := below_setCells wq.heap.size [.int .i64 n, .slice none 0 0] 0 Bw5 hg
        clear hl R5 R6 hb5 hb6 hE
        go_wp2
        go_meet
        case rel => exact ⟨_, _, _, rfl, rfl, hg, hb7, R7, BB⟩
    obtain ⟨g, A3, c3, rfl, rfl, hgq, b8, R8, hbc⟩ := hcut
    have B8 := below_next BQ hbc
    have p0 := block_below hbc n0
    have p2 := block_below hbc n2
    have S8 := Kd.R_lower R8 BQ.size
    have hgl : w.heap.size + 1 + 1 < g := Nat.lt_of_lt_of_le (Array.getElem?_eq_some_iff.1 n2).1 hgq
    clear n0 n2 f0 R8 hbc HSZ HG
    go_wp2
    go_loopg [10] (tt - fr) (fun gg i wr => ∃ (j : Nat) (v : Value), j + gg = tt ∧ fr ≤ j ∧ i = .int .i64 (j : Int) ∧ wr.heap[g]? = some (.cells #[.int .i64 n, v] 27 (0, 0)) ∧ wr.heap[w.heap.size]? = some (.cells #[.slice A n c] 31 (0, 0)) ∧
        wr.heap[w.heap.size + 1 + 1]? = some (.cells #[.int .i64 0, .slice none 0 0] 27 (0, 0)) ∧ kLf.R 114 wr w.heap.size yes v (lv xs fr (j - fr)) ∧ kH.R 24 wr w.heap.size yes (.slice A3 n c3) (sums xs) ∧ Below w.heap.size w wr)
    case atStart => exact ⟨fr, _, by omega, Nat.le_refl _, rfl, b8, p0, p2, by rw [Nat.sub_self]; exact Kd.R_nil _ _ _ _ _, S8, B8⟩
    case round =>
      obtain ⟨j, v, hj, hfj, rfl, q8, q0, q2, hR, hS, hb⟩ := hrel
      by_cases hlt : j < tt
      · obtain ⟨ad, hA, x0, x1⟩ := kP_at HH.out j (by omega)
        subst hA
        have HLF := leafAt_eq xs j
        obtain ⟨x, hx⟩ : ∃ x, x = xs.getD j dP := ⟨_, rfl⟩
        rw [← hx] at x0 x1 HLF
        obtain ⟨-, hc3, C3⟩ := Kd.R_reads' hS
        rw [sums_length, HL.out] at C3
        have hne0 : some w.heap.size ≠ v.ownBlock := Kd.R_ne hR q0 (by decide)
        have hne8 : some g ≠ v.ownBlock := Kd.R_ne hR q8 (by decide)
        have e0 : wr.cell? ⟨w.heap.size, 0, none⟩ = some (.slice (some ad) n c) ∧ some (⟨w.heap.size, 0, none⟩ : Addr).block ≠ v.ownBlock := ⟨cell_block q0 0 rfl, hne0⟩
        have e8 : wr.cell? ⟨g, 1, none⟩ = some v ∧ some (⟨g, 1, none⟩ : Addr).block ≠ v.ownBlock := ⟨cell_block q8 1 rfl, hne8⟩
        have hlen : ((lv xs fr (j - fr)).length + 1) * 64 ≤ 140737488355328 := by rw [lv_length]; omega
        have HLX := Lib.hid HLF
        have HN := Lib.hid hlen
        have HC3 := Lib.hid C3
        have HCC3 := Lib.hid hc3
        have HFM := Lib.hid hft
        have HX8 := Lib.hid q8
        have HX0 := Lib.hid q0
        have HX2 := Lib.hid q2
        clear hx hlen C3 hc3 p0 p2 b8 S8 B8 HLF q8 q0 q2 hne0 hne8
        go_upto_region 11 with (fail)
        refine wp_num (fun w' => Gr w wr v.ownBlock w') [0, 1, 2, 3, 4, 5, 6, 7, 8, 9, 10, 11, 12, 13, 14, 16, 19] (.c (0, none, none) (.c (1, none, none) (.c (2, none, none) (.c (3, none, none) (.c (4, none, none) (.c (5, none, none) (.c (6, none, none) (.c (7, none, none) (.c (8, none, none) (.c (9, none, none) (.c (10, none, none) (.c (11, none, none) (.c (12, none, none) (.c (13, none, none) (.c (14, none, none) (.c (15, some true, none) (.c (16, none, none) (.c (17, some true, none) (.c (18, some true, none) (.c (19, none, none) (.c (20, some false, none) (.nil)))))))))))))))))))))) (by kernel_rfl) (by kernel_rfl) (by kernel_rfl) (fun _ _ d _ _ h => by cases d <;> exact h) (by kernel_rfl) (Gr.start (row := v.ownBlock) hb) ?_
        simp only [selE, nthO]
        apply p_qL (ops0 := #[]) rfl rfl rfl (Nat.le_of_ble_eq_true rfl)
        focus (intro w' hb; go_wp2_with fail; refine ⟨rfl, ?_, rfl⟩; simp only [List.getElem?_toArray, List.getElem?_cons_zero, List.getElem?_cons_succ, Option.some.injEq]; rfl)
        simp only [Act.put, List.setIfInBounds_toArray, List.set_cons_zero, List.set_cons_succ, Array.toArray_toList]
        refine p_load1 rfl rfl (fun w' hb => by first | exact cell_below hb.2 (by assumption) | exact Gr.cell hb (by assumption)) Tryd.underlying25 rfl ?_
        simp only [Act.put, List.setIfInBounds_toArray, List.set_cons_zero, List.set_cons_succ, Array.toArray_toList]
        refine p_load1 rfl rfl (fun w' hb => by first | exact cell_below hb.2 (by assumption) | exact Gr.cell hb (by assumption)) Tryd.underlying31 rfl ?_
        simp only [Act.put, List.setIfInBounds_toArray, List.set_cons_zero, List.set_cons_succ, Array.toArray_toList]
        apply p_q
        focus (intro w' hb; go_simp <;> rfl)
        simp only [Act.put, List.setIfInBounds_toArray, List.set_cons_zero, List.set_cons_succ, Array.toArray_toList]
        apply p_qL (ops0 := #[]) rfl rfl rfl (Nat.le_of_ble_eq_true rfl)
        focus (intro w' hb; go_wp2_with fail; refine ⟨rfl, ?_, rfl⟩; simp only [List.getElem?_toArray, List.getElem?_cons_zero, List.getElem?_cons_succ, Option.some.injEq]; rfl)
        simp only [Act.put, List.setIfInBounds_toArray, List.set_cons_zero, List.set_cons_succ, Array.toArray_toList]
        apply p_qL (ops0 := #[]) rfl rfl rfl (Nat.le_of_ble_eq_true rfl)
        focus (intro w' hb; go_wp2_with fail; refine ⟨rfl, ?_, rfl⟩; simp only [List.getElem?_toArray, List.getElem?_cons_zero, List.getElem?_cons_succ, Option.some.injEq]; rfl)
        simp only [Act.put, List.setIfInBounds_toArray, List.set_cons_zero, List.set_cons_succ, Array.toArray_toList]
        refine p_load1 rfl rfl (fun w' hb => by first | exact cell_below hb.2 (by assumption) | exact Gr.cell hb (by assumption)) Tryd.underlying9 rfl ?_
        simp only [Act.put, List.setIfInBounds_toArray, List.set_cons_zero, List.set_cons_succ, Array.toArray_toList]
        refine p_load1 rfl rfl (fun w' hb => by first | exact cell_below hb.2 (by assumption) | exact Gr.cell hb (by assumption)) Tryd.underlying31 rfl ?_
        simp only [Act.put, List.setIfInBounds_toArray, List.set_cons_zero, List.set_cons_succ, Array.toArray_toList]
        apply p_q
        focus (intro w' hb; go_simp <;> rfl)
        simp only [Act.put, List.setIfInBounds_toArray, List.set_cons_zero, List.set_cons_succ, Array.toArray_toList]
        apply p_qL (ops0 := #[]) rfl rfl rfl (Nat.le_of_ble_eq_true rfl)
        focus (intro w' hb; go_wp2_with fail; refine ⟨rfl, ?_, rfl⟩; simp only [List.getElem?_toArray, List.getElem?_cons_zero, List.getElem?_cons_succ, Option.some.injEq]; rfl)
        simp only [Act.put, List.setIfInBounds_toArray, List.set_cons_zero, List.set_cons_succ, Array.toArray_toList]
        apply p_qL (ops0 := #[]) rfl rfl rfl (Nat.le_of_ble_eq_true rfl)
        focus (intro w' hb; go_wp2_with fail; refine ⟨rfl, ?_, rfl⟩; simp only [List.getElem?_toArray, List.getElem?_cons_zero, List.getElem?_cons_succ, Option.some.injEq]; rfl)
        simp only [Act.put, List.setIfInBounds_toArray, List.set_cons_zero, List.set_cons_succ, Array.toArray_toList]
        refine p_load1 rfl rfl (fun w' hb => by first | exact cell_below hb.2 (by assumption) | exact Gr.cell hb (by assumption)) Tryd.underlying9 rfl ?_
        simp only [Act.put, List.setIfInBounds_toArray, List.set_cons_zero, List.set_cons_succ, Array.toArray_toList]
        apply p_q
        focus (intro w' hb; go_simp <;> rfl)
        simp only [Act.put, List.setIfInBounds_toArray, List.set_cons_zero, List.set_cons_succ, Array.toArray_toList]
        apply p_q
        focus (intro w' hb; go_simp <;> rfl)
        simp only [Act.put, List.setIfInBounds_toArray, List.set_cons_zero, List.set_cons_succ, Array.toArray_toList]
        apply p_q
        focus (intro w' hb; go_simp <;> rfl)
        simp only [Act.put, List.setIfInBounds_toArray, List.set_cons_zero, List.set_cons_succ, Array.toArray_toList]
        refine p_list (ops := #[]) rfl ?_
        go_wp2_with fail
        refine (tree_WayS n j A3 c3 (sums xs) _ (by omega) hn HCC3.out (tab_below (Gr.start (row := v.ownBlock) hb).2 HT.out) (Kd.C_below HC3.out (Below.refl _ _).drew)).mono ?_
        rintro e w5 ⟨A5, c5, rfl, R5, hw5⟩
        go_wp2_with fail
        have Bw5 : Gr w wr v.ownBlock w5 := Gr.next (Gr.start (row := v.ownBlock) hb) hw5
        refine ⟨fun _ => Bw5, ?_⟩
        apply p_q
        focus (intro w' hb; go_simp <;> rfl)
        simp only [Act.put, List.setIfInBounds_toArray, List.set_cons_zero, List.set_cons_succ, Array.toArray_toList]
        have BW : Below wr.heap.size wr w5 := below_next (Below.refl _ _).drew hw5
        have hM := lf_M (x := ⟨x.key, x.val, (j : Int), way (sums xs) j⟩) R5 (Kd.R_drew hR) hb.size
        have R5' := Kd.R_below hR BW
        refine p_list (ops := #[]) rfl ?_
        refine l_lit1K rfl rfl rfl (show _ = 4 from rfl) (by decide) (by decide) (by decide) Tryd.underlying25 Tryd.infoL rfl ?_
        refine ⟨fun _ => Gr.alloc Bw5 _, ?_⟩
        refine p_list (ops := #[]) rfl ?_
        refine l_appendK kLf (w0 := w) (base := w.heap.size) (W := w5) (p := ⟨x.key, x.val, (j : Int), way (sums xs) j⟩) R5' Bw5.2 Bw5.2.size rfl rfl Tryd.underlying25 Tryd.infoL rfl (by decide) (by decide) rfl rfl hM HN.out ?_
        intro v1 w6 R6 B6 G6
        obtain ⟨A7, l7, c7, rfl⟩ : ∃ A l c, v1 = .slice A l c := by
          obtain ⟨A, c, h⟩ := Kd.R_slice R6
          exact ⟨A, _, c, h⟩
        refine ⟨fun _ => Gr.grown Bw5 G6 B6, ?_⟩
        have b6 := block_grown R5' G6 (block_below BW HX8.out) (by decide)
        have f6 := cell_block b6 1 (v := v) rfl
        have z6 := frozen_block b6 1
        apply p_qL (ops0 := #[]) rfl rfl rfl (Nat.le_of_ble_eq_true rfl)
        focus (intro w' hb; go_wp2_with fail; refine ⟨rfl, ?_, rfl⟩; simp only [List.getElem?_toArray, List.getElem?_cons_zero, List.getElem?_cons_succ, Option.some.injEq]; rfl)
        simp only [Act.put, List.setIfInBounds_toArray, List.set_cons_zero, List.set_cons_succ, Array.toArray_toList]
        refine p_list (ops := #[]) rfl ?_
        go_wp2_with fail
        refine ⟨fun h => (by cases h), ?_⟩
        refine p_end ?_
        go_wp2
        go_roundg (gk - 1)
        case measure => omega
        case rel =>
          refine ⟨j + 1, .slice A7 l7 c7, by omega, by omega, by go_num, heap_setCell_same _ g 1 _ _ _ b6, ?_, ?_, ?_, ?_, B6.setCell (p := ⟨g, 1, none⟩) (by show w.heap.size ≤ g; omega) _⟩
          · rw [heap_setCell_other _ _ _ _ (show w.heap.size ≠ g by omega)]
            exact block_grown R5' G6 (block_below BW HX0.out) (by decide)
          · rw [heap_setCell_other _ _ _ _ (show w.heap.size + 1 + 1 ≠ g by omega)]
            exact block_grown R5' G6 (block_below BW HX2.out) (by decide)
          · rw [show j + 1 - fr = (j - fr) + 1 by omega, lv_succ, show fr + (j - fr) = j by omega, HLX.out]
            exact Kd.R_set R6 b6 leafE 1 _
          · exact Kd.R_set (Kd.R_over (Kd.R_below hS BW) R5' hashE2 G6) b6 hashE 1 _
      · obtain rfl : j = tt := by omega
        obtain ⟨A9, c9, rfl⟩ := Kd.R_slice hR
        have hR9 := R_set2 hR q2 leafE (.int .i64 n) (.slice A9 (lv xs fr (j - fr)).length c9)
        obtain ⟨-, hc9, C9⟩ := Kd.R_reads' hR9
        have hat : World.at_ wr ⟨g, 0, none⟩ [.int .i64 n, .slice A9 (lv xs fr (j - fr)).length c9] := row_at q8
        have T2 := there_block q2 0 2 (Nat.le_refl _)
        have HR9 := Lib.hid hR9
        have HC9 := Lib.hid C9
        have HCC9 := Lib.hid hc9
        clear hR9 C9 hc9 hR p0 p2 b8 S8 B8 q8 q0 q2
        go_wp2_with (first
          | (refine l_load rfl rfl rfl hat Tryd.underlying27 rfl Tryd.infoPf ?_)
          | (refine l_storeS rfl rfl rfl rfl rfl T2 Tryd.infoPf (one2 rfl rfl) ?_))
        refine ret_row (cs := [.int .i64 n, .slice A9 (lv xs fr (j - fr)).length c9]) rfl rfl (World.rangeAt_setCells_same _ _ _ _ T2) Tryd.underlying27 rfl Tryd.infoPf rfl ?_
        exact ⟨A9, c9, by rw [HM.out], by rw [HM.out]; exact HCC9.out, by rw [HM.out]; exact HC9.out, below_setCells _ _ _ hb (by omega), by rw [HM.out]; exact HR9.out⟩
end Go.Proofs.YtlkjeneffohnkaaDoor
