import Derived.Test.YtlkjeneffohnkaaDoorSha6
import Derived.Test.YtlkjeneffohnkaaDoorMo
import Derived.Lib.ItoaNum
set_option linter.unusedVariables false
set_option linter.unusedSimpArgs false
namespace Go.Proofs.YtlkjeneffohnkaaDoor
open Go.RowKit Go.Proofs Go.Proofs.Plan Go.Proofs.YtlkjeneffohnkaaDoorW.PrintWords
set_option maxRecDepth 100000 in
theorem sha_Text (h : ByteArray) (hs : h.size = 32) (w : World) : Calls Tryd.prog 119 #[.agg (hv h)] w fun e w' => e = .returned (.string h) ∧ Below w.heap.size w w' := by
  have k1 := run_convert_hash (P := Tryd.prog) 157 5 Tryd.underlying157 Tryd.underlying5 w.heap.size 0 32 h 32 hs (range_alloc w h 24) 9 Tryd.underlying9
  go_enter Tryd.func119, Tryd.ntmps119
  go_wp2
  go_ret
  exact ⟨rfl, (Below.refl _ _).alloc (Nat.le_refl _) _⟩

theorem cat_node (a b : ByteArray) : sha (catL [⟨#[1]⟩, a, b]) = node a b := by simp [catL, node, nodeT]
theorem cat_root (n : Nat) (t : ByteArray) : sha (catL [⟨#[2]⟩, eight n, t]) = rootH n t := by simp [catL, rootH, rootT]
theorem cat_leaf (k v : ByteArray) : sha (catL [⟨#[0]⟩, eight k.size, k, v]) = leafH k v := by simp [catL, leafH, leafT]
theorem catL_size (l : List ByteArray) : (catL l).size = (l.map ByteArray.size).sum := by
  have := congrArg List.length (foldl_cat l ByteArray.empty)
  have e : (catL l).size = (catL l).data.toList.length := Lib.size_eq _
  rw [e]; unfold catL; rw [this, List.length_append, List.length_flatten, List.map_map]
  show 0 + _ = _
  rw [Nat.zero_add]; congr 1
/-- the sum of texts that have just been laid -/
theorem sha_SumN (w : World) (c : Nat) (l : List ByteArray) (t : TypeId) (ht : Tab w) (hc : l.length ≤ c) (hl : l.length ≤ 1000) (hs : (l.map ByteArray.size).sum ≤ 1099511627776) : Calls Tryd.prog 117 #[.slice (some ⟨w.heap.size, 0, none⟩) l.length c] (w.alloc (.cells (l.map Value.string).toArray t)) fun e w' => e = .returned (.agg (hv (sha (catL l)))) ∧ Below (w.alloc (.cells (l.map Value.string).toArray t)).heap.size (w.alloc (.cells (l.map Value.string).toArray t)) w' :=
  sha_Sum w.heap.size c l _ (tab_below (below_alloc (Below.refl _ _) _) ht) (range_new _ _ _) (by simp) hc hl (by rw [catL_size]; exact hs)
set_option maxRecDepth 100000 in
theorem tree_Node (a b : ByteArray) (ha : a.size = 32) (hb : b.size = 32) (w : World) (ht : Tab w) : Calls Tryd.prog 121 #[.agg (hv a), .agg (hv b)] w fun e w' => e = .returned (.agg (hv (node a b))) ∧ Below w.heap.size w w' := by
  have n32 : (node a b).size = 32 := sha_size _
  go_enter Tryd.func121, Tryd.ntmps121
  go_upto_region 1 with (fail)
  refine wp_HHr 32 rfl ?_
  intro w1 B1 r0 r1 T1 Z1
  refine wp_num (fun w' => Below w1.heap.size w1 w') [0, 2] (.c (0, none, none) (.c (2, none, none) (.c (1, some true, none) (.c (3, some true, none) (.c (4, some true, none) (.c (5, some true, none) (.c (6, some false, none) (.nil)))))))) (by kernel_rfl) (by kernel_rfl) (by kernel_rfl) (fun _ _ d _ _ h => by cases d <;> exact h) (by kernel_rfl) ((Below.refl _ _).drew) ?_
  simp only [selE, nthO]
  refine p_loadH rfl rfl (fun w' hb => at_below hb (by assumption)) (by assumption) Tryd.underlying24 Tryd.info24 ?_
  simp only [Act.put, List.setIfInBounds_toArray, List.set_cons_zero, List.set_cons_succ, Array.toArray_toList]
  refine p_loadH rfl rfl (fun w' hb => at_below hb (by assumption)) (by assumption) Tryd.underlying24 Tryd.info24 ?_
  simp only [Act.put, List.setIfInBounds_toArray, List.set_cons_zero, List.set_cons_succ, Array.toArray_toList]
  refine p_list (ops := #[]) rfl ?_
  go_wp2_with fail
  refine (sha_Text a ha _).mono ?_
  rintro e w2 ⟨rfl, hw2⟩
  go_wp2_with fail
  have Bw2 : Below w1.heap.size w1 w2 := below_next ((Below.refl w1.heap.size w1).drew) hw2
  refine ⟨fun _ => Bw2, ?_⟩
  refine p_list (ops := #[]) rfl ?_
  go_wp2_with fail
  refine (sha_Text b hb _).mono ?_
  rintro e w3 ⟨rfl, hw3⟩
  go_wp2_with fail
  have Bw3 : Below w1.heap.size w1 w3 := below_next (Bw2) hw3
  refine ⟨fun _ => Bw3, ?_⟩
  refine p_list (ops := #[]) rfl ?_
  go_wp2_with fail
  refine ⟨fun _ => (Bw3).alloc (Bw3).size _, ?_⟩
  refine p_list (ops := #[]) rfl ?_
  go_wp2_with fail
  refine (sha_SumN w3 3 [⟨#[1]⟩, a, b] _ (tab_below (below_next B1 Bw3) ht) (Nat.le_refl _) (by simp) (by simp [ha, hb]; decide)).mono ?_
  rintro e w4 ⟨rfl, hw4⟩
  go_wp2_with fail
  have Bw4 : Below w1.heap.size w1 w4 := below_next ((Bw3).alloc (Bw3).size _) hw4
  refine ⟨fun _ => Bw4, ?_⟩
  rw [cat_node]
  refine p_storeH rfl rfl rfl (there_below Bw4 T1) n32 Tryd.info24 (fun h => by cases h) ?_
  refine p_end ?_
  go_wp2
  exact ret_H rfl rfl (there_below Bw4 T1) n32 Tryd.underlying24 Tryd.info24 rfl ⟨rfl, below_setCells _ _ _ (below_next B1 Bw4) (by omega)⟩
theorem bitLen_log2 (n : Nat) (h0 : n ≠ 0) (h : n < 2 ^ 64) : Lib.bitLen n = Nat.log2 n + 1 := by
  obtain ⟨h1, h2, h3⟩ := Lib.bitLenAux_bounds 64 n h h0
  show Lib.bitLenAux 64 n = _
  generalize Lib.bitLenAux 64 n = k at h1 h2 h3
  have a := Nat.log2_self_le h0
  have b := Nat.lt_log2_self (n := n)
  have c : k - 1 < Nat.log2 n + 1 := (Nat.pow_lt_pow_iff_right (by omega)).1 (Nat.lt_of_le_of_lt h2 b)
  have d : Nat.log2 n < k := (Nat.pow_lt_pow_iff_right (a := 2) (by omega)).1 (Nat.lt_of_le_of_lt a h3)
  omega
theorem half_le (n : Nat) (h : 2 ≤ n) (hn : n ≤ 1073741824) : Nat.log2 (n - 1) ≤ 29 := by
  have := (Nat.log2_lt (n := n - 1) (k := 30) (by omega)).2 (by omega)
  omega
set_option maxRecDepth 100000 in
theorem tree_HalfP (n : Nat) (h2 : 2 ≤ n) (hn : n ≤ 1073741824) (w : World) : Calls Tryd.prog 120 #[.int .i64 n] w fun e w' => e = .returned (.int .i64 ((half n : Nat) : Int)) ∧ w = w' := by
  have c0 : ((n : Int) < 2) = False := by simp; omega
  have c1 : (1073741824 < (n : Int)) = False := by simp; omega
  have hb := Tryd.bits_Len ((n : Int) - 1)
  have e1 : ((n : Int) - 1).toNat = n - 1 := by omega
  rw [e1, bitLen_log2 (n - 1) (by omega) (by omega)] at hb
  have hl := half_le n h2 hn
  have HB := Lib.hid hb
  have hh : half n = 2 ^ Nat.log2 (n - 1) := rfl
  have HH := Lib.hid hh
  clear hb hh
  generalize Nat.log2 (n - 1) = k at HB HH hl
  go_enter Tryd.func120, Tryd.ntmps120
  go_wp2_with (first | (go_at_call 151; refine (HB.out _ (by omega) (by omega)).mono ?_; rintro e w2 ⟨rfl, rfl⟩))
  have hp : 2 ^ k ≤ 2 ^ 29 := Nat.pow_le_pow_right (by omega) hl
  have e2 : wrap64 (2 ^ k) = ((2 ^ k : Nat) : Int) := by
    have hc : (2 : Int) ^ k = ((2 ^ k : Nat) : Int) := by rw [Int.natCast_pow]; rfl
    have hp' : 2 ^ k ≤ 536870912 := hp
    rw [hc]
    clear hc
    generalize 2 ^ k = m at hp' ⊢
    unfold wrap64
    omega
  go_ret
  exact ⟨by rw [HH.out, e2]; rfl, rfl⟩
theorem tree_Half (n : Nat) (h2 : 2 ≤ n) (hn : n ≤ 1073741824) (w : World) : Calls Tryd.prog 120 #[.int .i64 n] w fun e w' => e = .returned (.int .i64 ((half n : Nat) : Int)) ∧ Below w.heap.size w w' := by
  refine (tree_HalfP n h2 hn w).mono ?_
  rintro e w' ⟨rfl, rfl⟩
  exact ⟨rfl, Below.refl _ _⟩
set_option maxRecDepth 100000 in
theorem tree_Top1 (A : Option Addr) (c : Nat) (xs : List ByteArray) (w : World) (h : kH.C w A 1 xs) : Calls Tryd.prog 77 #[.slice A 1 c] w fun e w' => e = .returned (.agg (hv (xs.getD 0 hz))) ∧ Below w.heap.size w w' := by
  obtain ⟨ad, rfl, hat, h32⟩ := kH_get h 0 (by omega)
  rw [show ad.add (0 * 32) = ad from rfl] at hat
  go_enter Tryd.func77, Tryd.ntmps77
  go_upto_region 1 with (fail)
  refine wp_res 32 rfl ?_
  intro w1 B1 T1 Z1
  go_wp2_with (first
    | (refine l_loadH rfl rfl rfl (at_below B1 hat) h32 Tryd.underlying24 Tryd.info24 ?_)
    | (refine l_storeH rfl rfl rfl rfl T1 h32 Tryd.info24 ?_))
  exact ret_H rfl rfl T1 h32 Tryd.underlying24 Tryd.info24 rfl ⟨rfl, below_setCells _ _ _ B1 (by omega)⟩
set_option maxHeartbeats 2000000 in
set_option maxRecDepth 100000 in
theorem tree_Top0 (A : Option Addr) (c : Nat) (w : World) : Calls Tryd.prog 77 #[.slice A 0 c] w fun e w' => e = .returned (.agg (hv hz)) ∧ Below w.heap.size w w' := by
  go_enter Tryd.func77, Tryd.ntmps77
  go_upto_region 1 with (fail)
  refine wp_res 32 rfl ?_
  intro w1 B1 T1 Z1
  go_upto_region 3 with (fail)
  refine wp_region_lit ?_
  iterate 3 go_step
  rw [z32_eq]
  generalize hO : hz = O
  have O32 : O.size = 32 := by rw [← hO]; rfl
  have HO := Lib.hid hO
  clear hO
  refine l_storeH rfl rfl rfl rfl T1 O32 Tryd.info24 ?_
  go_wp2
  exact ret_H rfl rfl T1 O32 Tryd.underlying24 Tryd.info24 rfl ⟨by rw [HO.out], below_setCells _ _ _ B1 (by omega)⟩
theorem kH_sizes {w : World} {A : Option Addr} {n : Nat} {xs : List ByteArray} (h : kH.C w A n xs) : ∀ x ∈ xs, x.size = 32 := by
  intro x hx
  obtain ⟨i, hi, rfl⟩ := List.mem_iff_getElem.1 hx
  have := h.1
  obtain ⟨_, _, _, h32⟩ := kH_get h i (by omega)
  simpa [List.getD, List.getElem?_eq_getElem hi] using h32
set_option maxRecDepth 100000 in
theorem tree_Top : ∀ (n : Nat) (A : Option Addr) (c : Nat) (xs : List ByteArray) (w : World), Tab w → kH.C w A n xs → n ≤ c → n ≤ 1073741824 → Calls Tryd.prog 77 #[.slice A n c] w fun e w' => e = .returned (.agg (hv (top xs))) ∧ Below w.heap.size w w' := by
  intro n
  induction n using Nat.strongRecOn with
  | _ n ih =>
    intro A c xs w ht h hc hn
    have hl := h.1
    by_cases h0 : n = 0
    · subst h0
      obtain rfl : xs = [] := List.length_eq_zero_iff.1 hl
      rw [show top [] = hz by rw [top]; rfl]
      exact tree_Top0 A c w
    by_cases h1 : n = 1
    · subst h1
      rw [show top xs = xs.getD 0 hz by rw [top, dif_pos (by omega)]; cases xs <;> rfl]
      exact tree_Top1 A c xs w h
    have h2 : 2 ≤ n := by omega
    have hk := half_lt h2
    have hkp := half_pos n
    have hs := kH_sizes h
    have s1 := top_size (xs.take (half n)) (fun x hx => hs x (List.mem_of_mem_take hx))
    have s2 := top_size (xs.drop (half n)) (fun x hx => hs x (List.mem_of_mem_drop hx))
    have hfin : top xs = node (top (xs.take (half n))) (top (xs.drop (half n))) := by rw [top_ge (by omega), hl]
    have HF := Lib.hid hfin
    clear hfin
    have ct := cut_take (P := Tryd.prog) 112 24 .i64 32 Tryd.underlying112 Tryd.info24 A n c (half n) (by omega)
    obtain ⟨A2, cd, hA2⟩ := cut_drop (P := Tryd.prog) 112 24 .i64 32 Tryd.underlying112 Tryd.info24 A n c (half n) (by omega)
    have hC1 : kH.C w A (half n) (xs.take (half n)) := by
      have := Kd.C_take (m := half n) (by rw [hl]; exact h) (by omega)
      rwa [List.length_take, Nat.min_eq_left (by omega)] at this
    have hC2 := hA2 kH w xs rfl hc h
    have e0 : ((n : Int) == 0) = false := by simp; omega
    have e1 : ((n : Int) == 1) = false := by simp; omega
    have HI := Lib.hid ih
    clear ih hs
    have HL := Lib.hid hl
    clear hl
    go_enter Tryd.func77, Tryd.ntmps77
    go_upto_region 1 with (fail)
    refine wp_res 32 rfl ?_
    intro w1 B1 T1 Z1
    have HZ := Lib.hid Z1
    clear Z1
    go_wp2_with (first | (go_at_call 120; refine (tree_Half n h2 hn _).mono ?_; rintro e w2 ⟨rfl, hw2⟩))
    have hB2 := below_next B1 hw2
    refine wp_num (fun w' => Below w2.heap.size w2 w') [0, 1, 2, 4, 5, 6] (.c (0, none, none) (.c (1, none, none) (.c (2, none, none) (.c (4, none, none) (.c (5, none, none) (.c (6, none, none) (.c (3, some true, none) (.c (7, some true, none) (.c (8, some true, none) (.c (9, some false, none) (.nil))))))))))) (by kernel_rfl) (by kernel_rfl) (by kernel_rfl) (fun _ _ d _ _ h => by cases d <;> exact h) (by kernel_rfl) ((Below.refl _ _).drew) ?_
    simp only [selE, nthO]
    apply p_q
    focus (intro w' hb; go_simp <;> rfl)
    simp only [Act.put, List.setIfInBounds_toArray, List.set_cons_zero, List.set_cons_succ, Array.toArray_toList]
    apply p_q
    focus (intro w' hb; go_simp <;> rfl)
    simp only [Act.put, List.setIfInBounds_toArray, List.set_cons_zero, List.set_cons_succ, Array.toArray_toList]
    apply p_qL (ops0 := #[]) rfl rfl rfl (Nat.le_of_ble_eq_true rfl)
    focus (intro w' hb; go_wp2_with fail; refine ⟨rfl, ?_, rfl⟩; simp only [List.getElem?_toArray, List.getElem?_cons_zero, List.getElem?_cons_succ, Option.some.injEq]; rfl)
    simp only [Act.put, List.setIfInBounds_toArray, List.set_cons_zero, List.set_cons_succ, Array.toArray_toList]
    apply p_q
    focus (intro w' hb; go_simp <;> rfl)
    simp only [Act.put, List.setIfInBounds_toArray, List.set_cons_zero, List.set_cons_succ, Array.toArray_toList]
    apply p_q
    focus (intro w' hb; go_simp <;> rfl)
    simp only [Act.put, List.setIfInBounds_toArray, List.set_cons_zero, List.set_cons_succ, Array.toArray_toList]
    apply p_qL (ops0 := #[]) rfl rfl rfl (Nat.le_of_ble_eq_true rfl)
    focus (intro w' hb; go_wp2_with fail; refine ⟨rfl, ?_, rfl⟩; simp only [List.getElem?_toArray, List.getElem?_cons_zero, List.getElem?_cons_succ, Option.some.injEq]; rfl)
    simp only [Act.put, List.setIfInBounds_toArray, List.set_cons_zero, List.set_cons_succ, Array.toArray_toList]
    refine p_list (ops := #[]) rfl ?_
    go_wp2_with fail
    refine (HI.out (half n) hk A c _ _ (tab_below (below_next hB2 ((Below.refl w2.heap.size w2).drew)) ht) (Kd.C_below hC1 (below_next hB2 ((Below.refl w2.heap.size w2).drew))) (by omega) (by omega)).mono ?_
    rintro e w3 ⟨rfl, hw3⟩
    go_wp2_with fail
    have Bw3 : Below w2.heap.size w2 w3 := below_next ((Below.refl w2.heap.size w2).drew) hw3
    refine ⟨fun _ => Bw3, ?_⟩
    refine p_list (ops := #[]) rfl ?_
    go_wp2_with fail
    refine (HI.out (n - half n) (by omega) A2 (c - half n) _ _ (tab_below (below_next hB2 (Bw3)) ht) (Kd.C_below hC2 (below_next hB2 (Bw3))) (by omega) (by omega)).mono ?_
    rintro e w4 ⟨rfl, hw4⟩
    go_wp2_with fail
    have Bw4 : Below w2.heap.size w2 w4 := below_next (Bw3) hw4
    refine ⟨fun _ => Bw4, ?_⟩
    refine p_list (ops := #[]) rfl ?_
    go_wp2_with fail
    refine (tree_Node _ _ s1 s2 _ (tab_below (below_next hB2 (Bw4)) ht)).mono ?_
    rintro e w5 ⟨rfl, hw5⟩
    go_wp2_with fail
    have Bw5 : Below w2.heap.size w2 w5 := below_next (Bw4) hw5
    refine ⟨fun _ => Bw5, ?_⟩
    have n32 : (node (top (xs.take (half n))) (top (xs.drop (half n)))).size = 32 := sha_size _
    refine p_storeH rfl rfl rfl (there_below (below_next hw2 Bw5) T1) n32 Tryd.info24 (fun h => by cases h) ?_
    refine p_end ?_
    go_wp2
    refine ret_H rfl rfl (there_below (below_next hw2 Bw5) T1) n32 Tryd.underlying24 Tryd.info24 rfl ⟨by rw [HF.out], below_setCells _ _ _ (below_next hB2 Bw5) (by omega)⟩
end Go.Proofs.YtlkjeneffohnkaaDoor
