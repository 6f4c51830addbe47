import Derived.Test.YtlkjeneffohnkaaDoorTreeW
import Derived.Test.YtlkjeneffohnkaaDoorLeb
set_option linter.unusedVariables false
set_option linter.unusedSimpArgs false
namespace Go.Proofs.YtlkjeneffohnkaaDoor
open Go.RowKit Go.Proofs Go.Proofs.Plan Go.Proofs.YtlkjeneffohnkaaDoorW.PrintWords
set_option maxHeartbeats 1000000 in
set_option maxRecDepth 100000 in
theorem tree_Leaf (k v : ByteArray) (hk : k.size ≤ 4294967296) (hv' : v.size ≤ 4294967296) (w : World) (ht : Tab w) : Calls Tryd.prog 122 #[.string k, .string v] w fun e w' => e = .returned (.agg (hv (leafH k v))) ∧ Below w.heap.size w w' := by
  have n32 : (leafH k v).size = 32 := sha_size _
  have HT := Lib.hid ht
  clear ht
  go_enter Tryd.func122, Tryd.ntmps122
  go_upto_region 1 with (fail)
  refine wp_res 32 rfl ?_
  intro w1 B1 T1 Z1
  have HZ := Lib.hid Z1
  clear Z1
  go_wp2_with (first
    | (go_at_call 118; refine (leb_Eight k.size (by omega) _).mono ?_; rintro e w2 ⟨rfl, hw2⟩)
    | (go_at_call 117; refine (sha_SumN w2 4 [⟨#[0]⟩, eight k.size, k, v] _ (tab_below (below_next B1 hw2) HT.out) (Nat.le_refl _) (by simp) (by simp [eight_size]; have : (ByteArray.mk #[0]).size = 1 := rfl; omega)).mono ?_; rintro e w4 ⟨rfl, hw4⟩; rw [cat_leaf])
    | (refine l_storeH rfl rfl rfl rfl (there_below hw4 (World.there_alloc (there_below hw2 T1) _)) n32 Tryd.info24 ?_))
  exact ret_H rfl rfl (there_below hw4 (World.there_alloc (there_below hw2 T1) _)) n32 Tryd.underlying24 Tryd.info24 rfl ⟨rfl, below_setCells _ _ _ (below_next (below_alloc (below_next B1 hw2) _) hw4) (by omega)⟩
set_option maxHeartbeats 1000000 in
set_option maxRecDepth 100000 in
theorem tree_Root (n : Nat) (hn : n ≤ 1073741824) (t : ByteArray) (t32 : t.size = 32) (w : World) (ht : Tab w) : Calls Tryd.prog 76 #[.int .i64 n, .agg (hv t)] w fun e w' => e = .returned (.agg (hv (rootH n t))) ∧ Below w.heap.size w w' := by
  have n32 : (rootH n t).size = 32 := sha_size _
  have c0 : ((n : Int) < 0) = False := by simp
  have c1 : (1073741824 < (n : Int)) = False := by simp; omega
  have HT := Lib.hid ht
  clear ht
  go_enter Tryd.func76, Tryd.ntmps76
  go_upto_region 1 with (fail)
  refine wp_Hr 32 rfl ?_
  intro w1 B1 r1 T1 Z1
  have HZ := Lib.hid Z1
  clear Z1
  go_upto_region 3 with (fail)
  refine wp_num (fun w' => Below w1.heap.size w1 w') [0, 2] (.c (0, none, none) (.c (2, none, none) (.c (1, some true, none) (.c (3, some true, none) (.c (4, some true, none) (.c (5, some true, none) (.c (6, some false, none) (.nil)))))))) (by kernel_rfl) (by kernel_rfl) (by kernel_rfl) (fun _ _ d _ _ h => by cases d <;> exact h) (by kernel_rfl) ((Below.refl _ _).drew) ?_
  simp only [selE, nthO]
  apply p_q
  focus (intro w' hb; go_simp <;> rfl)
  simp only [Act.put, List.setIfInBounds_toArray, List.set_cons_zero, List.set_cons_succ, Array.toArray_toList]
  refine p_loadH rfl rfl (fun w' hb => at_below hb (by assumption)) (by assumption) Tryd.underlying24 Tryd.info24 ?_
  simp only [Act.put, List.setIfInBounds_toArray, List.set_cons_zero, List.set_cons_succ, Array.toArray_toList]
  refine p_list (ops := #[]) rfl ?_
  go_wp2_with fail
  refine (leb_Eight n (by omega) _).mono ?_
  rintro e w2 ⟨rfl, hw2⟩
  go_wp2_with fail
  have Bw2 : Below w1.heap.size w1 w2 := below_next ((Below.refl w1.heap.size w1).drew) hw2
  refine ⟨fun _ => Bw2, ?_⟩
  refine p_list (ops := #[]) rfl ?_
  go_wp2_with fail
  refine (sha_Text t t32 _).mono ?_
  rintro e w3 ⟨rfl, hw3⟩
  go_wp2_with fail
  have Bw3 : Below w1.heap.size w1 w3 := below_next (Bw2) hw3
  refine ⟨fun _ => Bw3, ?_⟩
  refine p_list (ops := #[]) rfl ?_
  go_wp2_with fail
  refine ⟨fun _ => (Bw3).alloc (Bw3).size _, ?_⟩
  refine p_list (ops := #[]) rfl ?_
  go_wp2_with fail
  refine (sha_SumN w3 3 [⟨#[2]⟩, eight n, t] _ (tab_below (below_next B1 Bw3) HT.out) (Nat.le_refl _) (by simp) (by simp [t32, eight_size]; decide)).mono ?_
  rintro e w4 ⟨rfl, hw4⟩
  go_wp2_with fail
  have Bw4 : Below w1.heap.size w1 w4 := below_next ((Bw3).alloc (Bw3).size _) hw4
  refine ⟨fun _ => Bw4, ?_⟩
  rw [cat_root]
  refine p_storeH rfl rfl rfl (there_below Bw4 T1) n32 Tryd.info24 (fun h => by cases h) ?_
  refine p_end ?_
  go_wp2
  exact ret_H rfl rfl (there_below Bw4 T1) n32 Tryd.underlying24 Tryd.info24 rfl ⟨rfl, below_setCells _ _ _ (below_next B1 Bw4) (by omega)⟩
end Go.Proofs.YtlkjeneffohnkaaDoor
