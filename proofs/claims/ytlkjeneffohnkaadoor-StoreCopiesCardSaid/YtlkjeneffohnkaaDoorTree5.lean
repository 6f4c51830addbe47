import Derived.Test.YtlkjeneffohnkaaDoorTree4
set_option linter.unusedVariables false
set_option linter.unusedSimpArgs false
namespace Go.Proofs.YtlkjeneffohnkaaDoor
open Go.RowKit Go.Proofs Go.Proofs.Plan Go.Proofs.YtlkjeneffohnkaaDoorW.PrintWords
theorem ret_Ht {P : Program} {fn : Func} {R : Ending → World → Prop} {a : Act} {w : World} {p ty t b o : Nat} {e : TypeId} {h : ByteArray} (hr : fn.results = #[.cell p ty, .tmp t])
    (hp : a.tmps[p]?.getD undef = .pointer (some ⟨b, o, none⟩)) {v : Value} (hvv : a.tmps[t]?.getD undef = v) (ht : w.there b o 32) (h32 : h.size = 32)
    (hu : P.underlying ty = some (.array 32 e)) (hi : (P.info? ty).map (·.size) = some 32) (hdf : a.defers = []) (hR : R (.returned (.tuple #[.agg (hv h), v])) (w.setCells b o (hc h))) : bodyPost P fn R .ret a (w.setCells b o (hc h)) := by
  refine bodyPost_ret (v := .tuple #[.agg (hv h), v]) ?_ hdf hR
  have hl := run_loadVar_mid (w.setCells b o (hc h)) b o ty (hc h) (.array 32 e) (World.rangeAt_setCells_same _ _ _ _ (by rw [hc_length h32]; exact ht)) hu rfl (by rw [hc_length h32]; exact hi)
  simp [results, hr, hp, hvv, asAddr, hl, hv]
set_option maxHeartbeats 1000000 in
set_option maxRecDepth 100000 in
theorem tree_Fold (n i m : Nat) (leaf : Bs) (A : Option Addr) (c : Nat) (p : List Bs) (w : World) (hi : i < n) (hn : n ≤ 1073741824) (hm : m = deep n i) (hc : m ≤ c) (h32 : leaf.size = 32) (ht : Tab w) (h : kH.C w A m p) :
    Calls Tryd.prog 126 #[.int .i64 n, .int .i64 i, .agg (hv leaf), .slice A m c] w fun e w' => e = .returned (.tuple #[.agg (hv (fold n i leaf p)), .bool true]) ∧ Below w.heap.size w w' := by
  have f32 := fold_size n i leaf p h32
  have e0 : ((m : Int) != ((deep n i : Nat) : Int)) = false := by rw [hm]; simp
  have HT := Lib.hid ht
  have HM := Lib.hid hm
  clear ht hm
  go_enter Tryd.func126, Tryd.ntmps126
  go_upto_region 1 with (fail)
  refine wp_Hr 32 rfl ?_
  intro w1 B1 r1 T1 Z1
  have HZ := Lib.hid Z1
  clear Z1
  go_wp2_with (first
    | (go_at_call 128; refine (tree_in n i hi hn _).mono ?_; rintro e w2 ⟨rfl, rfl⟩)
    | (go_at_call 88; refine (tree_Deep n i hi hn _).mono ?_; rintro e w2 ⟨rfl, rfl⟩)
    | (go_at_call 152; refine (tree_fold n i m leaf A c p _ hi hn HM.out hc h32 (tab_below B1 HT.out) (Kd.C_below h B1)).mono ?_; rintro e w2 ⟨rfl, hw2⟩)
    | (refine l_loadH rfl rfl rfl r1 h32 Tryd.underlying24 Tryd.info24 ?_)
    | (refine l_storeH rfl rfl rfl rfl (there_below hw2 T1) f32 Tryd.info24 ?_))
  exact ret_Ht rfl rfl rfl (there_below hw2 T1) f32 Tryd.underlying24 Tryd.info24 rfl ⟨rfl, below_setCells _ _ _ (below_next B1 hw2) (by omega)⟩
end Go.Proofs.YtlkjeneffohnkaaDoor
