import Derived.Test.YtlkjeneffohnkaaDoorPf6
set_option linter.unusedVariables false
set_option linter.unusedSimpArgs false
namespace Go.Proofs.YtlkjeneffohnkaaDoor
open Go.RowKit Go.Proofs Go.Proofs.Plan Go.Proofs.YtlkjeneffohnkaaDoorW.PrintWords
set_option maxHeartbeats 2000000 in
set_option maxRecDepth 100000 in
theorem proof_Has (root : Bs) (r32 : root.size = 32) (p : Pf) (key val : Bs) (A : Option Addr) (c : Nat) (w : World) (ht : Tab w) (hc : p.leaves.length ≤ c) (h : kLf.C w A p.leaves.length p.leaves) :
    Calls Tryd.prog 25 #[.agg (hv root), .agg #[.int .i64 p.count, .slice A p.leaves.length c], .string key, .string val] w fun e w' => e = .returned (.bool (has root p key val)) ∧ Below w.heap.size w w' := by
  have HH := Lib.hid h
  have HT := Lib.hid ht
  clear h ht
  cases hval : value root p key with
  | none =>
    have hh : has root p key val = false := by unfold has; rw [hval]
    have HV := Lib.hid hval
    have HF := Lib.hid hh
    clear hval hh
    go_enter Tryd.func25, Tryd.ntmps25
    go_upto_region 1 with (fail)
    refine wp_rp ?_
    intro w1 B1 r1 p1
    go_wp2_with (first
      | (refine l_load rfl rfl rfl p1 Tryd.underlying27 rfl Tryd.infoPf ?_)
      | (refine l_loadH rfl rfl rfl r1 r32 Tryd.underlying24 Tryd.info24 ?_)
      | (go_at_call 23; refine (proof_Value root r32 p key A c _ (tab_below B1 HT.out) hc (Kd.C_below HH.out B1)).mono ?_; rintro e w2 ⟨rfl, hw2⟩; rw [HV.out]; simp only [vtup]))
    go_ret
    exact ⟨by rw [HF.out]; rfl, below_next B1 hw2⟩
  | some v =>
    have hh : has root p key val = (v.toList == val.toList) := by unfold has; rw [hval, eq_toList]
    have HV := Lib.hid hval
    have HF := Lib.hid hh
    clear hval hh
    go_enter Tryd.func25, Tryd.ntmps25
    go_upto_region 1 with (fail)
    refine wp_rp ?_
    intro w1 B1 r1 p1
    go_wp2_with (first
      | (refine l_load rfl rfl rfl p1 Tryd.underlying27 rfl Tryd.infoPf ?_)
      | (refine l_loadH rfl rfl rfl r1 r32 Tryd.underlying24 Tryd.info24 ?_)
      | (go_at_call 23; refine (proof_Value root r32 p key A c _ (tab_below B1 HT.out) hc (Kd.C_below HH.out B1)).mono ?_; rintro e w2 ⟨rfl, hw2⟩; rw [HV.out]; simp only [vtup]))
    go_ret
    exact ⟨by rw [HF.out]; rfl, below_next B1 hw2⟩
end Go.Proofs.YtlkjeneffohnkaaDoor
