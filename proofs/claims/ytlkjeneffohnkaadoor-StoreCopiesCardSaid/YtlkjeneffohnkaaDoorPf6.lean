import Derived.Test.YtlkjeneffohnkaaDoorPf5
set_option linter.unusedVariables false
set_option linter.unusedSimpArgs false
namespace Go.Proofs.YtlkjeneffohnkaaDoor
open Go.RowKit Go.Proofs Go.Proofs.Plan Go.Proofs.YtlkjeneffohnkaaDoorW.PrintWords
/-- loads behind a guard -/
theorem o_load {P : Program} {op : Oper} {a : Act} {w : World} {K : Act → World → Prop} {Q : Exit → Act → World → Prop} {ty : TypeId} {x : Operand} (ho : op.op = .load ty x)
    {ad : Addr} (hx : a.eval x = .pointer (some ad)) {cs : List Value} {d : TypeDesc} (hc : World.at_ w ad cs)
    (hu : P.underlying ty = some d) (hd : d.isRow = true) (hi : (P.info? ty).map (·.size) = some cs.length)
    (h : K (a.put op.dst (.agg cs.toArray)) w) : Oper.wp P op a w K Q := by
  unfold Oper.wp execOp
  simp only [ho, hx, Instr.loadAt, Instr.sureAddr, Sem.run_bind, Sem.run_pure, Result.andThen_ok, run_loadVar_at w ad ty cs d hc hu hd hi]
  exact h
theorem o_loadH {P : Program} {op : Oper} {a : Act} {w : World} {K : Act → World → Prop} {Q : Exit → Act → World → Prop} {ty e : TypeId} {x : Operand} {h : Bs} (ho : op.op = .load ty x)
    {ad : Addr} (hx : a.eval x = .pointer (some ad)) (hc' : World.at_ w ad (hc h)) (h32 : h.size = 32)
    (hu : P.underlying ty = some (.array 32 e)) (hi : (P.info? ty).map (·.size) = some 32) (k : K (a.put op.dst (.agg (hv h))) w) : Oper.wp P op a w K Q :=
  o_load ho hx hc' hu rfl (by rw [hc_length h32]; exact hi) k
theorem g_load {P : Program} {ops : Array Oper} {op : Oper} {a : Act} {w : World} {K : Act → World → Prop} {Q : Exit → Act → World → Prop} {ty : TypeId} {x : Operand} (ho : op.op = .load ty x)
    {ad : Addr} (hx : a.eval x = .pointer (some ad)) {cs : List Value} {d : TypeDesc} (hc : World.at_ w ad cs)
    (hu : P.underlying ty = some d) (hd : d.isRow = true) (hi : (P.info? ty).map (·.size) = some cs.length) (hw : Region.wanted op (yielded ops a.tmps) = true)
    (h : K (a.put op.dst (.agg cs.toArray)) w) : if Region.wanted op (yielded ops a.tmps) = true then Oper.wp P op a w K Q else K (a.put op.dst undef) w := by
  rw [if_pos hw]; exact o_load ho hx hc hu hd hi h
theorem g_loadH {P : Program} {ops : Array Oper} {op : Oper} {a : Act} {w : World} {K : Act → World → Prop} {Q : Exit → Act → World → Prop} {ty e : TypeId} {x : Operand} {h : Bs} (ho : op.op = .load ty x)
    {ad : Addr} (hx : a.eval x = .pointer (some ad)) (hc' : World.at_ w ad (hc h)) (h32 : h.size = 32)
    (hu : P.underlying ty = some (.array 32 e)) (hi : (P.info? ty).map (·.size) = some 32) (hw : Region.wanted op (yielded ops a.tmps) = true) (k : K (a.put op.dst (.agg (hv h))) w) : if Region.wanted op (yielded ops a.tmps) = true then Oper.wp P op a w K Q else K (a.put op.dst undef) w :=
  g_load ho hx hc' hu rfl (by rw [hc_length h32]; exact hi) hw k
theorem lg_load {P : Program} {ops : Array Oper} {rest : List Oper} {op : Oper} {a : Act} {w : World} {Q : Exit → Act → World → Prop} (hw : Region.wanted op (yielded ops a.tmps) = true) {ty : TypeId} {x : Operand} (ho : op.op = .load ty x)
    {ad : Addr} (hx : a.eval x = .pointer (some ad)) {cs : List Value} {d : TypeDesc} (hc : World.at_ w ad cs)
    (hu : P.underlying ty = some d) (hd : d.isRow = true) (hi : (P.info? ty).map (·.size) = some cs.length)
    (h : wpList P ops Q rest (a.put op.dst (.agg cs.toArray)) w) : wpList P ops Q (op :: rest) a w := by
  unfold wpList
  rw [if_pos hw]
  exact .inl (o_load ho hx hc hu hd hi h)
theorem lg_loadH {P : Program} {ops : Array Oper} {rest : List Oper} {op : Oper} {a : Act} {w : World} {Q : Exit → Act → World → Prop} (hw : Region.wanted op (yielded ops a.tmps) = true) {ty e : TypeId} {x : Operand} {h : Bs} (ho : op.op = .load ty x)
    {ad : Addr} (hx : a.eval x = .pointer (some ad)) (hc' : World.at_ w ad (hc h)) (h32 : h.size = 32)
    (hu : P.underlying ty = some (.array 32 e)) (hi : (P.info? ty).map (·.size) = some 32) (k : wpList P ops Q rest (a.put op.dst (.agg (hv h))) w) : wpList P ops Q (op :: rest) a w :=
  lg_load hw ho hx hc' hu rfl (by rw [hc_length h32]; exact hi) k
/-- what Value returns -/
def vtup : Option Bs → Value
  | some v => .tuple #[.string v, .bool true]
  | none => .tuple #[.string ByteArray.empty, .bool false]
theorem proof_MayB (p : Pf) (b : Bool) (hm : mayPf p = b) (A : Option Addr) (c : Nat) (w : World) (hc : p.leaves.length ≤ c) (h : kLf.C w A p.leaves.length p.leaves) :
    Calls Tryd.prog 30 #[.agg #[.int .i64 p.count, .slice A p.leaves.length c]] w fun e w' => e = .returned (.bool b) ∧ Below w.heap.size w w' := by
  subst hm; exact proof_May p A c w hc h
theorem proof_underB (root : Bs) (r32 : root.size = 32) (p : Pf) (hm : mayPf p = true) (b : Bool) (hu : p.leaves.all (stands root p.count) = b) (A : Option Addr) (c : Nat) (w : World) (ht : Tab w) (hc : p.leaves.length ≤ c) (h : kLf.C w A p.leaves.length p.leaves) :
    Calls Tryd.prog 86 #[.agg (hv root), .agg #[.int .i64 p.count, .slice A p.leaves.length c]] w fun e w' => e = .returned (.bool b) ∧ Below w.heap.size w w' := by
  subst hu; exact proof_under root r32 p hm A c w ht hc h
/-- a root and a proof as parameters -/
theorem wp_rp {c : Code} {Q : Exit → Act → World → Prop} {a : Act} {w : World} {root : Bs} {n : Int} {A : Option Addr} {l k : Nat}
    (h : ∀ w1, Below w.heap.size w w1 → World.at_ w1 ⟨w.heap.size, 0, none⟩ (hc root) → World.at_ w1 ⟨w.heap.size + 1, 0, none⟩ [.int .i64 n, .slice A l k] → c.wp Tryd.prog Q a w1) :
    c.wp Tryd.prog Q a ((w.alloc (.cells (hv root) 24)).alloc (.cells #[.int .i64 n, .slice A l k] 27)) := by
  have h0 := heap_alloc_is w (.cells (hv root) 24) w.heap.size rfl
  have h1 := heap_alloc_is (w.alloc (.cells (hv root) 24)) (.cells #[.int .i64 n, .slice A l k] 27) (w.heap.size + 1) (by simp)
  exact h _ (below_alloc (below_alloc (Below.refl _ _) _) _) (at_block (heap_alloc_at h0)) (row_at h1)
set_option maxHeartbeats 2000000 in
set_option maxRecDepth 100000 in
theorem proof_Value (root : Bs) (r32 : root.size = 32) (p : Pf) (key : Bs) (A : Option Addr) (c : Nat) (w : World) (ht : Tab w) (hc : p.leaves.length ≤ c) (h : kLf.C w A p.leaves.length p.leaves) :
    Calls Tryd.prog 23 #[.agg (hv root), .agg #[.int .i64 p.count, .slice A p.leaves.length c], .string key] w fun e w' => e = .returned (vtup (value root p key)) ∧ Below w.heap.size w w' := by
  have HH := Lib.hid h
  have HT := Lib.hid ht
  clear h ht
  by_cases hm : mayPf p = true
  · have HM := Lib.hid hm
    by_cases hl : p.leaves.length = 1
    · obtain ⟨x, hx⟩ := List.length_eq_one_iff.1 hl
      have hval : value root p key = if x.key = key ∧ stands root p.count x = true then some x.val else none := by unfold value; rw [if_pos hm, hx]
      obtain ⟨ad, B, c', rfl, hpc, hpath, hat⟩ := kLf_get HH.out 0 (by omega)
      rw [show ad.add (0 * 4) = ad from rfl, show p.leaves.getD 0 dL = x by rw [hx]; rfl] at hat
      have g0 : w.cell? ad = some (.string x.key) := at_cell hat 0 rfl
      have g1 : w.cell? ⟨ad.block, ad.off + 1, none⟩ = some (.string x.val) := at_cell hat 1 rfl
      have hul : p.leaves.all (stands root p.count) = stands root p.count x := by rw [hx]; simp
      have c1 : ((p.leaves.length : Int) != 1) = false := by rw [hl]; rfl
      have c2 : (0 < p.leaves.length) = True := eq_true (by omega)
      clear hm hx hpc hpath hat
      have HL := Lib.hid hl
      clear hl
      by_cases hk : x.key = key
      · have e1 : (x.key.toList == key.toList) = true := by rw [eq_toList]; exact decide_eq_true hk
        cases hs : stands root p.count x
        · rw [if_neg (by rw [hs]; simp)] at hval
          rw [hs] at hul
          have HV := Lib.hid hval
          have HU := Lib.hid hul
          clear hval hul hs hk
          go_enter Tryd.func23, Tryd.ntmps23
          go_upto_region 1 with (fail)
          refine wp_rp ?_
          intro w1 B1 r1 p1
          go_wp2_with (first
            | (refine l_load rfl rfl rfl p1 Tryd.underlying27 rfl Tryd.infoPf ?_)
            | (refine lg_load rfl rfl rfl p2 Tryd.underlying27 rfl Tryd.infoPf ?_)
            | (refine lg_loadH rfl rfl rfl r2 r32 Tryd.underlying24 Tryd.info24 ?_)
            | (go_at_call 30; refine (proof_MayB p true HM.out _ c _ hc (Kd.C_below HH.out B1)).mono ?_; rintro e w2 ⟨rfl, hw2⟩; have p2 := at_below hw2 p1; have r2 := at_below hw2 r1; have k0 := cell_below (below_next B1 hw2) g0; have k1 := cell_below (below_next B1 hw2) g1; have f0 : w2.cell? ⟨w.heap.size + 1, 0, none⟩ = some (.int .i64 p.count) := at_cell p2 0 rfl; have f1 : w2.cell? ⟨w.heap.size + 1, 1, none⟩ = some (.slice (some ad) p.leaves.length c) := at_cell p2 1 rfl)
            | (go_at_call 86; refine (proof_underB root r32 p HM.out false HU.out _ c _ (tab_below (below_next B1 hw2) HT.out) hc (Kd.C_below HH.out (below_next B1 hw2))).mono ?_; rintro e w3 ⟨rfl, hw3⟩; have k1 := cell_below hw3 k1; have f1 := cell_below hw3 f1))
          go_ret2
          exact ⟨by rw [HV.out]; rfl, below_next B1 (below_next hw2 hw3)⟩
        · rw [if_pos ⟨hk, hs⟩] at hval
          rw [hs] at hul
          have HV := Lib.hid hval
          have HU := Lib.hid hul
          clear hval hul hs hk
          go_enter Tryd.func23, Tryd.ntmps23
          go_upto_region 1 with (fail)
          refine wp_rp ?_
          intro w1 B1 r1 p1
          go_wp2_with (first
            | (refine l_load rfl rfl rfl p1 Tryd.underlying27 rfl Tryd.infoPf ?_)
            | (refine lg_load rfl rfl rfl p2 Tryd.underlying27 rfl Tryd.infoPf ?_)
            | (refine lg_loadH rfl rfl rfl r2 r32 Tryd.underlying24 Tryd.info24 ?_)
            | (go_at_call 30; refine (proof_MayB p true HM.out _ c _ hc (Kd.C_below HH.out B1)).mono ?_; rintro e w2 ⟨rfl, hw2⟩; have p2 := at_below hw2 p1; have r2 := at_below hw2 r1; have k0 := cell_below (below_next B1 hw2) g0; have k1 := cell_below (below_next B1 hw2) g1; have f0 : w2.cell? ⟨w.heap.size + 1, 0, none⟩ = some (.int .i64 p.count) := at_cell p2 0 rfl; have f1 : w2.cell? ⟨w.heap.size + 1, 1, none⟩ = some (.slice (some ad) p.leaves.length c) := at_cell p2 1 rfl)
            | (go_at_call 86; refine (proof_underB root r32 p HM.out true HU.out _ c _ (tab_below (below_next B1 hw2) HT.out) hc (Kd.C_below HH.out (below_next B1 hw2))).mono ?_; rintro e w3 ⟨rfl, hw3⟩; have k1 := cell_below hw3 k1; have f1 := cell_below hw3 f1))
          go_ret2
          exact ⟨by rw [HV.out]; rfl, below_next B1 (below_next hw2 hw3)⟩
      · have e1 : (x.key.toList == key.toList) = false := by rw [eq_toList]; exact decide_eq_false hk
        rw [if_neg (fun h => hk h.1)] at hval
        have HV := Lib.hid hval
        have HU := Lib.hid hul
        clear hval hul hk
        go_enter Tryd.func23, Tryd.ntmps23
        go_upto_region 1 with (fail)
        refine wp_rp ?_
        intro w1 B1 r1 p1
        go_wp2_with (first
          | (refine l_load rfl rfl rfl p1 Tryd.underlying27 rfl Tryd.infoPf ?_)
          | (refine lg_load rfl rfl rfl p2 Tryd.underlying27 rfl Tryd.infoPf ?_)
          | (refine lg_loadH rfl rfl rfl r2 r32 Tryd.underlying24 Tryd.info24 ?_)
          | (go_at_call 30; refine (proof_MayB p true HM.out _ c _ hc (Kd.C_below HH.out B1)).mono ?_; rintro e w2 ⟨rfl, hw2⟩; have p2 := at_below hw2 p1; have r2 := at_below hw2 r1; have k0 := cell_below (below_next B1 hw2) g0; have k1 := cell_below (below_next B1 hw2) g1; have f0 : w2.cell? ⟨w.heap.size + 1, 0, none⟩ = some (.int .i64 p.count) := at_cell p2 0 rfl; have f1 : w2.cell? ⟨w.heap.size + 1, 1, none⟩ = some (.slice (some ad) p.leaves.length c) := at_cell p2 1 rfl)
          | (go_at_call 86; refine (proof_underB root r32 p HM.out true HU.out _ c _ (tab_below (below_next B1 hw2) HT.out) hc (Kd.C_below HH.out (below_next B1 hw2))).mono ?_; rintro e w3 ⟨rfl, hw3⟩; have k1 := cell_below hw3 k1; have f1 := cell_below hw3 f1))
        go_ret2
        exact ⟨by rw [HV.out]; rfl, below_next B1 hw2⟩
    · have hval : value root p key = none := by
        unfold value; rw [if_pos hm]
        split
        · rename_i x hx; exact absurd (by rw [hx]; rfl) hl
        · rfl
      have HV := Lib.hid hval
      have c1 : ((p.leaves.length : Int) != 1) = true := by simp; omega
      clear hm hval hl
      go_enter Tryd.func23, Tryd.ntmps23
      go_upto_region 1 with (fail)
      refine wp_rp ?_
      intro w1 B1 r1 p1
      go_wp2_with (first
        | (refine l_load rfl rfl rfl p1 Tryd.underlying27 rfl Tryd.infoPf ?_)
        | (go_at_call 30; refine (proof_MayB p true HM.out A c _ hc (Kd.C_below HH.out B1)).mono ?_; rintro e w2 ⟨rfl, hw2⟩; have f1 : w2.cell? ⟨w.heap.size + 1, 1, none⟩ = some (.slice A p.leaves.length c) := at_cell (at_below hw2 p1) 1 rfl))
      go_ret2
      exact ⟨by rw [HV.out]; rfl, below_next B1 hw2⟩
  · have hm' : mayPf p = false := by simpa using hm
    have hval : value root p key = none := by unfold value; rw [if_neg hm]
    have HV := Lib.hid hval
    have HM := Lib.hid hm'
    clear hm hm' hval
    go_enter Tryd.func23, Tryd.ntmps23
    go_upto_region 1 with (fail)
    refine wp_rp ?_
    intro w1 B1 r1 p1
    go_wp2_with (first
      | (refine l_load rfl rfl rfl p1 Tryd.underlying27 rfl Tryd.infoPf ?_)
      | (go_at_call 30; refine (proof_MayB p false HM.out A c _ hc (Kd.C_below HH.out B1)).mono ?_; rintro e w2 ⟨rfl, hw2⟩))
    go_ret2
    exact ⟨by rw [HV.out]; rfl, below_next B1 hw2⟩
end Go.Proofs.YtlkjeneffohnkaaDoor
