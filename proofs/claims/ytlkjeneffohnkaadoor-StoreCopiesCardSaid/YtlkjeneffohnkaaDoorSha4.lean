import Derived.Test.YtlkjeneffohnkaaDoorSha3
import Derived.Deep.CutRange
set_option linter.unusedVariables false
set_option linter.unusedSimpArgs false
namespace Go.Proofs.YtlkjeneffohnkaaDoor
open Go.RowKit Go.Proofs Go.Proofs.Plan Go.Proofs.YtlkjeneffohnkaaDoorW.PrintWords
def Tab (w : World) : Prop := ∀ i : Nat, i < 64 → w.cell? ⟨0, i, none⟩ = some (.int .u32 (wv (kk.getD i 0)))
theorem tab_below {w w1 : World} (hb : Below w.heap.size w w1) (h : Tab w) : Tab w1 := fun i hi => cell_below hb (h i hi)
def stc (s : St) : Array Value := #[.int .u32 (wv s.a), .int .u32 (wv s.b), .int .u32 (wv s.c), .int .u32 (wv s.d), .int .u32 (wv s.e), .int .u32 (wv s.f), .int .u32 (wv s.g), .int .u32 (wv s.h)]
theorem wv_not (x : BitVec 32) : bits BinOp.xor IntKind.u32 (wv x) (-1) = wv (~~~ x) := by
  have h := (~~~ x).isLt
  have e : bits BinOp.xor IntKind.u32 (wv x) (-1) = IntKind.u32.wrap (((~~~ x).toNat : Nat) : Int) := by
    have h1 := wv_of x
    show IntKind.u32.wrap (((BitVec.ofInt 32 (wv x)) ^^^ (BitVec.ofInt 32 (-1))).toNat : Int) = _
    rw [h1, show (BitVec.ofInt 32 (-1)) = BitVec.allOnes 32 by decide, BitVec.xor_allOnes]
  rw [e, IntKind.wrap_u32]
  unfold wv
  omega
theorem stc_cells {w : World} {g : Nat} {t : TypeId} {fr : Nat × Nat} {s : St} (h : w.heap[g]? = some (.cells (stc s) t fr)) :
    w.cell? ⟨g, 0, none⟩ = some (.int .u32 (wv s.a)) ∧ w.cell? ⟨g, 1, none⟩ = some (.int .u32 (wv s.b)) ∧ w.cell? ⟨g, 2, none⟩ = some (.int .u32 (wv s.c)) ∧ w.cell? ⟨g, 3, none⟩ = some (.int .u32 (wv s.d)) ∧ w.cell? ⟨g, 4, none⟩ = some (.int .u32 (wv s.e)) ∧ w.cell? ⟨g, 5, none⟩ = some (.int .u32 (wv s.f)) ∧ w.cell? ⟨g, 6, none⟩ = some (.int .u32 (wv s.g)) ∧ w.cell? ⟨g, 7, none⟩ = some (.int .u32 (wv s.h)) := by
  refine ⟨?_, ?_, ?_, ?_, ?_, ?_, ?_, ?_⟩ <;> (rw [cell_of_row _ _ _ _ _ _ h]; rfl)
/-- a row as a parameter, and a result's variable -/
theorem wp_Rr {P : Program} {c : Code} {Q : Exit → Act → World → Prop} {a : Act} {w : World} {C D : Array Value} {t1 t : TypeId} (n m : Nat) (hC : C.size = n) (hn : D.size = m)
    (k : ∀ w1, Below w.heap.size w w1 → w1.heap[w.heap.size]? = some (.cells C t1 (0, 0)) → w1.there (w.heap.size + 1) 0 m → w1.heap.size = w.heap.size + 2 → c.wp P Q a w1) : c.wp P Q a ((w.alloc (.cells C t1)).alloc (.cells D t)) :=
  k _ (((Below.refl _ _).alloc (Nat.le_refl _) _).alloc (by simp) _) (heap_alloc_at (heap_alloc_is _ _ _ rfl)) (there_block (heap_alloc_is _ _ _ (by simp)) 0 m (by omega)) (by simp)
def sl (s : St) : List (BitVec 32) := [s.a, s.b, s.c, s.d, s.e, s.f, s.g, s.h]
def plr (s R : St) (j : Nat) : Array Value := (((sl (s.plus R)).take j ++ (sl s).drop j).map we).toArray
theorem sl_lt {P : Nat → Prop} (h0 : P 0) (h1 : P 1) (h2 : P 2) (h3 : P 3) (h4 : P 4) (h5 : P 5) (h6 : P 6) (h7 : P 7) (j : Nat) (hj : j < 8) : P j := by
  match j, hj with
  | 0, _ => exact h0
  | 1, _ => exact h1
  | 2, _ => exact h2
  | 3, _ => exact h3
  | 4, _ => exact h4
  | 5, _ => exact h5
  | 6, _ => exact h6
  | 7, _ => exact h7
theorem plr_get (s R : St) : ∀ j, j < 8 → (plr s R j)[j]? = some (we ((sl s).getD j 0)) := sl_lt rfl rfl rfl rfl rfl rfl rfl rfl
theorem plr_set (s R : St) : ∀ j, j < 8 → (plr s R j).setIfInBounds j (we ((sl s).getD j 0 + (sl R).getD j 0)) = plr s R (j + 1) := sl_lt rfl rfl rfl rfl rfl rfl rfl rfl
theorem stc_get (s : St) : ∀ j, j < 8 → (stc s).toList[j]? = some (we ((sl s).getD j 0)) := sl_lt rfl rfl rfl rfl rfl rfl rfl rfl
theorem plr_0 (s R : St) : plr s R 0 = stc s := rfl
theorem plr_8 (s R : St) : plr s R 8 = stc (s.plus R) := rfl
theorem one8 (a b c d e f g h : Int) : (#[Value.int .u32 a, .int .u32 b, .int .u32 c, .int .u32 d, .int .u32 e, .int .u32 f, .int .u32 g, .int .u32 h] : Array Value).all (·.oneCell') = true := by simp [Value.oneCell']
theorem size8 (a b c d e f g h : Int) : (#[Value.int .u32 a, .int .u32 b, .int .u32 c, .int .u32 d, .int .u32 e, .int .u32 f, .int .u32 g, .int .u32 h] : Array Value).size = 8 := rfl
theorem stc_size (s : St) : (stc s).size = 8 := rfl
theorem stc_one (s : St) : (stc s).all (·.oneCell') = true := by simp [stc, Value.oneCell']
/-- the cells hold this state -/
def Stat (w : World) (g : Nat) (s : St) : Prop := w.rangeAt g 0 (stc s).toList ∧ w.there g 0 8
theorem Stat.cells {w : World} {g : Nat} {s : St} (h : Stat w g s) :
    w.cell? ⟨g, 0, none⟩ = some (.int .u32 (wv s.a)) ∧ w.cell? ⟨g, 1, none⟩ = some (.int .u32 (wv s.b)) ∧ w.cell? ⟨g, 2, none⟩ = some (.int .u32 (wv s.c)) ∧ w.cell? ⟨g, 3, none⟩ = some (.int .u32 (wv s.d)) ∧ w.cell? ⟨g, 4, none⟩ = some (.int .u32 (wv s.e)) ∧ w.cell? ⟨g, 5, none⟩ = some (.int .u32 (wv s.f)) ∧ w.cell? ⟨g, 6, none⟩ = some (.int .u32 (wv s.g)) ∧ w.cell? ⟨g, 7, none⟩ = some (.int .u32 (wv s.h)) := by
  have h := h.1
  exact ⟨h 0 _ rfl, h 1 _ rfl, h 2 _ rfl, h 3 _ rfl, h 4 _ rfl, h 5 _ rfl, h 6 _ rfl, h 7 _ rfl⟩
theorem Stat.below {w w1 : World} {g : Nat} {s : St} (hb : Below w.heap.size w w1) (h : Stat w g s) : Stat w1 g s := ⟨rangeAt_below hb h.1, there_below hb h.2⟩
theorem heap_setCells_ne {g b : Nat} (hg : g ≠ b) : ∀ (vs : List Value) (k : Nat) (w : World), (w.setCells b k vs).heap[g]? = w.heap[g]?
  | [], _, _ => rfl
  | v :: r, k, w => by rw [World.setCells, heap_setCells_ne hg r (k + 1)]; exact Below.heap_setCell w ⟨b, k, none⟩ v g hg
theorem rangeAt_setCell {w : World} {g o : Nat} {cs : List Value} {p : Addr} (u : Value) (h : w.rangeAt g o cs) (hp : g ≠ p.block) : (w.setCell p u).rangeAt g o cs := fun j v hj => by
  rw [World.cell?_of_block (w := w) (a := ⟨g, o + j, none⟩) (Below.heap_setCell w p u g hp)]; exact h j v hj
/-- a state has been stored -/
theorem Stat.put {w : World} {g : Nat} (h : w.there g 0 8) (s : St) : Stat (w.setCells g 0 (stc s).toList) g s := ⟨World.rangeAt_setCells_same _ _ _ _ h, World.there_setCells h _ _ _⟩
theorem Stat.apart {w : World} {g : Nat} {s : St} (h : Stat w g s) {b : Nat} (hb : g ≠ b) (o : Nat) (vs : List Value) : Stat (w.setCells b o vs) g s := ⟨World.rangeAt_setCells_apart h.1 _ _ _ (.inl hb), World.there_setCells h.2 _ _ _⟩
theorem wv_not' (x : BitVec 32) : bits BinOp.xor IntKind.u32 IntKind.u32.max (wv x) = wv (~~~ x) := by
  have h1 := wv_xor (BitVec.allOnes 32) x
  rw [show wv (BitVec.allOnes 32) = IntKind.u32.max by decide, BitVec.allOnes_xor] at h1
  exact h1
theorem wv_add2 (x y : BitVec 32) : (wv x + wv y) % 4294967296 = wv (x + y) := wv_add x y
theorem wv_add5 (x y z u v : BitVec 32) : (wv x + wv y + wv z + wv u + wv v) % 4294967296 = wv (x + y + z + u + v) := by
  simp only [wv, BitVec.toNat_add]; omega
theorem t_num (S : St) (K W : BitVec 32) : (wv S.h + wv (rr S.e 6 ^^^ rr S.e 11 ^^^ rr S.e 25) + bits BinOp.xor IntKind.u32 (bits BinOp.and IntKind.u32 (wv S.e) (wv S.f)) (bits BinOp.and IntKind.u32 (bits BinOp.xor IntKind.u32 IntKind.u32.max (wv S.e)) (wv S.g)) + wv K + wv W) % 4294967296 = wv (tOf S K W) := by
  rw [wv_not', wv_and, wv_and, wv_xor, wv_add5]; rfl
theorem u_num (S : St) : (wv (rr S.a 2 ^^^ rr S.a 13 ^^^ rr S.a 22) + bits BinOp.xor IntKind.u32 (bits BinOp.xor IntKind.u32 (bits BinOp.and IntKind.u32 (wv S.a) (wv S.b)) (bits BinOp.and IntKind.u32 (wv S.a) (wv S.c))) (bits BinOp.and IntKind.u32 (wv S.b) (wv S.c))) % 4294967296 = wv (uOf S) := by
  rw [wv_and, wv_and, wv_and, wv_xor, wv_xor, wv_add2]; rfl
set_option maxHeartbeats 600000 in
set_option maxRecDepth 100000 in
theorem sha_mix (s : St) (c : ByteArray) (hc64 : c.size = 64) (w : World) (ht : Tab w) : Calls Tryd.prog 149 #[.agg (stc s), .string c] w fun e w' => e = .returned (.agg (stc (mixM s c))) ∧ Below w.heap.size w w' := by
  have i171 : (Tryd.prog.info? 171).map (·.size) = some 1 := by kernel_rfl
  have i172 : (Tryd.prog.info? 172).map (·.size) = some 8 := by kernel_rfl
  go_enter Tryd.func149, Tryd.ntmps149
  go_upto_region 1 with (fail)
  refine wp_Rr 8 8 rfl rfl ?_
  intro w1 B1 H1 T2 Z1
  obtain ⟨C, hC⟩ : ∃ C, C = stc s := ⟨_, rfl⟩
  have C8 : C.size = 8 := by rw [hC]; rfl
  have C1 : C.all (·.oneCell') = true := by rw [hC]; exact stc_one s
  rw [← hC] at H1 ⊢
  have T3 : (w1.alloc (Obj.cells #[Value.int IntKind.u32 0, Value.int IntKind.u32 0, Value.int IntKind.u32 0, Value.int IntKind.u32 0, Value.int IntKind.u32 0, Value.int IntKind.u32 0, Value.int IntKind.u32 0, Value.int IntKind.u32 0] 172)).there w1.heap.size 0 8 := there_block (heap_alloc_is _ _ _ rfl) 0 8 (by decide)
  have HC := Lib.hid hC
  have HZ := Lib.hid Z1
  clear hC Z1
  go_upto_region 2 with (first
    | (refine l_loadR rfl rfl rfl (row_at H1) C8 Tryd.underlying172 i172 ?_)
    | (refine l_storeR rfl rfl rfl rfl C8 T3 i172 C1 ?_))
  refine wp_gen (fun w2 => w2.heap[w.heap.size]? = some (.cells (stc s) 172 (0, 0)) ∧ Stat w2 w1.heap.size s ∧ w2.there (w.heap.size + 1) 0 8 ∧ Below w.heap.size w w2) ?_ ?_
  · obtain rfl := HC.out
    have z := HZ.out
    refine ⟨(heap_setCells_ne (by omega) _ _ _).trans (heap_alloc_at H1), Stat.put T3 s, World.there_setCells (World.there_alloc T2 _) _ _ _, below_setCells _ _ _ (B1.alloc (by omega) _) (by omega)⟩
  clear T3 C1 C8 H1 HC T2
  rintro w2 ⟨S2, S2', T2, B2⟩
  have N1 : w1.heap.size = w.heap.size + 2 := HZ.out
  rw [N1] at S2' ⊢
  go_wp2_with (first | (go_at_call 163; refine (sha_spread c hc64 _).mono ?_; rintro e w3 ⟨rfl, hw3⟩))
  have B3 := below_next B2 hw3
  have S3 := block_below hw3 S2
  have S3' := S2'.below hw3
  have T3 := there_below hw3 T2
  clear S2 S2' T2 B2 hw3 B1 HZ N1
  obtain ⟨D, hD⟩ : ∃ D, D = rowc c 64 := ⟨_, rfl⟩
  have hget : ∀ k : Nat, k < 64 → D[k]? = some (.int .u32 (wv ((sched c 64).getD k 0))) := fun k hk => by rw [hD, rowc_get c 64 k hk]; rfl
  have Dsz : D.size = 64 := by rw [hD]; exact rowc_size c 64 (by omega)
  have HG := Lib.hid hget
  rw [← hD]
  clear hD hget hc64
  go_loopg [14] 64 (fun n i wr => ∃ k : Nat, k + n = 64 ∧ i = .int .i64 k ∧ wr.heap[w.heap.size]? = some (.cells (stc s) 172 (0, 0)) ∧ Stat wr (w.heap.size + 2) (rnds s c k) ∧ wr.there (w.heap.size + 1) 0 8 ∧ Below w.heap.size w wr)
  case atStart => exact ⟨0, by omega, rfl, S3, S3', T3, B3⟩
  case round =>
    obtain ⟨k, hk, rfl, s0, s1, t1, hb⟩ := hrel
    clear S3 S3' T3 B3
    by_cases hlt : k < 64
    · obtain ⟨W, hW⟩ : ∃ W, W = (sched c 64).getD k 0 := ⟨_, rfl⟩
      obtain ⟨K, hK⟩ : ∃ K, K = kk.getD k 0 := ⟨_, rfl⟩
      have d1 : D[k]? = some (.int .u32 (wv W)) := by rw [hW]; exact HG.out k hlt
      have d2 : wr.cell? ⟨0, k, none⟩ = some (.int .u32 (wv K)) := by rw [hK]; exact tab_below hb ht k hlt
      obtain ⟨ca, cb, cc, cd, ce, cf, cg, ch⟩ := s1.cells
      have HX := Lib.hid s1
      have HY := Lib.hid s0
      have HW := Lib.hid hW
      have HK := Lib.hid hK
      clear s1 s0 hW hK
      generalize hS : rnds s c k = S at ca cb cc cd ce cf cg ch HX
      have HS := Lib.hid hS
      clear hS
      have ix := run_idx (P := Tryd.prog) (k := .i64) Tryd.underlying173 Tryd.underlying171 rfl i171 hlt d1
      go_upto_region 5 with (fail)
      go_cut [8] from 15 to 84 (fun v w' => v = .int .u32 (wv (tOf S K W)) ∧ Below wr.heap.size wr w')
      case first =>
        refine wp_num (fun w' => Below wr.heap.size wr w') [0, 1, 2, 3, 5, 6, 7, 8, 9, 10, 11, 12, 13, 14, 15, 16, 17, 18, 19, 20, 21, 22, 23, 24, 25] (.c (0, none, none) (.c (1, none, none) (.c (2, none, none) (.c (3, none, none) (.c (6, none, none) (.c (7, none, none) (.c (8, none, none) (.c (9, none, none) (.c (10, none, none) (.c (11, none, none) (.c (12, none, none) (.c (13, none, none) (.c (14, none, none) (.c (15, none, none) (.c (16, none, none) (.c (17, none, none) (.c (19, none, none) (.c (20, none, none) (.c (21, none, none) (.c (23, none, none) (.c (4, some true, none) (.c (5, none, none) (.c (18, none, none) (.c (22, none, none) (.c (24, none, none) (.c (25, none, none) (.nil))))))))))))))))))))))))))) (by kernel_rfl) (by kernel_rfl) (by kernel_rfl) (fun _ _ d _ _ h => by cases d <;> exact h) (by kernel_rfl) ((Below.refl _ _).drew) ?_
        simp only [selE, nthO]
        apply p_qL (ops0 := #[]) rfl rfl rfl (Nat.le_of_ble_eq_true rfl)
        focus (intro w' hb; go_wp2_with fail; refine ⟨rfl, ?_, rfl⟩; simp only [List.getElem?_toArray, List.getElem?_cons_zero, List.getElem?_cons_succ, Option.some.injEq]; rfl)
        simp only [Act.put, List.setIfInBounds_toArray, List.set_cons_zero, List.set_cons_succ, Array.toArray_toList]
        refine p_load1 rfl rfl (fun w' hb => cell_below hb (by assumption)) Tryd.underlying171 rfl ?_
        simp only [Act.put, List.setIfInBounds_toArray, List.set_cons_zero, List.set_cons_succ, Array.toArray_toList]
        apply p_qL (ops0 := #[]) rfl rfl rfl (Nat.le_of_ble_eq_true rfl)
        focus (intro w' hb; go_wp2_with fail; refine ⟨rfl, ?_, rfl⟩; simp only [List.getElem?_toArray, List.getElem?_cons_zero, List.getElem?_cons_succ, Option.some.injEq]; rfl)
        simp only [Act.put, List.setIfInBounds_toArray, List.set_cons_zero, List.set_cons_succ, Array.toArray_toList]
        refine p_load1 rfl rfl (fun w' hb => cell_below hb (by assumption)) Tryd.underlying171 rfl ?_
        simp only [Act.put, List.setIfInBounds_toArray, List.set_cons_zero, List.set_cons_succ, Array.toArray_toList]
        apply p_qL (ops0 := #[]) rfl rfl rfl (Nat.le_of_ble_eq_true rfl)
        focus (intro w' hb; go_wp2_with fail; refine ⟨rfl, ?_, rfl⟩; simp only [List.getElem?_toArray, List.getElem?_cons_zero, List.getElem?_cons_succ, Option.some.injEq]; rfl)
        simp only [Act.put, List.setIfInBounds_toArray, List.set_cons_zero, List.set_cons_succ, Array.toArray_toList]
        refine p_load1 rfl rfl (fun w' hb => cell_below hb (by assumption)) Tryd.underlying171 rfl ?_
        simp only [Act.put, List.setIfInBounds_toArray, List.set_cons_zero, List.set_cons_succ, Array.toArray_toList]
        apply p_qL (ops0 := #[]) rfl rfl rfl (Nat.le_of_ble_eq_true rfl)
        focus (intro w' hb; go_wp2_with fail; refine ⟨rfl, ?_, rfl⟩; simp only [List.getElem?_toArray, List.getElem?_cons_zero, List.getElem?_cons_succ, Option.some.injEq]; rfl)
        simp only [Act.put, List.setIfInBounds_toArray, List.set_cons_zero, List.set_cons_succ, Array.toArray_toList]
        refine p_load1 rfl rfl (fun w' hb => cell_below hb (by assumption)) Tryd.underlying171 rfl ?_
        simp only [Act.put, List.setIfInBounds_toArray, List.set_cons_zero, List.set_cons_succ, Array.toArray_toList]
        apply p_qL (ops0 := #[]) rfl rfl rfl (Nat.le_of_ble_eq_true rfl)
        focus (intro w' hb; go_wp2_with fail; refine ⟨rfl, ?_, rfl⟩; simp only [List.getElem?_toArray, List.getElem?_cons_zero, List.getElem?_cons_succ, Option.some.injEq]; rfl)
        simp only [Act.put, List.setIfInBounds_toArray, List.set_cons_zero, List.set_cons_succ, Array.toArray_toList]
        apply p_qL (ops0 := #[]) rfl rfl rfl (Nat.le_of_ble_eq_true rfl)
        focus (intro w' hb; go_wp2_with fail; refine ⟨rfl, ?_, rfl⟩; simp only [List.getElem?_toArray, List.getElem?_cons_zero, List.getElem?_cons_succ, Option.some.injEq]; rfl)
        simp only [Act.put, List.setIfInBounds_toArray, List.set_cons_zero, List.set_cons_succ, Array.toArray_toList]
        refine p_load1 rfl rfl (fun w' hb => cell_below hb (by assumption)) Tryd.underlying171 rfl ?_
        simp only [Act.put, List.setIfInBounds_toArray, List.set_cons_zero, List.set_cons_succ, Array.toArray_toList]
        apply p_qL (ops0 := #[]) rfl rfl rfl (Nat.le_of_ble_eq_true rfl)
        focus (intro w' hb; go_wp2_with fail; refine ⟨rfl, ?_, rfl⟩; simp only [List.getElem?_toArray, List.getElem?_cons_zero, List.getElem?_cons_succ, Option.some.injEq]; rfl)
        simp only [Act.put, List.setIfInBounds_toArray, List.set_cons_zero, List.set_cons_succ, Array.toArray_toList]
        apply p_qL (ops0 := #[]) rfl rfl rfl (Nat.le_of_ble_eq_true rfl)
        focus (intro w' hb; go_wp2_with fail; refine ⟨rfl, ?_, rfl⟩; simp only [List.getElem?_toArray, List.getElem?_cons_zero, List.getElem?_cons_succ, Option.some.injEq]; rfl)
        simp only [Act.put, List.setIfInBounds_toArray, List.set_cons_zero, List.set_cons_succ, Array.toArray_toList]
        refine p_load1 rfl rfl (fun w' hb => cell_below hb (by assumption)) Tryd.underlying171 rfl ?_
        simp only [Act.put, List.setIfInBounds_toArray, List.set_cons_zero, List.set_cons_succ, Array.toArray_toList]
        apply p_qL (ops0 := #[]) rfl rfl rfl (Nat.le_of_ble_eq_true rfl)
        focus (intro w' hb; go_wp2_with fail; refine ⟨rfl, ?_, rfl⟩; simp only [List.getElem?_toArray, List.getElem?_cons_zero, List.getElem?_cons_succ, Option.some.injEq]; rfl)
        simp only [Act.put, List.setIfInBounds_toArray, List.set_cons_zero, List.set_cons_succ, Array.toArray_toList]
        apply p_qL (ops0 := #[]) rfl rfl rfl (Nat.le_of_ble_eq_true rfl)
        focus (intro w' hb; go_wp2_with fail; refine ⟨rfl, ?_, rfl⟩; simp only [List.getElem?_toArray, List.getElem?_cons_zero, List.getElem?_cons_succ, Option.some.injEq]; rfl)
        simp only [Act.put, List.setIfInBounds_toArray, List.set_cons_zero, List.set_cons_succ, Array.toArray_toList]
        apply p_q
        focus (intro w' hb; go_simp <;> rfl)
        simp only [Act.put, List.setIfInBounds_toArray, List.set_cons_zero, List.set_cons_succ, Array.toArray_toList]
        apply p_qL (ops0 := #[]) rfl rfl rfl (Nat.le_of_ble_eq_true rfl)
        focus (intro w' hb; go_wp2_with fail; refine ⟨rfl, ?_, rfl⟩; simp only [List.getElem?_toArray, List.getElem?_cons_zero, List.getElem?_cons_succ, Option.some.injEq]; rfl)
        simp only [Act.put, List.setIfInBounds_toArray, List.set_cons_zero, List.set_cons_succ, Array.toArray_toList]
        refine p_load1 rfl rfl (fun w' hb => cell_below hb (by assumption)) Tryd.underlying171 rfl ?_
        simp only [Act.put, List.setIfInBounds_toArray, List.set_cons_zero, List.set_cons_succ, Array.toArray_toList]
        apply p_q
        focus (intro w' hb; go_simp <;> rfl)
        simp only [Act.put, List.setIfInBounds_toArray, List.set_cons_zero, List.set_cons_succ, Array.toArray_toList]
        refine p_list (ops := #[]) rfl ?_
        go_wp2_with fail
        refine (turn6 _ _).mono ?_
        rintro e _ ⟨rfl, rfl⟩
        go_wp2_with fail
        refine ⟨fun _ => (Below.refl wr.heap.size wr).drew, ?_⟩
        apply p_qL (ops0 := #[]) rfl rfl rfl (Nat.le_of_ble_eq_true rfl)
        focus (intro w' hb; go_wp2_with fail; refine ⟨rfl, ?_, rfl⟩; simp only [List.getElem?_toArray, List.getElem?_cons_zero, List.getElem?_cons_succ, Option.some.injEq]; rfl)
        simp only [Act.put, List.setIfInBounds_toArray, List.set_cons_zero, List.set_cons_succ, Array.toArray_toList]
        apply p_qL (ops0 := #[]) rfl rfl rfl (Nat.le_of_ble_eq_true rfl)
        focus (intro w' hb; go_wp2_with fail; refine ⟨rfl, ?_, rfl⟩; simp only [List.getElem?_toArray, List.getElem?_cons_zero, List.getElem?_cons_succ, Option.some.injEq]; rfl)
        simp only [Act.put, List.setIfInBounds_toArray, List.set_cons_zero, List.set_cons_succ, Array.toArray_toList]
        apply p_qL (ops0 := #[]) rfl rfl rfl (Nat.le_of_ble_eq_true rfl)
        focus (intro w' hb; go_wp2_with fail; refine ⟨rfl, ?_, rfl⟩; simp only [List.getElem?_toArray, List.getElem?_cons_zero, List.getElem?_cons_succ, Option.some.injEq]; rfl)
        simp only [Act.put, List.setIfInBounds_toArray, List.set_cons_zero, List.set_cons_succ, Array.toArray_toList]
        apply p_qL (ops0 := #[]) rfl rfl rfl (Nat.le_of_ble_eq_true rfl)
        focus (intro w' hb; go_wp2_with fail; refine ⟨rfl, ?_, rfl⟩; simp only [List.getElem?_toArray, List.getElem?_cons_zero, List.getElem?_cons_succ, Option.some.injEq]; rfl)
        simp only [Act.put, List.setIfInBounds_toArray, List.set_cons_zero, List.set_cons_succ, Array.toArray_toList]
        apply p_q
        focus (intro w' hb; go_simp <;> rfl)
        simp only [Act.put, List.setIfInBounds_toArray, List.set_cons_zero, List.set_cons_succ, Array.toArray_toList]
        refine p_end ?_
        rw [t_num]
        go_wp2
        go_meet
        case rel => exact ⟨rfl, (Below.refl _ _).drew⟩
      obtain ⟨rfl, hc1⟩ := hcut
      obtain ⟨T, hT'⟩ : ∃ T, T = tOf S K W := ⟨_, rfl⟩
      rw [← hT']
      have HT' := Lib.hid hT'
      clear hT'
      have HB := Lib.hid (And.intro (block_below hc1 HY.out) (And.intro (below_next hb hc1) (And.intro (there_below hc1 t1) (HX.out.below hc1))))
      have ca := cell_below hc1 ca
      have cb := cell_below hc1 cb
      have cc := cell_below hc1 cc
      have cd := cell_below hc1 cd
      have ce := cell_below hc1 ce
      have cf := cell_below hc1 cf
      have cg := cell_below hc1 cg
      clear hc1 ch hb t1 HX HY
      go_upto_region 6 with (fail)
      go_cut [9] from 15 to 84 (fun v w' => v = .int .u32 (wv (uOf S)) ∧ Below wc.heap.size wc w')
      case first =>
        refine wp_num (fun w' => Below wc.heap.size wc w') [0, 1, 3, 4, 5, 6, 7, 8, 9, 10, 11, 12, 13, 14, 15, 16, 17, 18, 19, 20, 21] (.c (0, none, none) (.c (1, none, none) (.c (3, none, none) (.c (4, none, none) (.c (5, none, none) (.c (6, none, none) (.c (7, none, none) (.c (8, none, none) (.c (9, none, none) (.c (10, none, none) (.c (11, none, none) (.c (12, none, none) (.c (13, none, none) (.c (14, none, none) (.c (15, none, none) (.c (16, none, none) (.c (17, none, none) (.c (18, none, none) (.c (19, none, none) (.c (2, some true, none) (.c (20, none, none) (.c (21, none, none) (.nil))))))))))))))))))))))) (by kernel_rfl) (by kernel_rfl) (by kernel_rfl) (fun _ _ d _ _ h => by cases d <;> exact h) (by kernel_rfl) ((Below.refl _ _).drew) ?_
        simp only [selE, nthO]
        apply p_qL (ops0 := #[]) rfl rfl rfl (Nat.le_of_ble_eq_true rfl)
        focus (intro w' hb; go_wp2_with fail; refine ⟨rfl, ?_, rfl⟩; simp only [List.getElem?_toArray, List.getElem?_cons_zero, List.getElem?_cons_succ, Option.some.injEq]; rfl)
        simp only [Act.put, List.setIfInBounds_toArray, List.set_cons_zero, List.set_cons_succ, Array.toArray_toList]
        refine p_load1 rfl rfl (fun w' hb => cell_below hb (by assumption)) Tryd.underlying171 rfl ?_
        simp only [Act.put, List.setIfInBounds_toArray, List.set_cons_zero, List.set_cons_succ, Array.toArray_toList]
        apply p_qL (ops0 := #[]) rfl rfl rfl (Nat.le_of_ble_eq_true rfl)
        focus (intro w' hb; go_wp2_with fail; refine ⟨rfl, ?_, rfl⟩; simp only [List.getElem?_toArray, List.getElem?_cons_zero, List.getElem?_cons_succ, Option.some.injEq]; rfl)
        simp only [Act.put, List.setIfInBounds_toArray, List.set_cons_zero, List.set_cons_succ, Array.toArray_toList]
        refine p_load1 rfl rfl (fun w' hb => cell_below hb (by assumption)) Tryd.underlying171 rfl ?_
        simp only [Act.put, List.setIfInBounds_toArray, List.set_cons_zero, List.set_cons_succ, Array.toArray_toList]
        apply p_qL (ops0 := #[]) rfl rfl rfl (Nat.le_of_ble_eq_true rfl)
        focus (intro w' hb; go_wp2_with fail; refine ⟨rfl, ?_, rfl⟩; simp only [List.getElem?_toArray, List.getElem?_cons_zero, List.getElem?_cons_succ, Option.some.injEq]; rfl)
        simp only [Act.put, List.setIfInBounds_toArray, List.set_cons_zero, List.set_cons_succ, Array.toArray_toList]
        refine p_load1 rfl rfl (fun w' hb => cell_below hb (by assumption)) Tryd.underlying171 rfl ?_
        simp only [Act.put, List.setIfInBounds_toArray, List.set_cons_zero, List.set_cons_succ, Array.toArray_toList]
        apply p_qL (ops0 := #[]) rfl rfl rfl (Nat.le_of_ble_eq_true rfl)
        focus (intro w' hb; go_wp2_with fail; refine ⟨rfl, ?_, rfl⟩; simp only [List.getElem?_toArray, List.getElem?_cons_zero, List.getElem?_cons_succ, Option.some.injEq]; rfl)
        simp only [Act.put, List.setIfInBounds_toArray, List.set_cons_zero, List.set_cons_succ, Array.toArray_toList]
        apply p_qL (ops0 := #[]) rfl rfl rfl (Nat.le_of_ble_eq_true rfl)
        focus (intro w' hb; go_wp2_with fail; refine ⟨rfl, ?_, rfl⟩; simp only [List.getElem?_toArray, List.getElem?_cons_zero, List.getElem?_cons_succ, Option.some.injEq]; rfl)
        simp only [Act.put, List.setIfInBounds_toArray, List.set_cons_zero, List.set_cons_succ, Array.toArray_toList]
        refine p_load1 rfl rfl (fun w' hb => cell_below hb (by assumption)) Tryd.underlying171 rfl ?_
        simp only [Act.put, List.setIfInBounds_toArray, List.set_cons_zero, List.set_cons_succ, Array.toArray_toList]
        apply p_qL (ops0 := #[]) rfl rfl rfl (Nat.le_of_ble_eq_true rfl)
        focus (intro w' hb; go_wp2_with fail; refine ⟨rfl, ?_, rfl⟩; simp only [List.getElem?_toArray, List.getElem?_cons_zero, List.getElem?_cons_succ, Option.some.injEq]; rfl)
        simp only [Act.put, List.setIfInBounds_toArray, List.set_cons_zero, List.set_cons_succ, Array.toArray_toList]
        refine p_load1 rfl rfl (fun w' hb => cell_below hb (by assumption)) Tryd.underlying171 rfl ?_
        simp only [Act.put, List.setIfInBounds_toArray, List.set_cons_zero, List.set_cons_succ, Array.toArray_toList]
        apply p_qL (ops0 := #[]) rfl rfl rfl (Nat.le_of_ble_eq_true rfl)
        focus (intro w' hb; go_wp2_with fail; refine ⟨rfl, ?_, rfl⟩; simp only [List.getElem?_toArray, List.getElem?_cons_zero, List.getElem?_cons_succ, Option.some.injEq]; rfl)
        simp only [Act.put, List.setIfInBounds_toArray, List.set_cons_zero, List.set_cons_succ, Array.toArray_toList]
        apply p_qL (ops0 := #[]) rfl rfl rfl (Nat.le_of_ble_eq_true rfl)
        focus (intro w' hb; go_wp2_with fail; refine ⟨rfl, ?_, rfl⟩; simp only [List.getElem?_toArray, List.getElem?_cons_zero, List.getElem?_cons_succ, Option.some.injEq]; rfl)
        simp only [Act.put, List.setIfInBounds_toArray, List.set_cons_zero, List.set_cons_succ, Array.toArray_toList]
        apply p_qL (ops0 := #[]) rfl rfl rfl (Nat.le_of_ble_eq_true rfl)
        focus (intro w' hb; go_wp2_with fail; refine ⟨rfl, ?_, rfl⟩; simp only [List.getElem?_toArray, List.getElem?_cons_zero, List.getElem?_cons_succ, Option.some.injEq]; rfl)
        simp only [Act.put, List.setIfInBounds_toArray, List.set_cons_zero, List.set_cons_succ, Array.toArray_toList]
        refine p_load1 rfl rfl (fun w' hb => cell_below hb (by assumption)) Tryd.underlying171 rfl ?_
        simp only [Act.put, List.setIfInBounds_toArray, List.set_cons_zero, List.set_cons_succ, Array.toArray_toList]
        apply p_qL (ops0 := #[]) rfl rfl rfl (Nat.le_of_ble_eq_true rfl)
        focus (intro w' hb; go_wp2_with fail; refine ⟨rfl, ?_, rfl⟩; simp only [List.getElem?_toArray, List.getElem?_cons_zero, List.getElem?_cons_succ, Option.some.injEq]; rfl)
        simp only [Act.put, List.setIfInBounds_toArray, List.set_cons_zero, List.set_cons_succ, Array.toArray_toList]
        refine p_load1 rfl rfl (fun w' hb => cell_below hb (by assumption)) Tryd.underlying171 rfl ?_
        simp only [Act.put, List.setIfInBounds_toArray, List.set_cons_zero, List.set_cons_succ, Array.toArray_toList]
        apply p_qL (ops0 := #[]) rfl rfl rfl (Nat.le_of_ble_eq_true rfl)
        focus (intro w' hb; go_wp2_with fail; refine ⟨rfl, ?_, rfl⟩; simp only [List.getElem?_toArray, List.getElem?_cons_zero, List.getElem?_cons_succ, Option.some.injEq]; rfl)
        simp only [Act.put, List.setIfInBounds_toArray, List.set_cons_zero, List.set_cons_succ, Array.toArray_toList]
        apply p_qL (ops0 := #[]) rfl rfl rfl (Nat.le_of_ble_eq_true rfl)
        focus (intro w' hb; go_wp2_with fail; refine ⟨rfl, ?_, rfl⟩; simp only [List.getElem?_toArray, List.getElem?_cons_zero, List.getElem?_cons_succ, Option.some.injEq]; rfl)
        simp only [Act.put, List.setIfInBounds_toArray, List.set_cons_zero, List.set_cons_succ, Array.toArray_toList]
        refine p_list (ops := #[]) rfl ?_
        go_wp2_with fail
        refine (turn2 _ _).mono ?_
        rintro e _ ⟨rfl, rfl⟩
        go_wp2_with fail
        refine ⟨fun _ => (Below.refl wc.heap.size wc).drew, ?_⟩
        apply p_qL (ops0 := #[]) rfl rfl rfl (Nat.le_of_ble_eq_true rfl)
        focus (intro w' hb; go_wp2_with fail; refine ⟨rfl, ?_, rfl⟩; simp only [List.getElem?_toArray, List.getElem?_cons_zero, List.getElem?_cons_succ, Option.some.injEq]; rfl)
        simp only [Act.put, List.setIfInBounds_toArray, List.set_cons_zero, List.set_cons_succ, Array.toArray_toList]
        apply p_q
        focus (intro w' hb; go_simp <;> rfl)
        simp only [Act.put, List.setIfInBounds_toArray, List.set_cons_zero, List.set_cons_succ, Array.toArray_toList]
        refine p_end ?_
        rw [u_num]
        go_wp2
        go_meet
        case rel => exact ⟨rfl, (Below.refl _ _).drew⟩
      obtain ⟨rfl, hc1⟩ := hcut
      obtain ⟨U, hU'⟩ : ∃ U, U = uOf S := ⟨_, rfl⟩
      rw [← hU']
      have HU' := Lib.hid hU'
      clear hU'
      obtain ⟨HY3, B3, T3, HX3⟩ := HB.out
      have HB := Lib.hid (And.intro (block_below hc1 HY3) (And.intro (below_next B3 hc1) (And.intro (there_below hc1 T3) (HX3.below hc1))))
      have ca := cell_below hc1 ca
      have cb := cell_below hc1 cb
      have cc := cell_below hc1 cc
      have cd := cell_below hc1 cd
      have ce := cell_below hc1 ce
      have cf := cell_below hc1 cf
      have cg := cell_below hc1 cg
      have hT := HB.out.2.2.2.2
      clear HY3 B3 T3 HX3 hc1
      go_wp2_with (refine l_store rfl rfl rfl rfl ?_ ?_ ?_ ?_)
      · rw [size8]; exact hT
      · rw [size8]; exact i172
      · exact one8 _ _ _ _ _ _ _ _
      rw [wv_add2, wv_add2]
      obtain ⟨HY3, B3, T3, HX3⟩ := HB.out
      have e : [Value.int .u32 (wv (T + U)), .int .u32 (wv S.a), .int .u32 (wv S.b), .int .u32 (wv S.c), .int .u32 (wv (S.d + T)), .int .u32 (wv S.e), .int .u32 (wv S.f), .int .u32 (wv S.g)] = (stc (rnds s c (k + 1))).toList := by
        rw [HT'.out, HU'.out]; show _ = (stc (rnd (rnds s c k) (kk.getD k 0) ((sched c 64).getD k 0))).toList
        rw [HS.out, ← HW.out, ← HK.out]; rfl
      rw [e]
      go_roundg (gk - 1)
      case measure => omega
      case rel => exact ⟨k + 1, by omega, by go_num, (heap_setCells_ne (by omega) _ _ _).trans HY3, Stat.put hT _, World.there_setCells T3 _ _ _, below_setCells _ _ _ B3 (by omega)⟩
    · obtain rfl : k = 64 := by omega
      have hm : mixM s c = s.plus (rnds s c 64) := rfl
      generalize rnds s c 64 = R at hm s1
      have HM := Lib.hid hm
      clear hm HG hk ht i171
      go_wp2
      rw [← plr_0 s R] at s0
      go_loopg [85] 8 (fun n i wz => ∃ j : Nat, j + n = 8 ∧ i = .int .i64 j ∧ wz.heap[w.heap.size]? = some (.cells (plr s R j) 172 (0, 0)) ∧ Stat wz (w.heap.size + 2) R ∧ wz.there (w.heap.size + 1) 0 8 ∧ Below w.heap.size w wz)
      case atStart => exact ⟨0, by omega, rfl, s0, s1, t1, hb⟩
      case round =>
        clear s0 s1 t1 hb
        obtain ⟨j, hj, rfl, s0, s1, t1, hb⟩ := hrel
        by_cases hlt : j < 8
        · have c1 : wr.cell? ⟨w.heap.size, j, none⟩ = some (.int .u32 (wv ((sl s).getD j 0))) := by rw [cell_of_row _ _ _ _ _ _ s0]; exact plr_get s R j hlt
          have c2 : wr.cell? ⟨w.heap.size + 2, j, none⟩ = some (.int .u32 (wv ((sl R).getD j 0))) := by have := s1.1 j _ (stc_get R j hlt); rwa [Nat.zero_add] at this
          have hfr : wr.frozen? ⟨w.heap.size, j, none⟩ = false := frozen_of_row _ _ _ _ _ s0
          obtain ⟨x, hx⟩ : ∃ x, x = (sl s).getD j 0 := ⟨_, rfl⟩
          obtain ⟨y, hy⟩ : ∃ y, y = (sl R).getD j 0 := ⟨_, rfl⟩
          rw [← hx] at c1
          rw [← hy] at c2
          have HB := Lib.hid (And.intro hx (And.intro hy (And.intro s0 (And.intro s1 (And.intro t1 hb)))))
          clear hx hy s0 s1 t1 hb
          go_upto_region 12 with (fail)
          refine wp_num (fun w' => Below wr.heap.size wr w') [0, 1, 2, 3, 4, 5, 6, 7] (.c (0, none, none) (.c (1, none, none) (.c (2, none, none) (.c (3, none, none) (.c (4, none, none) (.c (5, none, none) (.c (6, none, none) (.c (7, none, none) (.c (8, some false, none) (.nil)))))))))) (by kernel_rfl) (by kernel_rfl) (by kernel_rfl) (fun _ _ d _ _ h => by cases d <;> exact h) (by kernel_rfl) ((Below.refl _ _).drew) ?_
          simp only [selE, nthO]
          apply p_q
          focus (intro w' hb; go_simp <;> rfl)
          simp only [Act.put, List.setIfInBounds_toArray, List.set_cons_zero, List.set_cons_succ, Array.toArray_toList]
          apply p_qL (ops0 := #[]) rfl rfl rfl (Nat.le_of_ble_eq_true rfl)
          focus (intro w' hb; go_wp2_with fail; refine ⟨rfl, ?_, rfl⟩; simp only [List.getElem?_toArray, List.getElem?_cons_zero, List.getElem?_cons_succ, Option.some.injEq]; rfl)
          simp only [Act.put, List.setIfInBounds_toArray, List.set_cons_zero, List.set_cons_succ, Array.toArray_toList]
          refine p_load1 rfl rfl (fun w' hb => cell_below hb (by assumption)) Tryd.underlying171 rfl ?_
          simp only [Act.put, List.setIfInBounds_toArray, List.set_cons_zero, List.set_cons_succ, Array.toArray_toList]
          apply p_q
          focus (intro w' hb; go_simp <;> rfl)
          simp only [Act.put, List.setIfInBounds_toArray, List.set_cons_zero, List.set_cons_succ, Array.toArray_toList]
          apply p_qL (ops0 := #[]) rfl rfl rfl (Nat.le_of_ble_eq_true rfl)
          focus (intro w' hb; go_wp2_with fail; refine ⟨rfl, ?_, rfl⟩; simp only [List.getElem?_toArray, List.getElem?_cons_zero, List.getElem?_cons_succ, Option.some.injEq]; rfl)
          simp only [Act.put, List.setIfInBounds_toArray, List.set_cons_zero, List.set_cons_succ, Array.toArray_toList]
          refine p_load1 rfl rfl (fun w' hb => cell_below hb (by assumption)) Tryd.underlying171 rfl ?_
          simp only [Act.put, List.setIfInBounds_toArray, List.set_cons_zero, List.set_cons_succ, Array.toArray_toList]
          apply p_qL (ops0 := #[]) rfl rfl rfl (Nat.le_of_ble_eq_true rfl)
          focus (intro w' hb; go_wp2_with fail; refine ⟨rfl, ?_, rfl⟩; simp only [List.getElem?_toArray, List.getElem?_cons_zero, List.getElem?_cons_succ, Option.some.injEq]; rfl)
          simp only [Act.put, List.setIfInBounds_toArray, List.set_cons_zero, List.set_cons_succ, Array.toArray_toList]
          apply p_qL (ops0 := #[]) rfl rfl rfl (Nat.le_of_ble_eq_true rfl)
          focus (intro w' hb; go_wp2_with fail; refine ⟨rfl, ?_, rfl⟩; simp only [List.getElem?_toArray, List.getElem?_cons_zero, List.getElem?_cons_succ, Option.some.injEq]; rfl)
          simp only [Act.put, List.setIfInBounds_toArray, List.set_cons_zero, List.set_cons_succ, Array.toArray_toList]
          refine p_list (ops := #[]) rfl ?_
          go_wp2_with fail
          refine ⟨(fun h => nomatch h), ?_⟩
          refine p_end ?_
          go_wp2
          obtain ⟨hx, hy, s0, s1, t1, hb⟩ := HB.out
          rw [wv_add2]
          go_roundg (gk - 1)
          case measure => omega
          case rel =>
            refine ⟨j + 1, by omega, by go_num, ?_, ⟨rangeAt_setCell _ s1.1 (by simp), there_setCell _ s1.2 (by simp)⟩, there_setCell _ t1 (by simp), (hb.setCell (Nat.le_refl _) _).drew⟩
            exact (heap_setCell_same wr _ j _ _ _ s0).trans (by rw [← plr_set s R j hlt, hx, hy]; rfl)
        · obtain rfl : j = 8 := by omega
          rw [plr_8] at s0
          have HS1 := Lib.hid s1
          clear s1
          obtain ⟨E, hE⟩ : ∃ E, E = stc (s.plus R) := ⟨_, rfl⟩
          have E8 : E.size = 8 := by rw [hE]; rfl
          have E1 : E.all (·.oneCell') = true := by rw [hE]; exact stc_one _
          rw [← hE] at s0
          have HE := Lib.hid hE
          clear hE
          go_wp2_with (first
            | (refine l_loadR rfl rfl rfl (row_at s0) E8 Tryd.underlying172 i172 ?_)
            | (refine l_storeR rfl rfl rfl rfl E8 t1 i172 E1 ?_))
          exact ret_R rfl rfl t1 E8 Tryd.underlying172 i172 rfl ⟨by rw [HE.out, HM.out], below_setCells _ _ _ hb (by omega)⟩
end Go.Proofs.YtlkjeneffohnkaaDoor
