import Derived.Test.YtlkjeneffohnkaaDoorBase
import Derived.Test.YtlkjeneffohnkaaDoorPlan
import Derived.Test.YtlkjeneffohnkaaDoorWWords
set_option linter.unusedVariables false
set_option linter.unusedSimpArgs false
namespace Go.Proofs.YtlkjeneffohnkaaDoor
open Go.RowKit Go.Proofs Go.Proofs.Plan Go.Proofs.YtlkjeneffohnkaaDoorW.PrintWords
theorem Tryd.info24 : (Tryd.prog.info? 24).map (·.size) = some 32 := by kernel_rfl
abbrev kStr : Kd ByteArray := Kd.string
/-- a digest: 32 cells -/
def kH : Kd ByteArray where
  sz := 32
  E := []
  K := fun _ h cs => h.size = 32 ∧ cs = hc h
  M := fun _ _ _ h cs => h.size = 32 ∧ cs = hc h
  K_len := fun h => by rw [h.2]; exact hc_length h.1
  K_one := fun h u hu => by rw [h.2] at hu; exact hc_one _ u hu
  K_below := fun _ h => h
  K_of_M := fun h => h
  M_mono := fun _ h => h
  M_bound := fun h => h
  M_move := fun _ h => h
  M_lower := fun _ h => h
theorem add_add (ad : Addr) (m j : Nat) : (ad.add m).add j = ad.add (m + j) := by
  unfold Addr.add
  by_cases hm : m = 0
  · subst hm; simp
  · by_cases hj : j = 0
    · subst hj; simp [hm]
    · simp [hm, hj, Nat.add_assoc]
/-- the cells of a variable at an address -/
def World.at_ (w : World) (ad : Addr) (cs : List Value) : Prop := ∀ j v, cs[j]? = some v → w.cell? (ad.add j) = some v
theorem at_below {w w1 : World} (hb : Below w.heap.size w w1) {ad : Addr} {cs : List Value} (h : World.at_ w ad cs) : World.at_ w1 ad cs := fun j v hj => cell_below hb (h j v hj)
theorem at_range {w : World} {b o : Nat} {cs : List Value} (h : w.rangeAt b o cs) : World.at_ w ⟨b, o, none⟩ cs := fun j v hj => by rw [Addr.add_mid]; exact h j v hj
theorem run_loadVar_at {P : Program} (w : World) (ad : Addr) (ty : TypeId) (cs : List Value) (d : TypeDesc) (hc : World.at_ w ad cs)
    (hu : P.underlying ty = some d) (hd : d.isRow = true) (hi : (P.info? ty).map (·.size) = some cs.length) : (loadVar ty ad).run P w = .ok (.agg cs.toArray) w := by
  have hl : (loadCells ad cs.length).run P w = .ok cs.toArray w := run_loadCells_list (P := P) w ad cs hc
  cases hq : P.info? ty with
  | none => simp [hq] at hi
  | some i =>
    have hs : i.size = cs.length := by simpa [hq] using hi
    have hagg : (isAgg ty).run P w = .ok true w := by
      unfold isAgg
      rw [Sem.run_bind, run_underlying hu w]
      cases d <;> simp_all
    simp [loadVar, Sem.run_bind, hagg, sizeOf, typeInfo, hq, hs, hl]
/-- a load of an array or a struct, in a plain region -/
theorem l_load {P : Program} {ops : Array Oper} {rest : List Oper} {op : Oper} {a : Act} {w : World} {Q : Exit → Act → World → Prop} (hgd : op.guard = none) {ty : TypeId} {x : Operand} (ho : op.op = .load ty x)
    {ad : Addr} (hx : a.eval x = .pointer (some ad)) {cs : List Value} {d : TypeDesc} (hc : World.at_ w ad cs)
    (hu : P.underlying ty = some d) (hd : d.isRow = true) (hi : (P.info? ty).map (·.size) = some cs.length)
    (h : wpList P ops Q rest (a.put op.dst (.agg cs.toArray)) w) : wpList P ops Q (op :: rest) a w :=
  wpList_plain hgd fun _ hK => by
    unfold Oper.wp execOp
    simp only [ho, hx, Instr.loadAt, Instr.sureAddr, Sem.run_bind, Sem.run_pure, Result.andThen_ok, run_loadVar_at w ad ty cs d hc hu hd hi]
    exact hK _ _ h
theorem p_loadA {P : Program} {Q : Exit → Act → World → Prop} {S : World → Prop} {r : EP} {a : Act} {w : World} {o : Oper} {ty : TypeId} {x : Operand} (ho : o.op = .load ty x) {ad : Addr} (hx : a.eval x = .pointer (some ad)) {cs : List Value} {d : TypeDesc}
    (hS : ∀ w', S w' → World.at_ w' ad cs) (hu : P.underlying ty = some d) (hd : d.isRow = true) (hs : (P.info? ty).map (·.size) = some cs.length)
    (h : wpP P Q S r (a.put o.dst (.agg cs.toArray)) w) : wpP P Q S (.c (o, none, none) r) a w :=
  p_q (fun w' hw' => by
    unfold execOp
    simp only [ho, hx, Instr.loadAt, Instr.sureAddr, Sem.run_bind, Sem.run_pure, Result.andThen_ok, run_loadVar_at w' ad ty cs d (hS w' hw') hu hd hs]) h
/-- element i of a list of digests -/
theorem kH_get {w : World} {A : Option Addr} {n : Nat} {xs : List ByteArray} (h : kH.C w A n xs) (i : Nat) (hi : i < n) : ∃ ad, A = some ad ∧ World.at_ w (ad.add (i * 32)) (hc (xs.getD i hz)) ∧ (xs.getD i hz).size = 32 := by
  obtain ⟨ad, c, e, hl, hk, hcell⟩ := Kd.C_get h hz (i : Int) (by omega) (by omega)
  rw [Int.toNat_natCast] at hk hcell
  obtain ⟨h1, rfl⟩ := hk
  exact ⟨ad, e, fun j v hj => by rw [add_add]; exact hcell j v hj, h1⟩
/-- an array or a struct is stored, in a plain region -/
theorem l_store {P : Program} {ops : Array Oper} {rest : List Oper} {op : Oper} {a : Act} {w : World} {Q : Exit → Act → World → Prop} (hgd : op.guard = none) {ty : TypeId} {x y : Operand} (ho : op.op = .store ty x y)
    {b o : Nat} (hx : a.eval x = .pointer (some ⟨b, o, none⟩)) {cells : Array Value} (hy : a.eval y = .agg cells)
    (ht : w.there b o cells.size) (hi : (P.info? ty).map (·.size) = some cells.size) (h1 : cells.all (·.oneCell') = true)
    (h : wpList P ops Q rest (a.put op.dst undef) (w.setCells b o cells.toList)) : wpList P ops Q (op :: rest) a w :=
  wpList_store_mid hgd ty x y ho b o cells hx hy ht hi h1 h
theorem at_block {w : World} {g : Nat} {h : ByteArray} {t : TypeId} {fr : Nat × Nat} (hb : w.heap[g]? = some (.cells (hv h) t fr)) : World.at_ w ⟨g, 0, none⟩ (hc h) := at_range (range_block hb)
/-- a digest as a parameter, and a result's variable -/
theorem wp_Hr {P : Program} {c : Code} {Q : Exit → Act → World → Prop} {a : Act} {w : World} {h1 : ByteArray} {C : Array Value} {t1 t : TypeId} (n : Nat) (hn : C.size = n)
    (k : ∀ w1, Below w.heap.size w w1 → World.at_ w1 ⟨w.heap.size, 0, none⟩ (hc h1) → w1.there (w.heap.size + 1) 0 n → w1.heap.size = w.heap.size + 2 → c.wp P Q a w1) : c.wp P Q a ((w.alloc (.cells (hv h1) t1)).alloc (.cells C t)) :=
  k _ (((Below.refl _ _).alloc (Nat.le_refl _) _).alloc (by simp) _) (at_block (t := t1) (fr := (0, 0)) (heap_alloc_at (heap_alloc_is _ _ _ rfl))) (there_block (heap_alloc_is _ _ _ (by simp)) 0 n (by omega)) (by simp)
theorem wp_HHr {P : Program} {c : Code} {Q : Exit → Act → World → Prop} {a : Act} {w : World} {h1 h2 : ByteArray} {C : Array Value} {t1 t2 t : TypeId} (n : Nat) (hn : C.size = n)
    (k : ∀ w1, Below w.heap.size w w1 → World.at_ w1 ⟨w.heap.size, 0, none⟩ (hc h1) → World.at_ w1 ⟨w.heap.size + 1, 0, none⟩ (hc h2) → w1.there (w.heap.size + 1 + 1) 0 n → w1.heap.size = w.heap.size + 3 → c.wp P Q a w1) : c.wp P Q a (((w.alloc (.cells (hv h1) t1)).alloc (.cells (hv h2) t2)).alloc (.cells C t)) :=
  k _ ((((Below.refl _ _).alloc (Nat.le_refl _) _).alloc (by simp) _).alloc (by simp; omega) _) (at_block (t := t1) (fr := (0, 0)) (heap_alloc_at (heap_alloc_at (heap_alloc_is _ _ _ rfl)))) (at_block (t := t2) (fr := (0, 0)) (heap_alloc_at (heap_alloc_is _ _ _ (by simp)))) (there_block (heap_alloc_is _ _ _ (by simp)) 0 n (by omega)) (by simp)
/-! arrays that are known whole -/
section
variable {P : Program} {ops : Array Oper} {rest : List Oper} {op : Oper} {a : Act} {w : World} {Q : Exit → Act → World → Prop} {ty : TypeId} {n : Nat} {e : TypeId} {C : Array Value}
theorem row_at {g t : Nat} {fr : Nat × Nat} (hr : w.heap[g]? = some (.cells C t fr)) : World.at_ w ⟨g, 0, none⟩ C.toList := at_range (fun j v hj => by
  rw [cell_of_row _ _ _ _ _ _ hr]; simpa using hj)
theorem l_loadR (hgd : op.guard = none) {x : Operand} (ho : op.op = .load ty x) {ad : Addr} (hx : a.eval x = .pointer (some ad)) (hc' : World.at_ w ad C.toList) (hn : C.size = n)
    (hu : P.underlying ty = some (.array n e)) (hi : (P.info? ty).map (·.size) = some n) (k : wpList P ops Q rest (a.put op.dst (.agg C)) w) : wpList P ops Q (op :: rest) a w :=
  l_load hgd ho hx hc' hu rfl (by rw [Array.length_toList, hn]; exact hi) (by rw [Array.toArray_toList]; exact k)
theorem l_storeR (hgd : op.guard = none) {x y : Operand} (ho : op.op = .store ty x y) {b o : Nat} (hx : a.eval x = .pointer (some ⟨b, o, none⟩)) (hy : a.eval y = .agg C) (hn : C.size = n)
    (ht : w.there b o n) (hi : (P.info? ty).map (·.size) = some n) (h1 : C.all (·.oneCell') = true) (k : wpList P ops Q rest (a.put op.dst undef) (w.setCells b o C.toList)) : wpList P ops Q (op :: rest) a w :=
  l_store hgd ho hx hy (by rw [hn]; exact ht) (by rw [hn]; exact hi) h1 k
theorem ret_R {fn : Func} {R : Ending → World → Prop} {p b o : Nat} (hr : fn.results = #[.cell p ty]) (hp : a.tmps[p]?.getD undef = .pointer (some ⟨b, o, none⟩)) (ht : w.there b o n) (hn : C.size = n)
    (hu : P.underlying ty = some (.array n e)) (hi : (P.info? ty).map (·.size) = some n) (hdf : a.defers = []) (hR : R (.returned (.agg C)) (w.setCells b o C.toList)) : bodyPost P fn R .ret a (w.setCells b o C.toList) :=
  ret_row (cs := C.toList) hr hp (World.rangeAt_setCells_same _ _ _ _ (by rw [Array.length_toList, hn]; exact ht)) hu rfl (by rw [Array.length_toList, hn]; exact hi) hdf (by rw [Array.toArray_toList]; exact hR)
end
/-! digests -/
section
variable {P : Program} {ops : Array Oper} {rest : List Oper} {op : Oper} {a : Act} {w : World} {Q : Exit → Act → World → Prop} {S : World → Prop} {r : EP} {ty e : TypeId} {h : ByteArray}
theorem l_loadH (hgd : op.guard = none) {x : Operand} (ho : op.op = .load ty x) {ad : Addr} (hx : a.eval x = .pointer (some ad)) (hc' : World.at_ w ad (hc h)) (h32 : h.size = 32)
    (hu : P.underlying ty = some (.array 32 e)) (hi : (P.info? ty).map (·.size) = some 32) (k : wpList P ops Q rest (a.put op.dst (.agg (hv h))) w) : wpList P ops Q (op :: rest) a w :=
  l_load hgd ho hx hc' hu rfl (by rw [hc_length h32]; exact hi) k
theorem l_storeH (hgd : op.guard = none) {x y : Operand} (ho : op.op = .store ty x y) {b o : Nat} (hx : a.eval x = .pointer (some ⟨b, o, none⟩)) (hy : a.eval y = .agg (hv h))
    (ht : w.there b o 32) (h32 : h.size = 32) (hi : (P.info? ty).map (·.size) = some 32) (k : wpList P ops Q rest (a.put op.dst undef) (w.setCells b o (hc h))) : wpList P ops Q (op :: rest) a w :=
  l_store hgd ho hx hy (by rw [hv_size h32]; exact ht) (by rw [hv_size h32]; exact hi) (hv_one _) (by rw [hv_toList]; exact k)
theorem p_loadH {o : Oper} {x : Operand} (ho : o.op = .load ty x) {ad : Addr} (hx : a.eval x = .pointer (some ad)) (hS : ∀ w', S w' → World.at_ w' ad (hc h)) (h32 : h.size = 32)
    (hu : P.underlying ty = some (.array 32 e)) (hi : (P.info? ty).map (·.size) = some 32) (k : wpP P Q S r (a.put o.dst (.agg (hv h))) w) : wpP P Q S (.c (o, none, none) r) a w :=
  p_loadA ho hx hS hu rfl (by rw [hc_length h32]; exact hi) k
theorem p_storeH {o : Oper} {b : Bool} {x y : Operand} (ho : o.op = .store ty x y) {bk off : Nat} (hx : a.eval x = .pointer (some ⟨bk, off, none⟩)) (hy : a.eval y = .agg (hv h))
    (ht : w.there bk off 32) (h32 : h.size = 32) (hi : (P.info? ty).map (·.size) = some 32) (hS : b = true → S (w.setCells bk off (hc h)))
    (k : wpP P Q S r (a.put o.dst undef) (w.setCells bk off (hc h))) : wpP P Q S (.c (o, some b, none) r) a w :=
  p_store ho hx hy (by rw [hv_size h32]; exact ht) (by rw [hv_size h32]; exact hi) (hv_one _) (by rw [hv_toList]; exact hS) (by rw [hv_toList]; exact k)
theorem ret_H {fn : Func} {R : Ending → World → Prop} {p b o : Nat} (hr : fn.results = #[.cell p ty]) (hp : a.tmps[p]?.getD undef = .pointer (some ⟨b, o, none⟩)) (ht : w.there b o 32) (h32 : h.size = 32)
    (hu : P.underlying ty = some (.array 32 e)) (hi : (P.info? ty).map (·.size) = some 32) (hdf : a.defers = []) (hR : R (.returned (.agg (hv h))) (w.setCells b o (hc h))) : bodyPost P fn R .ret a (w.setCells b o (hc h)) :=
  ret_row (cs := hc h) hr hp (World.rangeAt_setCells_same _ _ _ _ (by rw [hc_length h32]; exact ht)) hu rfl (by rw [hc_length h32]; exact hi) hdf hR
end
section
variable {P : Program}
theorem cut_take (t e : TypeId) (k : IntKind) (size : Nat) (ht : P.underlying t = some (.slice e)) (hi : (P.info? e).map (·.size) = some size) (A : Option Addr) (n c m : Nat) (hm : m ≤ c) :
    ∀ W : World, (Instr.slice t (.slice A n c) none (some (.int k (m : Int))) none).run P W = .ok (.slice A m c) W := by
  intro W
  have hel : P.elem t = e := by simp [Program.elem, ht]
  have hu : P.underlying t = some (.slice (P.elem t)) := by rw [hel]; exact ht
  obtain ⟨i0, hi0, hs0⟩ := Option.map_eq_some_iff.1 hi
  rw [run_slice_h W t A n c hu k (m : Int) (Int.natCast_nonneg _) (by omega), hel]
  simp [sizeOf, typeInfo, hi0, hs0, sliced, Result.andThen]
  intro _
  cases A <;> simp [Addr.add]
theorem cut_drop (t e : TypeId) (k : IntKind) (size : Nat) (ht : P.underlying t = some (.slice e)) (hi : (P.info? e).map (·.size) = some size) (A : Option Addr) (n c m : Nat) (hm : m ≤ n) :
    ∃ A' : Option Addr, (∀ W : World, (Instr.slice t (.slice A n c) (some (.int k (m : Int))) none none).run P W = .ok (.slice A' (n - m) (c - m)) W) ∧
      ∀ {α : Type} (d : Kd α) (w : World) (xs : List α), d.sz = size → n ≤ c → d.C w A n xs → d.C w A' (n - m) (xs.drop m) := by
  obtain ⟨i0, hi0, hs0⟩ := Option.map_eq_some_iff.1 hi
  refine ⟨if c = m then A else A.map (·.add (m * size)), fun W => ?_, fun d w xs hd hc h => ?_⟩
  · have hel : P.elem t = e := by simp [Program.elem, ht]
    have hu : P.underlying t = some (.slice (P.elem t)) := by rw [hel]; exact ht
    rw [run_slice_l W t A n c hu k (m : Int) (Int.natCast_nonneg _) (by omega), hel]
    simp [sizeOf, typeInfo, hi0, hs0, sliced, Result.andThen]
  · obtain rfl := h.1
    have := Kd.C_drop h hm hc
    rw [List.length_drop, hd] at this
    exact this
end
theorem run_idx {P : Program} {t e n : Nat} {k : IntKind} {cs : Array Value} {i : Nat} {v : Value} {d : TypeDesc} (hu : P.underlying t = some (.array n e)) (he : P.underlying e = some d) (hd : d.isRow = false) (hs : (P.info? e).map (·.size) = some 1) (hi : i < n) (hv : cs[i]? = some v) :
    ∀ w, (Instr.index t (.agg cs) (.int k (i : Int))).run P w = .ok v w := by
  intro w
  have hagg : (isAgg e).run P w = .ok false w := by
    unfold isAgg
    rw [Sem.run_bind, run_underlying he w]
    cases d <;> simp_all
  obtain ⟨i0, hi0, hs0⟩ := Option.map_eq_some_iff.1 hs
  have h1 : 0 ≤ (i : Int) ∧ (i : Int) < (n : Int) := by omega
  simp [Instr.index, asIntOf, Sem.run_bind, run_underlying hu, h1, part, hagg, sizeOf, typeInfo, hi0, hs0, hv, go_sem]
  intro hc; omega
end Go.Proofs.YtlkjeneffohnkaaDoor
