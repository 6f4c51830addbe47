import Derived.Test.YtlkjeneffohnkaaDoorPf7
import Derived.Laws.Rows
set_option linter.unusedVariables false
set_option linter.unusedSimpArgs false
namespace Go.Proofs.YtlkjeneffohnkaaDoor
open Go.RowKit Go.Proofs Go.Proofs.Plan Go.Proofs.YtlkjeneffohnkaaDoorW.PrintWords
section
variable {P : Program} {ops : Array Oper} {rest : List Oper} {o : Oper} {a : Act} {Q : Exit → Act → World → Prop}
/-- a literal slice of one aggregate -/
theorem l_lit1K {W : World} (hgd : o.guard = none) {x : Operand} {t e : TypeId} (ho : o.op = .buildSlice t 1 #[(0, x)]) {V Z : Array Value} {n b : Nat} (hx : a.eval x = .agg V) (hV : V.size = n) (hn : 0 < n) (hn2 : n ≤ 1000) (hb : 0 < b)
    (ht : P.underlying t = some (.slice e)) (hinfo : (P.info? e).map (fun i => (i.zero, i.size, i.bytes)) = some (some (.agg Z), n, b)) (hZ : Z.size = n)
    (k : wpList P ops Q rest (a.put o.dst (.slice (some ⟨W.heap.size, 0, none⟩) 1 1)) (W.alloc (.cells V e))) : wpList P ops Q (o :: rest) a W := by
  obtain ⟨i0, hi, hzz⟩ := Option.map_eq_some_iff.1 hinfo
  simp only [Prod.mk.injEq] at hzz
  obtain ⟨hz0, hz1, hz2⟩ := hzz
  refine wpList_buildSlice hgd t e 1 _ ho V i0 _ ht hi hz0 (by rw [hz1]; omega) (by omega) ?_ k
  simp only [List.map_toArray, List.map_cons, List.map_nil, hx, hz1]
  exact fill_one (by simp [Value.cells, hZ]) hV
/-- a struct is stored -/
theorem l_storeS {w : World} (hgd : o.guard = none) {ty : TypeId} {x y : Operand} (ho : o.op = .store ty x y) {b f : Nat} (hx : a.eval x = .pointer (some ⟨b, f, none⟩)) {C : Array Value} {n : Nat} (hy : a.eval y = .agg C) (hn : C.size = n)
    (ht : w.there b f n) (hi : (P.info? ty).map (·.size) = some n) (h1 : C.all (·.oneCell') = true) (k : wpList P ops Q rest (a.put o.dst undef) (w.setCells b f C.toList)) : wpList P ops Q (o :: rest) a w :=
  l_store hgd ho hx hy (by rw [hn]; exact ht) (by rw [hn]; exact hi) h1 k
/-- append of one element to a row of the call's own -/
theorem l_appendK {α : Type} (d : Kd α) {w0 W : World} {base : Nat} {e : TypeId} {v : Value} {xs : List α} (HO : d.R e W base yes v xs) (HB : Below base w0 W) (hbase : base ≤ W.heap.size) (hgd : o.guard = none) {s x : Operand} {t : TypeId} {Z : Array Value} {b : Nat}
    (ho : o.op = .call { callee := .builtin .append, args := #[s, x], argTypes := #[t, t] }) (ht : P.underlying t = some (.slice e)) (hinfo : (P.info? e).map (fun i => (i.zero, i.size, i.bytes)) = some (some (.agg Z), d.sz, b))
    (hZ : Z.size = d.sz) (h0 : 0 < d.sz) (hb : 0 < b) {p : α} {cs : List Value} (hs : a.eval s = v) (hx : a.eval x = .slice (some ⟨W.heap.size, 0, none⟩) 1 1)
    (hp : d.M W base (fun k => some k ≠ v.ownBlock) p cs) (hl : (xs.length + 1) * b ≤ 140737488355328)
    (k : ∀ v1 w1, d.R e w1 base yes v1 (xs ++ [p]) → Below base w0 w1 → W.grownBy w1 v.ownBlock → wpList P ops Q rest (a.put o.dst v1) w1) : wpList P ops Q (o :: rest) a (W.alloc (.cells cs.toArray e)) :=
  Kd.R_append d base hgd s x t e (.agg Z) b ho ht hinfo hZ h0 hb v xs p cs yes _ hs hx hp (fun _ hk => ⟨trivial, hk⟩) (fun _ _ => trivial) HO HB hbase hl (fun v1 w1 h1 h2 h3 _ => k v1 w1 h1 h2 h3)
/-- append(v, ys...) of rows that are read; plain cells -/
theorem l_appendRows {α : Type} (d : Kd α) (hplain : ∀ w base ok w' x cs, d.K w x cs → d.M w' base ok x cs) {w0 W : World} {base : Nat} {e : TypeId} {v : Value} {xs ys : List α} {A : Option Addr} {m : Nat} (HO : d.R e W base yes v xs) (HR : d.C W A m ys) (HB : Below base w0 W) (hbase : base ≤ W.heap.size) (hgd : o.guard = none) {s x : Operand} {t : TypeId} {Z : Array Value} {b : Nat}
    (ho : o.op = .call { callee := .builtin .append, args := #[s, x], argTypes := #[t, t] }) (ht : P.underlying t = some (.slice e)) (hinfo : (P.info? e).map (fun i => (i.zero, i.size, i.bytes)) = some (some (.agg Z), d.sz, b))
    (hZ : Z.size = d.sz) (h0 : 0 < d.sz) (hb : 0 < b) {c : Nat} (hs : a.eval s = v) (hx : a.eval x = .slice A m c) (hl : (xs.length + m) * b ≤ 140737488355328)
    (k : ∀ v1 w1, d.R e w1 base yes v1 (xs ++ ys) → Below base w0 w1 → W.grownBy w1 v.ownBlock → wpList P ops Q rest (a.put o.dst v1) w1) : wpList P ops Q (o :: rest) a W :=
  Kd.R_append_rows d base hgd s x t e (.agg Z) b ho ht hinfo hZ h0 hb v xs ys A m c yes (fun k => some k ≠ v.ownBlock) hs hx HO HR (fun _ _ h => hplain _ _ _ _ _ _ h) (fun _ hk => ⟨trivial, hk⟩) (fun _ _ => trivial) HB hbase hl (fun v1 w1 h1 h2 h3 _ => k v1 w1 h1 h2 h3)
end
theorem one2 {a b : Value} (ha : a.oneCell' = true) (hb : b.oneCell' = true) : (#[a, b] : Array Value).all (·.oneCell') = true := by simp [ha, hb]
theorem one4 {a b c d : Value} (ha : a.oneCell' = true) (hb : b.oneCell' = true) (hc : c.oneCell' = true) (hd : d.oneCell' = true) : (#[a, b, c, d] : Array Value).all (·.oneCell') = true := by simp [ha, hb, hc, hd]
theorem kP_plain : ∀ w base ok w' x cs, kP.K w x cs → kP.M w' base ok x cs := fun _ _ _ _ _ _ h => h
/-- a block that is none of an own row's stays when the row grows -/
theorem block_grown {α : Type} {d : Kd α} {e base : Nat} {ok : Nat → Prop} {W w1 : World} {v : Value} {xs : List α} (hR : d.R e W base ok v xs) (hg : W.grownBy w1 v.ownBlock) {g t : Nat} {cells : Array Value} (hb : W.heap[g]? = some (.cells cells t (0, 0))) (ht : e ≠ t) :
    w1.heap[g]? = some (.cells cells t (0, 0)) :=
  (hg.block g (Array.getElem?_eq_some_iff.1 hb).1 (Kd.R_ne hR hb ht)).trans hb
theorem cell_block {w : World} {g t : Nat} {cells : Array Value} (hb : w.heap[g]? = some (.cells cells t (0, 0))) (j : Nat) {v : Value} (hj : cells[j]? = some v) : w.cell? ⟨g, j, none⟩ = some v := by
  rw [cell_of_row _ _ _ _ _ _ hb]; exact hj
theorem frozen_block {w : World} {g t : Nat} {cells : Array Value} (hb : w.heap[g]? = some (.cells cells t (0, 0))) (j : Nat) : w.frozen? ⟨g, j, none⟩ = false := by
  rw [frozen_of_row _ _ _ _ _ hb]
theorem Tryd.infoP : (Tryd.prog.info? 60).map (fun i => (i.zero, i.size, i.bytes)) = some (some (.agg #[.string ByteArray.empty, .string ByteArray.empty]), 2, 32) := by kernel_rfl
theorem Tryd.infoQ : (Tryd.prog.info? 46).map (fun i => (i.zero, i.size, i.bytes)) = some (some (.agg #[.string ByteArray.empty, .string ByteArray.empty]), 2, 32) := by kernel_rfl
theorem Tryd.infoL : (Tryd.prog.info? 114).map (fun i => (i.zero, i.size, i.bytes)) = some (some (.agg #[.string ByteArray.empty, .string ByteArray.empty, .int .i64 0, .slice none 0 0]), 4, 64) := by kernel_rfl
/-- the world has grown: but for one row of the call's own nothing of wr has changed, nothing of w -/
def Gr (w wr : World) (row : Option Nat) (w' : World) : Prop := wr.grownBy w' row ∧ Below w.heap.size w w'
theorem grown_refl (w : World) (row : Option Nat) : w.grownBy w row := ⟨rfl, rfl, rfl, Nat.le_refl _, fun _ _ _ => rfl⟩
theorem grown_below {w w1 : World} (h : Below w.heap.size w w1) (row : Option Nat) : w.grownBy w1 row := ⟨h.os, h.tape, h.output, h.size, fun k hk _ => h.block k hk⟩
theorem grown_trans {w w1 w2 : World} {row : Option Nat} (h : w.grownBy w1 row) (k : w1.grownBy w2 row) : w.grownBy w2 row :=
  ⟨k.os.trans h.os, k.tape.trans h.tape, k.output.trans h.output, Nat.le_trans h.size k.size, fun i hi hr => (k.block i (Nat.lt_of_lt_of_le hi h.size) hr).trans (h.block i hi hr)⟩
theorem Gr.start {w wr : World} {row : Option Nat} (hb : Below w.heap.size w wr) : Gr w wr row wr.drew := ⟨grown_below (Below.refl _ _).drew _, hb.drew⟩
theorem Gr.next {w wr W w2 : World} {row : Option Nat} (h : Gr w wr row W) (k : Below W.heap.size W w2) : Gr w wr row w2 := ⟨grown_trans h.1 (grown_below k _), below_next h.2 k⟩
theorem Gr.alloc {w wr W : World} {row : Option Nat} (h : Gr w wr row W) (o : Obj) : Gr w wr row (W.alloc o) := h.next (below_alloc (Below.refl _ _) _)
theorem Gr.grown {w wr W w2 : World} {row : Option Nat} (h : Gr w wr row W) (k : W.grownBy w2 row) (b : Below w.heap.size w w2) : Gr w wr row w2 := ⟨grown_trans h.1 k, b⟩
theorem Gr.cell {w wr w' : World} {row : Option Nat} (h : Gr w wr row w') {ad : Addr} {v : Value} (hc : wr.cell? ad = some v ∧ some ad.block ≠ row) : w'.cell? ad = some v := by
  rw [World.cell?_of_block (w := wr) (a := ad) (h.1.block _ (World.block_lt_of_cell? _ _ hc.1) hc.2)]; exact hc.1
theorem eg_of {f : FuncId} {fn : Func} {c : Code} (hf : Tryd.prog.funcs[f]? = some fn) (hname : (fn.name == "runtime.NumGoroutine") = false) (hb : fn.body = some c) : ∀ args w, (callFunc f args).run Tryd.prog w = .ok (.enter f args) w := by
  intro args w
  have h1 : fn.name ≠ "runtime.NumGoroutine" := by simpa using hname
  simp [callFunc, hf, h1, hb, mark]
end Go.Proofs.YtlkjeneffohnkaaDoor
