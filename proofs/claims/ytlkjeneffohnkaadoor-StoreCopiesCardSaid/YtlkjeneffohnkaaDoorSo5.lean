import Derived.Test.YtlkjeneffohnkaaDoorSo1
import Derived.Test.YtlkjeneffohnkaaDoorSo4
set_option linter.unusedVariables false
set_option linter.unusedSimpArgs false
namespace Go.Proofs.YtlkjeneffohnkaaDoor
open Go.RowKit Go.Proofs Go.Proofs.Plan Go.Proofs.YtlkjeneffohnkaaDoorW.PrintWords
theorem Gh.next {wr W w2 : World} {row : Option Nat} (h : wr.grownBy W row) (k : Below W.heap.size W w2) : wr.grownBy w2 row := grown_trans h (grown_below k _)
theorem Gh.alloc {wr W : World} {row : Option Nat} (h : wr.grownBy W row) (o : Obj) : wr.grownBy (W.alloc o) row := Gh.next h (below_alloc (Below.refl _ _) _)
theorem Gh.cell {wr w' : World} {row : Option Nat} (h : wr.grownBy w' row) {ad : Addr} {v : Value} (hc : wr.cell? ad = some v ∧ some ad.block ≠ row) : w'.cell? ad = some v := by
  rw [World.cell?_of_block (w := wr) (a := ad) (h.block _ (World.block_lt_of_cell? _ _ hc.1) hc.2)]; exact hc.1
theorem Gh.range {wr w' : World} {row : Option Nat} (h : wr.grownBy w' row) {b o : Nat} {cs : List Value} (hc : wr.rangeAt b o cs ∧ some b ≠ row) : w'.rangeAt b o cs := fun j v hj => Gh.cell h ⟨hc.1 j v hj, hc.2⟩
/-- what a store holds -/
structure Sto (w : World) (base gs : Nat) (v : Value) (xs : List Pr) : Prop where
  le : base ≤ gs
  blk : w.heap[gs]? = some (.cells #[v] 136 (0, 0))
  row : kP.R 60 w base yes v xs
  good : good xs = true
  few : xs.length ≤ 1000000
/-- but for one block and one row nothing has changed -/
structure Chg (w w' : World) (g : Nat) (row : Option Nat) : Prop where
  os : w'.os = w.os
  tape : w'.tape = w.tape
  output : w'.output = w.output
  size : w.heap.size ≤ w'.heap.size
  block : ∀ k, k < w.heap.size → k ≠ g → some k ≠ row → w'.heap[k]? = w.heap[k]?
theorem Chg.of_below {w w' : World} (h : Below w.heap.size w w') (g : Nat) (row : Option Nat) : Chg w w' g row := ⟨h.os, h.tape, h.output, h.size, fun k hk _ _ => h.block k hk⟩
theorem Chg.of_grown {w w' : World} {row : Option Nat} (h : w.grownBy w' row) (g : Nat) : Chg w w' g row := ⟨h.os, h.tape, h.output, h.size, fun k hk _ hr => h.block k hk hr⟩
theorem Chg.trans {w w1 w2 : World} {g : Nat} {row : Option Nat} (h : Chg w w1 g row) (k : Chg w1 w2 g row) : Chg w w2 g row :=
  ⟨k.os.trans h.os, k.tape.trans h.tape, k.output.trans h.output, Nat.le_trans h.size k.size, fun i hi hg hr => (k.block i (Nat.lt_of_lt_of_le hi h.size) hg hr).trans (h.block i hi hg hr)⟩
theorem Chg.set {w w1 : World} {g : Nat} {row : Option Nat} (h : Chg w w1 g row) (j : Nat) (u : Value) : Chg w (w1.setCell ⟨g, j, none⟩ u) g row :=
  ⟨h.os, h.tape, h.output, by simpa [World.setCell] using h.size, fun i hi hg hr => (heap_setCell_other _ _ _ _ hg).trans (h.block i hi hg hr)⟩
theorem below_chg {B : Nat} {w0 w w' : World} {g : Nat} {row : Option Nat} (h : Below B w0 w) (k : Chg w w' g row) (hB : B ≤ w.heap.size) (hg : B ≤ g) (hr : ∀ k, row = some k → B ≤ k) : Below B w0 w' :=
  ⟨k.os.trans h.os, k.tape.trans h.tape, k.output.trans h.output, Nat.le_trans h.size k.size, fun i hi => (k.block i (Nat.lt_of_lt_of_le hi hB) (by omega) (fun e => by have := hr i e.symm; omega)).trans (h.block i hi)⟩
theorem Sto.below {w w' : World} {base gs : Nat} {v : Value} {xs : List Pr} (h : Sto w base gs v xs) (hb : Below w.heap.size w w') : Sto w' base gs v xs := ⟨h.le, block_below hb h.blk, Kd.R_below h.row hb, h.good, h.few⟩
theorem pairE : ∀ q, q ∈ 60 :: kP.E → q ≠ 136 := by
  intro q hq
  simp only [kP, List.mem_cons, List.not_mem_nil, or_false] at hq
  omega
theorem pairE1 : ∀ q, q ∈ 60 :: kP.E → q = 60 := by
  intro q hq
  simpa only [kP, List.mem_cons, List.not_mem_nil, or_false] using hq
theorem Sto.base {w : World} {base gs : Nat} {v : Value} {xs : List Pr} (h : Sto w base gs v xs) : ∀ k, v.ownBlock = some k → base ≤ k := Kd.R_base h.row
/-- the store's own block is not its row's -/
theorem Sto.ne {w : World} {base gs : Nat} {v : Value} {xs : List Pr} (h : Sto w base gs v xs) : some gs ≠ v.ownBlock := Kd.R_ne h.row h.blk (by decide)
/-- another store's stays when one changes -/
theorem Sto.other {w w' : World} {base gs g : Nat} {v u : Value} {xs : List Pr} (h : Sto w base gs v xs) (hc : Chg w w' g u.ownBlock) (h1 : gs ≠ g) (h2 : some gs ≠ u.ownBlock) (h3 : some g ≠ v.ownBlock) (h4 : ∀ k, v.ownBlock = some k → some k ≠ u.ownBlock) : Sto w' base gs v xs := by
  refine ⟨h.le, (hc.block gs (Array.getElem?_eq_some_iff.1 h.blk).1 h1 h2).trans h.blk, ?_, h.good, h.few⟩
  have ht : kP.R 60 w base (fun k => some k = v.ownBlock) v xs := ⟨fun k hk => hk.symm, h.row.2⟩
  exact Kd.R_mono (Kd.R_step ht (fun k hk hlt => hc.block k hlt (fun e => h3 (by rw [← e]; exact hk)) (h4 k hk.symm))) (fun _ _ => trivial)
end Go.Proofs.YtlkjeneffohnkaaDoor
