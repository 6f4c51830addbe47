import Derived.Test.YtlkjeneffohnkaaDoorProg
import Derived.Test.YtlkjeneffohnkaaDoorShaM
import Derived.WalkKit
import Derived.WalkSpells
import Derived.WalkLawsBesides
import Derived.Outline
import Derived.KernelRfl
import Derived.Deep.MidRow
import Derived.Deep.WholeRow
import Derived.Deep.RegionHeld3
import Derived.Deep.DeepFit
import Derived.Deep.LoopGhost
import Derived.Lib.Strings
import Derived.Lib.Hide
set_option linter.unusedVariables false
set_option linter.unusedSimpArgs false
namespace Go.Proofs.YtlkjeneffohnkaaDoor
open Go.RowKit Go.Proofs

def hc (h : ByteArray) : List Value := h.data.toList.map fun b => Value.int .u8 (b.toNat : Int)
def hv (h : ByteArray) : Array Value := (hc h).toArray
theorem hc_length {h : ByteArray} (hs : h.size = 32) : (hc h).length = 32 := by rw [hc, List.length_map, ← hs]; exact (Lib.size_eq h).symm
theorem hv_size {h : ByteArray} (hs : h.size = 32) : (hv h).size = 32 := by simp [hv, hc_length hs]
theorem hv_toList (h : ByteArray) : (hv h).toList = hc h := by simp [hv]
theorem hc_one (h : ByteArray) : ∀ v ∈ hc h, v.oneCell' = true := by
  intro v hv; obtain ⟨b, _, rfl⟩ := List.mem_map.1 hv; rfl
theorem hv_one (h : ByteArray) : (hv h).all (·.oneCell') = true := all_oneCell_toArray (hc_one h)

theorem run_convert_hash {P : Program} {w : World} (src e : TypeId) (hs : P.underlying src = some (.slice e)) (he : P.underlying e = some (.int .u8)) (b off cap : Nat) (h : ByteArray) (n : Nat) (hn : h.size = n)
    (hr : w.rangeAt b off (hc h)) (dst : TypeId) (hd : P.underlying dst = some .string) : (convert src dst (.slice (some ⟨b, off, none⟩) n cap)).run P w = .ok (.string h) w := by
  have := run_convert_bytes_arg (P := P) w src e hs he b off n cap (h.data.toList.map fun b => (b.toNat : Int)) (by rw [List.length_map, ← hn]; exact (Lib.size_eq h).symm) (fun i hi => by
    have hi' : i < h.data.toList.length := by rw [← Lib.size_eq, hn]; exact hi
    refine hr i _ ?_
    simp [hc, List.getD, List.getElem?_eq_getElem hi']) dst hd
  rw [this]
  congr 2
  apply ByteArray.ext
  have : (List.map ((fun n : Int => UInt8.ofNat n.toNat) ∘ fun b : UInt8 => (b.toNat : Int)) h.data.toList) = h.data.toList := by
    conv => rhs; rw [← List.map_id h.data.toList]
    refine List.map_congr_left fun x _ => ?_
    simp
  simp [strOfNums, this]

theorem run_convert_new {P : Program} (src e : TypeId) (hs : P.underlying src = some (.slice e)) (he : P.underlying e = some (.int .u8)) (w : World) (t : TypeId) (xs : List Int) (n c : Nat) (hn : xs.length = n) (dst : TypeId) (hd : P.underlying dst = some .string) :
    (convert src dst (.slice (some ⟨w.heap.size, 0, none⟩) n c)).run P (w.alloc (.cells (xs.map (Value.int .u8)).toArray t)) = .ok (.string (strOfNums xs)) (w.alloc (.cells (xs.map (Value.int .u8)).toArray t)) := by
  refine run_convert_bytes_arg _ src e hs he w.heap.size 0 n c xs hn (fun i hi => ?_) dst hd
  rw [cell_of_row _ _ _ _ _ _ (heap_alloc_new w _)]
  have : i < xs.length := by omega
  simp [List.getD, List.getElem?_eq_getElem this]
theorem range_alloc (w : World) (h : ByteArray) (t : TypeId) : (w.alloc (.cells (hv h) t)).rangeAt w.heap.size 0 (hc h) := fun j v hj => by
  rw [cell_of_row _ _ _ _ _ _ (heap_alloc_new w _)]; simpa [hv] using hj
theorem range_block {w : World} {g : Nat} {h : ByteArray} {t : TypeId} {fr : Nat × Nat} (hb : w.heap[g]? = some (.cells (hv h) t fr)) : w.rangeAt g 0 (hc h) := fun j v hj => by
  rw [cell_of_row _ _ _ _ _ _ hb]; simpa [hv] using hj
theorem z32_eq : #[Value.int IntKind.u8 0, Value.int IntKind.u8 0, Value.int IntKind.u8 0, Value.int IntKind.u8 0, Value.int IntKind.u8 0, Value.int IntKind.u8 0, Value.int IntKind.u8 0, Value.int IntKind.u8 0, Value.int IntKind.u8 0, Value.int IntKind.u8 0, Value.int IntKind.u8 0, Value.int IntKind.u8 0, Value.int IntKind.u8 0, Value.int IntKind.u8 0, Value.int IntKind.u8 0, Value.int IntKind.u8 0, Value.int IntKind.u8 0, Value.int IntKind.u8 0, Value.int IntKind.u8 0, Value.int IntKind.u8 0, Value.int IntKind.u8 0, Value.int IntKind.u8 0, Value.int IntKind.u8 0, Value.int IntKind.u8 0, Value.int IntKind.u8 0, Value.int IntKind.u8 0, Value.int IntKind.u8 0, Value.int IntKind.u8 0, Value.int IntKind.u8 0, Value.int IntKind.u8 0, Value.int IntKind.u8 0, Value.int IntKind.u8 0] = hv hz := rfl
theorem wp_gen {P : Program} {c : Code} {Q : Exit → Act → World → Prop} {a : Act} {w : World} (I : World → Prop) (h : I w) (k : ∀ w1, I w1 → c.wp P Q a w1) : c.wp P Q a w := k w h
theorem cell_below {w w1 : World} (h : Below w.heap.size w w1) {a : Addr} {v : Value} (hc : w.cell? a = some v) : w1.cell? a = some v := (h.cell (World.block_lt_of_cell? w a hc)).trans hc
theorem rangeAt_below {w w1 : World} (hb : Below w.heap.size w w1) {b o : Nat} {cs : List Value} (h : w.rangeAt b o cs) : w1.rangeAt b o cs := fun j v hj => cell_below hb (h j v hj)
theorem there_below {w w1 : World} (hb : Below w.heap.size w w1) {b o n : Nat} (h : w.there b o n) : w1.there b o n := fun j hj => by
  obtain ⟨h1, h2⟩ := h j hj
  obtain ⟨v, hv⟩ := Option.isSome_iff_exists.1 h1
  refine ⟨by rw [cell_below hb hv]; rfl, ?_⟩
  rw [hb.frozen (World.block_lt_of_cell? w _ hv)]; exact h2
theorem there_setCell {w : World} {g o n : Nat} {p : Addr} (u : Value) (h : w.there g o n) (hp : g ≠ p.block) : (w.setCell p u).there g o n := fun j hj => by
  obtain ⟨h1, h2⟩ := h j hj
  have e := Below.heap_setCell w p u g hp
  exact ⟨by rw [World.cell?_of_block (w := w) (a := ⟨g, o + j, none⟩) e]; exact h1, by rw [World.frozen?_of_block (w := w) (a := ⟨g, o + j, none⟩) e]; exact h2⟩
theorem block_below {w w1 : World} (hb : Below w.heap.size w w1) {g : Nat} {o : Obj} (h : w.heap[g]? = some o) : w1.heap[g]? = some o := (hb.block g (Array.getElem?_eq_some_iff.1 h).1).trans h
theorem there_block {w : World} {g : Nat} {C : Array Value} {t : TypeId} (h : w.heap[g]? = some (.cells C t (0, 0))) (o n : Nat) (hn : o + n ≤ C.size) : w.there g o n := fun j hj => by
  rw [cell_of_row _ _ _ _ _ _ h, frozen_of_row _ _ _ _ _ h]
  refine ⟨?_, rfl⟩
  rw [Array.getElem?_eq_getElem (show o + j < C.size by omega)]; rfl
theorem below_drewN {B : Nat} {w W : World} (h : Below B w W) (n : Nat) : Below B w (W.drewN n) := ⟨h.os, h.tape, h.output, h.size, h.block⟩
theorem below_then {B : Nat} {w w1 w2 : World} (h : Below B w w1) (hB : B ≤ w1.heap.size) (k : Below w1.heap.size w1 w2) : Below B w w2 :=
  h.trans ⟨k.os, k.tape, k.output, k.size, fun i hi => k.block i (Nat.lt_of_lt_of_le hi hB)⟩
theorem below_next {w w1 w2 : World} (h : Below w.heap.size w w1) (k : Below w1.heap.size w1 w2) : Below w.heap.size w w2 := below_then h h.size k
theorem heap_alloc_at {w : World} {o o' : Obj} {g : Nat} (h : w.heap[g]? = some o) : (w.alloc o').heap[g]? = some o := by
  have := (Array.getElem?_eq_some_iff.1 h).1
  exact (Below.heap_alloc w o' g this).trans h
theorem heap_alloc_is (w : World) (o : Obj) (g : Nat) (h : g = w.heap.size) : (w.alloc o).heap[g]? = some o := by subst h; exact heap_alloc_new w o
theorem below_setCells {B : Nat} {w0 : World} (g : Nat) : ∀ (vs : List Value) (o : Nat) {w : World}, Below B w0 w → B ≤ g → Below B w0 (w.setCells g o vs)
  | [], _, _, h, _ => h
  | v :: r, o, w, h, hg => by rw [World.setCells]; exact below_setCells g r (o + 1) (h.setCell (p := ⟨g, o, none⟩) hg v) hg
theorem range_new (w : World) (l : List Value) (t : TypeId) : (w.alloc (.cells l.toArray t)).rangeAt w.heap.size 0 l := fun j v hj => by
  rw [cell_of_row _ _ _ _ _ _ (heap_alloc_new w _)]; simpa using hj
/-- a result's variable has been laid -/
theorem wp_res {P : Program} {c : Code} {Q : Exit → Act → World → Prop} {a : Act} {w : World} {C : Array Value} {t : TypeId} (n : Nat) (hn : C.size = n)
    (k : ∀ w1, Below w.heap.size w w1 → w1.there w.heap.size 0 n → w1.heap.size = w.heap.size + 1 → c.wp P Q a w1) : c.wp P Q a (w.alloc (.cells C t)) :=
  k _ ((Below.refl _ _).alloc (Nat.le_refl _) _) (there_block (heap_alloc_is _ _ _ rfl) 0 n (by omega)) (by simp)
/-- the end of a function whose result lies in a variable: an array or a struct -/
theorem ret_row {P : Program} {fn : Func} {R : Ending → World → Prop} {a : Act} {w : World} {p ty : Nat} {b o : Nat} {cs : List Value} {d : TypeDesc} (hr : fn.results = #[.cell p ty])
    (hp : a.tmps[p]?.getD undef = .pointer (some ⟨b, o, none⟩)) (hc : w.rangeAt b o cs) (hu : P.underlying ty = some d) (hd : d.isRow = true) (hs : (P.info? ty).map (·.size) = some cs.length)
    (hdf : a.defers = []) (hR : R (.returned (.agg cs.toArray)) w) : bodyPost P fn R .ret a w := by
  refine bodyPost_ret (v := .agg cs.toArray) ?_ hdf hR
  simp [results, hr, hp, asAddr, run_loadVar_mid w b o ty cs d hc hu hd hs]
end Go.Proofs.YtlkjeneffohnkaaDoor
