import Derived.Test.YtlkjeneffohnkaaDoorCards
import Derived.Test.YtlkjeneffohnkaaDoorTie
import Derived.Test.YtlkjeneffohnkaaDoorKd
import Derived.WalkKit
import Derived.ProofKit
import Derived.OpenShut
import Derived.ShutString
import Derived.ChangeOld
import Derived.Deep.SlicePairs
import Derived.Deep.DeepHandedRow
import Derived.Lib.LaidTab
import Derived.SevenTiedAt
set_option linter.unusedVariables false
namespace Go.Proofs.YtlkjeneffohnkaaDoor
open Go.ChangeShapes Go.WideShapes Go.ChangeAt Go.RowKit Go.Deep
open Go.ChangeMaps (open_string shut_string)
theorem own : ownKnob Tryd.prog.godebug = none := by kernel_rfl
theorem laidOut : laidOutB Tryd.prog = true := by kernel_rfl
theorem gTab : Tryd.prog.globalNamed "lighterman/sha.steps" = some 0 := by kernel_rfl
theorem gTabType : (Tryd.prog.globals[0]?).map (·.type) = some 173 := by kernel_rfl
theorem cellsTab : Tryd.prog.cellsOf 173 = 64 := by kernel_rfl
theorem cellsU32 : Tryd.prog.cellsOf 171 = 1 := by kernel_rfl
theorem cellsPair : Tryd.prog.cellsOf 46 = 2 := by kernel_rfl
theorem cellsStr : Tryd.prog.cellsOf 9 = 1 := by kernel_rfl
theorem laid_eq : (Rows.laid_lighterman_sha_steps : DataW Unit) = Lib.tabData .u32 (kk.map wv) := by kernel_rfl
theorem getD_wv : ∀ (l : List (BitVec 32)) (i : Nat), (l.map wv).getD i 0 = wv (l.getD i 0)
  | [], i => by simp [wv]
  | a :: l, 0 => rfl
  | a :: l, i + 1 => by simpa using getD_wv l i
/-- what the rows' list gives: the table's cells hold its numbers -/
theorem table {W : World} (h : laidMetH Tryd.prog [("lighterman/sha.steps", Rows.laid_lighterman_sha_steps)] W) : Tab W := fun i hi => by
  rw [laid_eq] at h
  have ht : Lib.TabIs Tryd.prog W "lighterman/sha.steps" .u32 (kk.map wv) := Lib.tabIs_of_head (rest := []) gTab gTabType Tryd.underlying173 Tryd.underlying171 cellsU32 cellsTab h
  have := ht.cell gTab i (by rw [List.length_map]; exact hi)
  rw [this, getD_wv]
/-- a world for the witness: the settled one, the table holding what its initialiser lays -/
noncomputable def laidWorld (os : Os) : World :=
  { World.holding Tryd.prog os ⟨#[], #[], []⟩ with heap := (World.holding Tryd.prog os ⟨#[], #[], []⟩).heap.modify 0 fun
      | .cells _ t frozen => .cells (kk.map fun x => Value.int .u32 (wv x)).toArray t frozen
      | o => o }
/-- a slice of pairs, opened -/
theorem kP_open {H : Type} {enc : TypeId × Value → H} {W : World} {a : Option Addr} {len cap : Nat} {d : DataW H} {ps : List MemPlace}
    (h : DataW.Trod enc Tryd.prog W 0 (fun _ => true) true 22 (.slice a len cap) d ps) : ∃ xs : List Pr, len ≤ cap ∧ kP.C W a len xs := by
  obtain ⟨fuel, hf⟩ := h
  rcases open_slice_pairs Tryd.underlying22 Tryd.underlying46 cellsPair rfl rfl cellsStr cellsStr hf with ⟨hcs, _⟩ | ⟨x, l, c, m, n, V0, V1, D0, D1, P0, P1, hcs, hb, hl, hm, hmm, _, hall⟩
  · simp [Value.cells] at hcs
    obtain ⟨rfl, rfl, rfl⟩ := hcs
    exact ⟨[], Nat.le_refl _, rfl, by simp, fun h => absurd h (Nat.lt_irrefl 0)⟩
  · simp [Value.cells] at hcs
    obtain ⟨rfl, rfl, rfl⟩ := hcs
    haveI : Inhabited Pr := ⟨dP⟩
    have each : ∀ i, i < len → ∃ p : Pr, W.cell? (x.add (i * 2)) = some (.string p.key) ∧ W.cell? (x.add (i * 2 + 1)) = some (.string p.val) := fun i hi => by
      obtain ⟨h0, h1, t0, t1⟩ := hall i (by rw [hmm]; split <;> omega)
      obtain ⟨s0, e0, _, _⟩ := DataW.trod_string Tryd.underlying9 t0
      obtain ⟨s1, e1, _, _⟩ := DataW.trod_string Tryd.underlying9 t1
      simp only [List.cons.injEq, and_true] at e0 e1
      exact ⟨⟨s0, s1⟩, by rw [h0, e0], by rw [h1, e1]⟩
    obtain ⟨f, hf⟩ := choose_lt each
    have hbig : maxLen ≤ 9223372036854775807 := by decide
    refine ⟨(List.range len).map f, hl, by simp, by omega, fun _ => ⟨x, rfl, fun j p hj => ?_⟩⟩
    rw [List.getElem?_map] at hj
    obtain ⟨i, hi, rfl⟩ := Option.map_eq_some_iff.1 hj
    obtain ⟨hij, hi'⟩ := List.getElem?_eq_some_iff.1 hi
    rw [List.getElem_range] at hi'
    subst hi'
    rw [List.length_range] at hij
    obtain ⟨h0, h1⟩ := hf j hij
    refine ⟨pc (f j), rfl, rfl, fun i u hu => ?_⟩
    match i with
    | 0 => injection hu with hu; subst hu; exact h0
    | 1 => injection hu with hu; subst hu; exact h1
    | i + 2 => simp [pc] at hu
end Go.Proofs.YtlkjeneffohnkaaDoor
