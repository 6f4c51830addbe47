import Derived.Test.YtlkjeneffohnkaaDoorRow0
import Derived.Test.YtlkjeneffohnkaaDoorSo9
set_option linter.unusedVariables false
namespace Go.Proofs.YtlkjeneffohnkaaDoor
open Go.ChangeShapes Go.WideShapes Go.ChangeAt Go.RowKit Go.Deep
open Go.ChangeMaps (open_string shut_string)
theorem cellsAct : Tryd.prog.cellsOf 67 = 3 := by kernel_rfl
theorem cellsInt : Tryd.prog.cellsOf 3 = 1 := by kernel_rfl
set_option maxRecDepth 100000 in
/-- a slice of acts, opened -/
theorem kA_open {H : Type} {enc : TypeId × Value → H} {W : World} {a : Option Addr} {len cap : Nat} {d : DataW H} {ps : List MemPlace}
    (h : DataW.Trod enc Tryd.prog W 0 (fun _ => true) true 64 (.slice a len cap) d ps) : ∃ xs : List Ac, len ≤ cap ∧ kA.C W a len xs := by
  obtain ⟨fuel, hf⟩ := h
  rcases open_slice Tryd.underlying64 hf with ⟨hcs, _⟩ | ⟨x, l, c, m, n, D, Pl, hcs, hb, hl, hm, hmm, _, hall⟩
  · simp [Value.cells] at hcs
    obtain ⟨rfl, rfl, rfl⟩ := hcs
    exact ⟨[], Nat.le_refl _, rfl, by simp, fun h => absurd h (Nat.lt_irrefl 0)⟩
  · simp [Value.cells] at hcs
    obtain ⟨rfl, rfl, rfl⟩ := hcs
    haveI : Inhabited Ac := ⟨dA⟩
    have each : ∀ i, i < len → ∃ p : Ac, ∀ j u, (ac p)[j]? = some u → W.cell? ((x.add (i * 3)).add j) = some u := fun i hi => by
      obtain ⟨cs', h1, h2⟩ := hall i (by rw [hmm]; split <;> omega)
      rw [cellsAct] at h1
      obtain ⟨_, hlen, hcell⟩ := World.cells?_some h1
      obtain ⟨xs, k, hk, hxy, _, hxl, hf⟩ := DataW.trod_struct Tryd.underlying67 h2
      match xs, hxl, cs', hlen with
      | [y0, y1, y2], _, [v0, v1, v2], _ =>
        have g0 := hf 0 _ rfl
        have g1 := hf 1 _ rfl
        have g2 := hf 2 _ rfl
        simp [cellsInt, cellsStr] at g0 g1 g2
        obtain ⟨k0, e0, _, _⟩ := DataW.trod_int Tryd.underlying3 g0
        obtain ⟨s1, e1, _, _⟩ := DataW.trod_string Tryd.underlying9 g1
        obtain ⟨s2, e2, _, _⟩ := DataW.trod_string Tryd.underlying9 g2
        simp only [List.cons.injEq, and_true] at e0 e1 e2
        refine ⟨⟨k0, s1, s2⟩, fun j u hu => ?_⟩
        match j with
        | 0 => injection hu with hu; subst hu; have := hcell 0 (by omega); rw [this]; simp [e0]
        | 1 => injection hu with hu; subst hu; have := hcell 1 (by omega); rw [this]; simp [e1]
        | 2 => injection hu with hu; subst hu; have := hcell 2 (by omega); rw [this]; simp [e2]
        | j + 3 => simp [ac] at hu
    obtain ⟨f, hf⟩ := choose_lt each
    have hbig : maxLen ≤ 9223372036854775807 := by decide
    refine ⟨(List.range len).map f, hl, by simp, by omega, fun _ => ⟨x, rfl, fun j p hj => ?_⟩⟩
    rw [List.getElem?_map] at hj
    obtain ⟨i, hi, rfl⟩ := Option.map_eq_some_iff.1 hj
    obtain ⟨hij, hi'⟩ := List.getElem?_eq_some_iff.1 hi
    rw [List.getElem_range] at hi'
    subst hi'
    rw [List.length_range] at hij
    refine ⟨ac (f j), rfl, rfl, fun i u hu => ?_⟩
    have := hf j hij i u hu
    rwa [Go.Deep.add_add] at this
end Go.Proofs.YtlkjeneffohnkaaDoor
