import Derived.Test.YtlkjeneffohnkaaDoorPf2
set_option linter.unusedVariables false
set_option linter.unusedSimpArgs false
namespace Go.Proofs.YtlkjeneffohnkaaDoor
open Go.RowKit Go.Proofs Go.Proofs.Plan Go.Proofs.YtlkjeneffohnkaaDoorW.PrintWords
/-- plain cells ahead of what S says -/
def pre {α β : Type} (n : Nat) (f : β → List Value) (hn : ∀ x, (f x).length = n) (h1 : ∀ x, ∀ u ∈ f x, u.oneCell' = true) (S : Kd α) (g : β → α) : Kd β where
  sz := n + S.sz
  E := S.E
  K := fun w x cs => ∃ t, cs = f x ++ t ∧ S.K w (g x) t
  M := fun w base ok x cs => ∃ t, cs = f x ++ t ∧ S.M w base ok (g x) t
  K_len := by
    rintro w x cs ⟨t, rfl, h⟩
    rw [List.length_append, hn, S.K_len h]
  K_one := by
    rintro w x cs ⟨t, rfl, h⟩ u hu
    rcases List.mem_append.1 hu with hu | hu
    · exact h1 x u hu
    · exact S.K_one h u hu
  K_below := by
    rintro w w1 x cs hb ⟨t, rfl, h⟩
    exact ⟨t, rfl, S.K_below hb h⟩
  K_of_M := by
    rintro w base ok x cs ⟨t, rfl, h⟩
    exact ⟨t, rfl, S.K_of_M h⟩
  M_mono := by
    rintro w base ok ok' x cs hok ⟨t, rfl, h⟩
    exact ⟨t, rfl, S.M_mono hok h⟩
  M_bound := by
    rintro w base ok x cs ⟨t, rfl, h⟩
    exact ⟨t, rfl, S.M_bound h⟩
  M_move := by
    rintro w w1 base ok x cs hm ⟨t, rfl, h⟩
    exact ⟨t, rfl, S.M_move hm h⟩
  M_lower := by
    rintro w base base' ok x cs hb ⟨t, rfl, h⟩
    exact ⟨t, rfl, S.M_lower hb h⟩
def kLf : Kd Lf := pre 3 (fun x => [.string x.key, .string x.val, .int .i64 x.index]) (fun _ => rfl) (fun x u hu => by
  simp only [List.mem_cons, List.not_mem_nil, or_false] at hu
  rcases hu with rfl | rfl | rfl <;> rfl) (Kd.slice 24 kH) (·.path)
def kPf : Kd Pf := pre 1 (fun x => [.int .i64 x.count]) (fun _ => rfl) (fun x u hu => by
  simp only [List.mem_cons, List.not_mem_nil, or_false] at hu
  subst hu; rfl) (Kd.slice 114 kLf) (·.leaves)
theorem kLf_K {w : World} {x : Lf} {cs : List Value} (h : kLf.K w x cs) : ∃ A c, cs = [.string x.key, .string x.val, .int .i64 x.index, .slice A x.path.length c] ∧ x.path.length ≤ c ∧ kH.C w A x.path.length x.path := by
  obtain ⟨t, rfl, A, c, rfl, h1, h2⟩ := h
  exact ⟨A, c, rfl, h1, h2⟩
theorem kPf_K {w : World} {x : Pf} {cs : List Value} (h : kPf.K w x cs) : ∃ A c, cs = [.int .i64 x.count, .slice A x.leaves.length c] ∧ x.leaves.length ≤ c ∧ kLf.C w A x.leaves.length x.leaves := by
  obtain ⟨t, rfl, A, c, rfl, h1, h2⟩ := h
  exact ⟨A, c, rfl, h1, h2⟩
def dL : Lf := ⟨ByteArray.empty, ByteArray.empty, 0, []⟩
/-- leaf i of a list of leaves -/
theorem kLf_get {w : World} {A : Option Addr} {n : Nat} {xs : List Lf} (h : kLf.C w A n xs) (i : Nat) (hi : i < n) : ∃ ad B c, A = some ad ∧ (xs.getD i dL).path.length ≤ c ∧ kH.C w B (xs.getD i dL).path.length (xs.getD i dL).path ∧
    World.at_ w (ad.add (i * 4)) [.string (xs.getD i dL).key, .string (xs.getD i dL).val, .int .i64 (xs.getD i dL).index, .slice B (xs.getD i dL).path.length c] := by
  obtain ⟨ad, c, e, hl, hk, hcell⟩ := Kd.C_get h dL (i : Int) (by omega) (by omega)
  rw [Int.toNat_natCast] at hk hcell
  obtain ⟨B, c', rfl, h1, h2⟩ := kLf_K hk
  exact ⟨ad, B, c', e, h1, h2, fun j v hj => by rw [add_add]; exact hcell j v hj⟩
theorem Tryd.infoLf : (Tryd.prog.info? 114).map (·.size) = some 4 := by kernel_rfl
theorem Tryd.infoPf : (Tryd.prog.info? 27).map (·.size) = some 2 := by kernel_rfl
end Go.Proofs.YtlkjeneffohnkaaDoor
