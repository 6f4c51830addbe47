import Derived.Test.YtlkjeneffohnkaaDoorKp3
import Derived.Laws.CopyRow
import Derived.Laws.Externs
import Derived.Lib.AppendZerosOnto
import Derived.Lib.Overlaps
import Derived.IntWalk
set_option linter.unusedVariables false
set_option linter.unusedSimpArgs false
namespace Go.Proofs.YtlkjeneffohnkaaDoor
open Go.RowKit Go.Proofs Go.Proofs.Plan Go.Proofs.YtlkjeneffohnkaaDoorW.PrintWords
/-! a row of pairs as its block's cells -/
def flat (xs : List Pr) : List Value := xs.flatMap pc
theorem flat_nil : flat [] = [] := rfl
theorem flat_cons (x : Pr) (xs : List Pr) : flat (x :: xs) = pc x ++ flat xs := rfl
theorem flat_append (xs ys : List Pr) : flat (xs ++ ys) = flat xs ++ flat ys := by simp [flat]
theorem flat_length (xs : List Pr) : (flat xs).length = xs.length * 2 := by
  induction xs with
  | nil => rfl
  | cons x xs ih => rw [flat_cons, List.length_append, ih, List.length_cons]; show 2 + _ = _; omega
theorem flat_take (xs : List Pr) (i : Nat) (hi : i ≤ xs.length) : (flat xs).take (i * 2) = flat (xs.take i) := by
  conv => lhs; rw [← List.take_append_drop i xs, flat_append]
  have hl : (flat (xs.take i)).length = i * 2 := by rw [flat_length, List.length_take]; omega
  rw [← hl, List.take_left]
theorem flat_drop (xs : List Pr) (i : Nat) (hi : i ≤ xs.length) : (flat xs).drop (i * 2) = flat (xs.drop i) := by
  conv => lhs; rw [← List.take_append_drop i xs, flat_append]
  have hl : (flat (xs.take i)).length = i * 2 := by rw [flat_length, List.length_take]; omega
  rw [← hl, List.drop_left]
theorem flat_one (xs : List Pr) : ∀ u ∈ flat xs, u.oneCell' = true := by
  intro u hu
  obtain ⟨x, _, hx⟩ := List.mem_flatMap.1 hu
  simp only [pc, List.mem_cons, List.not_mem_nil, or_false] at hx
  rcases hx with rfl | rfl <;> rfl
theorem reps_flat {w : World} {base : Nat} {ok : Nat → Prop} : ∀ {xs : List Pr} {inner : List Value}, Reps (kP.M w base ok) 2 xs inner → inner = flat xs
  | [], inner, h => List.length_eq_zero_iff.1 (by simpa using h.1)
  | a :: xs, inner, h => by
    have h0 : pc a = inner.take 2 := ((h.2 0 a rfl : kP.M w base ok a ((inner.drop (0 * 2)).take 2))).symm ▸ (by simp)
    have h1 : Reps (kP.M w base ok) 2 xs (inner.drop 2) := ⟨by have := h.1; rw [List.length_drop, this, List.length_cons]; omega, fun j p hj => by
      have := h.2 (j + 1) p (by simpa using hj)
      rwa [List.drop_drop, show 2 + j * 2 = (j + 1) * 2 by omega]⟩
    rw [flat_cons, ← reps_flat h1, h0, List.take_append_drop]
theorem flat_reps (w : World) (base : Nat) (ok : Nat → Prop) : ∀ xs : List Pr, Reps (kP.M w base ok) 2 xs (flat xs)
  | [] => Reps.none _ _
  | a :: xs => by
    have ih := flat_reps w base ok xs
    refine ⟨by rw [flat_length], fun j p hj => ?_⟩
    rw [flat_cons]
    cases j with
    | zero =>
      have : p = a := by simpa using hj.symm
      subst this
      rfl
    | succ j =>
      have := ih.2 j p (by simpa using hj)
      rw [show (j + 1) * 2 = (pc a).length + j * 2 by show _ = 2 + j * 2; omega, ← List.drop_drop, List.drop_left]
      exact this
theorem R_open {w : World} {base e : Nat} {ok : Nat → Prop} {v : Value} {xs : List Pr} (h : kP.R e w base ok v xs) :
    (v = .slice none 0 0 ∧ xs = []) ∨ ∃ g cap cur, v = .slice (some ⟨g, 0, none⟩) xs.length cap ∧ base ≤ g ∧ w.heap[g]? = some (.cells cur e (0, 0)) ∧ xs.length ≤ cap ∧ cap ≤ maxLen ∧ cur.size = cap * 2 ∧ cur.toList.take (xs.length * 2) = flat xs := by
  obtain ⟨_, inner, ⟨h1, h2⟩, hr⟩ := h
  have hf := reps_flat hr
  rcases h2 with ⟨rfl, h0⟩ | ⟨g, cap, cur, rfl, hg, hh, hc, hm, hs, ht⟩
  · exact .inl ⟨rfl, List.length_eq_zero_iff.1 h0⟩
  · exact .inr ⟨g, cap, cur, rfl, hg, hh, hc, hm, hs, by rw [← hf]; exact ht⟩
theorem R_mk {w : World} {base e g cap n : Nat} {cur : Array Value} {xs : List Pr} (hn : xs.length = n) (hg : base ≤ g) (hh : w.heap[g]? = some (.cells cur e (0, 0))) (hc : n ≤ cap) (hm : cap ≤ maxLen) (hs : cur.size = cap * 2) (ht : cur.toList.take (n * 2) = flat xs) :
    kP.R e w base yes (.slice (some ⟨g, 0, none⟩) n cap) xs := by
  subst hn
  exact ⟨fun _ _ => trivial, flat xs, ⟨flat_length xs, .inr ⟨g, cap, cur, rfl, hg, hh, hc, hm, hs, ht⟩⟩, flat_reps _ _ _ xs⟩
theorem C_block {w : World} {e g : Nat} {cur : Array Value} {xs : List Pr} {n i : Nat} (hn : n ≤ 9223372036854775807) (hl : xs.length = n) (hh : w.heap[g]? = some (.cells cur e (0, 0))) (ht : (cur.toList.drop (i * 2)).take (n * 2) = flat xs) : kP.C w (some ⟨g, i * 2, none⟩) n xs := by
  refine ⟨hl, hn, fun _ => ⟨_, rfl, fun j p hj => ⟨pc p, rfl, rfl, fun k u hu => ?_⟩⟩⟩
  rw [Addr.add_mid, cell_of_row _ _ _ _ _ _ hh]
  have hjl : j < n := by rw [← hl]; exact (List.getElem?_eq_some_iff.1 hj).1
  have hk : k < 2 := (List.getElem?_eq_some_iff.1 hu).1
  have hr := (flat_reps w 0 yes xs).2 j p hj
  have hr' : pc p = ((flat xs).drop (j * 2)).take 2 := Eq.symm hr
  rw [hr', List.getElem?_take, if_pos hk, List.getElem?_drop, ← ht, List.getElem?_take, if_pos (by omega), List.getElem?_drop] at hu
  rw [← hu, Array.getElem?_toList]
  congr 1
/-- copy over rows of sz cells an element -/
theorem run_copyK {P : Program} (w : World) (dT sT ty elem : TypeId) (sz g o dLen dCap : Nat) (a : Addr) (sLen sCap m : Nat) (cur : Array Value) (t : TypeId) (cs : List Value)
    (hu : P.underlying dT = some (.slice elem)) (hs : (P.info? elem).map (·.size) = some sz)
    (hg : w.heap[g]? = some (.cells cur t (0, 0))) (hm : m = Nat.min sLen dLen) (hn : cs.length = m * sz)
    (hsrc : ∀ j v, cs[j]? = some v → w.cell? (a.add j) = some v) (hfit : o + cs.length ≤ cur.size) (h1 : ∀ v ∈ cs, v.oneCell' = true) :
    (Builtin.copy_ #[dT, sT] ty #[.slice (some ⟨g, o, none⟩) dLen dCap, .slice (some a) sLen sCap]).run P w =
      .ok (goInt m) (w.setRow g (cur.toList.take o ++ cs ++ cur.toList.drop (o + cs.length)).toArray) := by
  have hl := run_loadCells_list (P := P) w a cs hsrc
  have hst := run_storeCells_at P g o t cs 0 cur w hg (by simpa using hfit) h1
  cases hq : P.info? elem with
  | none => simp [hq] at hs
  | some i =>
    have hi : i.size = sz := by simpa [hq] using hs
    rw [hn] at hl
    simp [Builtin.copy_, run_underlying hu, Builtin.lenOf, Builtin.firstCells, sizeOf, typeInfo, hq, hi, ← hm, hl, hst]
theorem l_copy {P : Program} {ops : Array Oper} {rest : List Oper} {o : Oper} {a : Act} {w w' : World} {Q : Exit → Act → World → Prop} (hgd : o.guard = none) {d s : Operand} {t t' : TypeId}
    (ho : o.op = .call { callee := .builtin .copy, args := #[d, s], argTypes := #[t, t'] }) {v u v' : Value} (hd : a.eval d = v) (hs : a.eval s = u)
    (hr : (Builtin.copy_ #[t, t'] o.type #[v, u]).run P w = .ok v' w') (h : wpList P ops Q rest (a.put o.dst v') w') : wpList P ops Q (o :: rest) a w :=
  wpList_plain hgd fun _ hK => by
    unfold Oper.wp execOp
    simp only [ho, resolve, invoke, builtin, Sem.run_bind, Sem.run_pure, Result.andThen_ok, List.map_toArray, List.map_cons, List.map_nil, hd, hs, hr]
    exact hK _ _ h
/-- s[m:] of a row, m below its capacity -/
theorem cut_row {P : Program} (t e : TypeId) (ht : P.underlying t = some (.slice e)) (hi : (P.info? e).map (·.size) = some 2) (g n c m : Nat) (hm : m ≤ n) (hc : m ≠ c) (W : World) :
    (Instr.slice t (.slice (some ⟨g, 0, none⟩) n c) (some (.int .i64 (m : Int))) none none).run P W = .ok (.slice (some ⟨g, m * 2, none⟩) (n - m) (c - m)) W := by
  obtain ⟨i0, hi0, hs0⟩ := Option.map_eq_some_iff.1 hi
  have hel : P.elem t = e := by simp [Program.elem, ht]
  have hu : P.underlying t = some (.slice (P.elem t)) := by rw [hel]; exact ht
  rw [run_slice_l W t (some ⟨g, 0, none⟩) n c hu .i64 (m : Int) (Int.natCast_nonneg _) (by omega), hel]
  have hne : ¬ c = m := fun h => hc h.symm
  simp [sizeOf, typeInfo, hi0, hs0, sliced, Result.andThen, hne, Addr.add]
  intro h; omega
theorem grown_setRow (w : World) (g : Nat) (cs : Array Value) : w.grownBy (w.setRow g cs) (some g) :=
  ⟨rfl, rfl, rfl, by simp [World.setRow], fun k hk hne => setRow_other w g k cs (fun h => hne (by rw [h]))⟩
end Go.Proofs.YtlkjeneffohnkaaDoor
