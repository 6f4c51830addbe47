import Derived.OrdersHeld
import Derived.Tactics
import Derived.KernelRfl
import Derived.Deep.MidRow
namespace Go.Proofs.Plan
open Go
variable {P : Program} {ops : Array Oper} {Q : Exit → Act → World → Prop} {S : World → Prop}

/-- which operations are quiet: listed by the plan -/
abbrev Qs := List Nat
/-- must S be shown anew behind operation j? (not where j waits for all that is quiet) -/
def needs (ops : Array Oper) (qs : Qs) (j : Nat) : Bool :=
  !(qs.all fun i => i == j || ((ops[j]?).map fun o => o.after.any fun e => Region.binds .any e && e.on == i).getD false)

/-- Whatever order is picked, S being shown behind each operation that does not wait for all that is quiet. -/
def wpK (P : Program) (ops : Array Oper) (Q : Exit → Act → World → Prop) (S : World → Prop) (qs : Qs) : Nat → Array Bool → Act → World → Prop
  | 0, l, a, w => Region.ready .any ops l = [] ∧ Q .normal a w
  | n + 1, l, a, w => (Region.ready .any ops l = [] → Q .normal a w) ∧
      ∀ i ∈ Region.ready .any ops l, wpOp P ops Q i (fun a' w' => (needs ops qs i = true → S w') ∧ wpK P ops Q S qs n (l.setIfInBounds i true) a' w') a w

theorem wpAny_of_K {qs : Qs} : ∀ (n : Nat) (l : Array Bool) (a : Act) (w : World), wpK P ops Q S qs n l a w → wpAny P .any ops Q n l a w
  | 0, _, _, _, h => h
  | n + 1, _, _, _, h => ⟨h.1, fun i hi => wpOp_mono (fun a' w' h' => wpAny_of_K n _ a' w' h'.2) (h.2 i hi)⟩

theorem needs_of_ready {qs : Qs} {i j : Nat} {l : Array Bool} (hi : i ∈ qs) (hne : j ≠ i) (hu : l.getD i true = false) (hj : j ∈ Region.ready .any ops l) : needs ops qs j = true := by
  obtain ⟨_, oj, hoj, hall⟩ := mem_ready.1 hj
  unfold needs
  rw [Bool.not_eq_true', ← Bool.not_eq_true, List.all_eq_true]
  intro h
  have h1 := h i hi
  rw [Bool.or_eq_true] at h1
  rcases h1 with h1 | h1
  · exact hne (beq_iff_eq.1 h1).symm
  · rw [hoj, Option.map_some, Option.getD_some, Array.any_eq_true] at h1
    obtain ⟨k, hk, he⟩ := h1
    rw [Bool.and_eq_true, beq_iff_eq] at he
    have := hall oj.after[k] (Array.getElem_mem hk) he.1
    rw [he.2] at this
    rcases Nat.lt_or_ge i l.size with h' | h'
    · simp [h'] at hu this; rw [hu] at this; cases this
    · simp [h'] at hu

theorem K_first {qs : Qs} {i : Nat} {oi : Oper} {v : Value} (hq : i ∈ qs) (hi : ops[i]? = some oi) (hsel : Region.noSelect ops = true)
    (hQ : ∀ c a w, Q (.panic c) (a.put oi.dst v) w → Q (.panic c) a w) :
    ∀ (n : Nat) (l : Array Bool) (a : Act) (w : World),
      (∀ j oj, ops[j]? = some oj → j ≠ i → l.getD j true = false → (∀ e ∈ oj.after, Region.binds .any e = true → e.on ≠ i) → oi.apart ops oj = true) →
      i ∈ Region.ready .any ops l → YieldsIf P ops S oi v a → S w →
      wpK P ops Q S qs n (l.setIfInBounds i true) (a.put oi.dst v) w → wpK P ops Q S qs (n + 1) l a w := by
  have hsl := Region.noSelect_spec hsel
  intro n
  induction n with
  | zero =>
    intro l a w _ hr hy hS H
    refine ⟨fun h => (by rw [h] at hr; cases hr), fun j hj => ?_⟩
    by_cases hji : j = i
    · subst hji; exact hy.wpOp hi hS ⟨fun _ => hS, H⟩
    · have := ready_mono hj hji
      rw [H.1] at this; cases this
  | succ n ih =>
    intro l a w hfree hr hy hS H
    refine ⟨fun h => (by rw [h] at hr; cases hr), fun j hj => ?_⟩
    by_cases hji : j = i
    · subst hji; exact hy.wpOp hi hS ⟨fun _ => hS, H⟩
    · have hu := (mem_ready.1 hr).1
      have hn := needs_of_ready hq hji hu hj
      have h1 := H.2 j (ready_mono hj hji)
      obtain ⟨hju, oj, hoj, hall⟩ := mem_ready.1 hj
      have hnot : ∀ e ∈ oj.after, Region.binds .any e = true → e.on ≠ i := fun e he hb heq => by
        have h1 := hall e he hb
        rw [heq] at h1
        rcases Nat.lt_or_ge i l.size with h' | h'
        · simp [h'] at hu h1; rw [hu] at h1; cases h1
        · simp [h'] at hu
      have h2 := wpOp_putIf hoj (hfree j oj hoj hji hju hnot) (fun cs b => hsl i oi cs b hi) (fun cs b => hsl j oj cs b hoj) hQ hy h1
      refine wpOp_mono (fun a' w' h3 => ⟨fun _ => h3.2.1 hn, ih (l.setIfInBounds j true) a' w' ?_ (ready_mono hr (Ne.symm hji)) h3.1 (h3.2.1 hn) ?_⟩) h2
      · intro k ok hk hki hun hno
        refine hfree k ok hk hki ?_ hno
        by_cases hjk : j = k
        · subst hjk; exact hju
        · rw [getD_set_ne true hjk] at hun; exact hun
      · rw [Array.setIfInBounds_comm _ _ hji]; exact h3.2.2

/-- The region's operations in order. q: quiet (it yields its value in every world that meets S); a: it acts; f: several may come up. -/
inductive Tr where
  | nil : Tr
  | q (i : Nat) (r : Tr) : Tr
  | a (i : Nat) (r : Tr) : Tr
  | f (x y : Tr) : Tr
def Tr.heads : Tr → List Nat
  | .a i _ => [i]
  | .f x y => x.heads ++ y.heads
  | _ => []
/-- no quiet one is in it -/
def Tr.noq : Tr → Bool
  | .nil => true
  | .q _ _ => false
  | .a _ r => r.noq
  | .f x y => x.noq && y.noq
def wpTr (P : Program) (ops : Array Oper) (Q : Exit → Act → World → Prop) (S : World → Prop) (qs : Qs) : Tr → Act → World → Prop
  | .nil, a, w => Q .normal a w
  | .q i r, a, w => ∃ oi v, ops[i]? = some oi ∧ YieldsIf P ops S oi v a ∧ wpTr P ops Q S qs r (a.put oi.dst v) w
  | .a i r, a, w => wpOp P ops Q i (fun a' w' => (needs ops qs i = true → S w') ∧ wpTr P ops Q S qs r a' w') a w
  | .f x y, a, w => wpTr P ops Q S qs x a w ∧ wpTr P ops Q S qs y a w
/-- top: all that may come up stands in it. -/
def planOk (ops : Array Oper) (qs : Qs) : Bool → Tr → Nat → Array Bool → Bool
  | top, .nil, 0, l => top && (Region.ready .any ops l).isEmpty
  | top, .q i r, n + 1, l => top && qs.contains i && (Region.ready .any ops l).contains i && Region.free .any ops l i && planOk ops qs true r n (l.setIfInBounds i true)
  | top, .a i r, n + 1, l => (!top || Region.ready .any ops l == [i]) && (needs ops qs i || r.noq) && planOk ops qs true r n (l.setIfInBounds i true)
  | top, .f x y, n + 1, l => (!top || (!(Region.ready .any ops l).isEmpty && (Region.ready .any ops l).all fun i => (x.heads ++ y.heads).contains i)) && planOk ops qs false x (n + 1) l && planOk ops qs false y (n + 1) l
  | _, _, _, _ => false

mutual
theorem plan_sound {qs : Qs} (hsel : Region.noSelect ops = true) (hQ : ∀ c a d v w, Q (.panic c) (a.put d v) w → Q (.panic c) a w) :
    ∀ (p : Tr) (n : Nat) (l : Array Bool) (a : Act) (w : World), planOk ops qs true p n l = true → (S w ∨ p.noq = true) → wpTr P ops Q S qs p a w → wpK P ops Q S qs n l a w
  | .nil, 0, l, a, w, hok, hS, h => ⟨by simpa [planOk] using hok, h⟩
  | .nil, n + 1, l, a, w, hok, hS, h => by simp [planOk] at hok
  | .q i r, 0, l, a, w, hok, hS, h => by simp [planOk] at hok
  | .q i r, n + 1, l, a, w, hok, hS, h => by
    obtain ⟨oi, v, hi, hy, h⟩ := h
    simp only [planOk, Bool.and_eq_true] at hok
    obtain ⟨⟨⟨⟨_, h1⟩, h2⟩, h3⟩, h4⟩ := hok
    have hS' : S w := by
      rcases hS with hS | hS
      · exact hS
      · simp [Tr.noq] at hS
    exact K_first (by simpa using h1) hi hsel (fun c a w => hQ c a oi.dst v w) n l a w (Region.free_spec hi h3) (by simpa using h2) hy hS' (plan_sound hsel hQ r n _ _ _ h4 (.inl hS') h)
  | .a i r, 0, l, a, w, hok, hS, h => by simp [planOk] at hok
  | .a i r, n + 1, l, a, w, hok, hS, h => by
    have hok' := hok
    simp only [planOk, Bool.and_eq_true, Bool.not_true, Bool.false_or, beq_iff_eq] at hok'
    obtain ⟨⟨h1, h2⟩, h3⟩ := hok'
    refine ⟨fun h0 => (by rw [h1] at h0; cases h0), fun j hj => ?_⟩
    rw [h1] at hj
    have : j = i := by simpa using hj
    subst this
    refine wpOp_mono (fun a' w' h' => ⟨h'.1, plan_sound hsel hQ r n _ a' w' h3 ?_ h'.2⟩) h
    rw [Bool.or_eq_true] at h2
    rcases h2 with h2 | h2
    · exact .inl (h'.1 h2)
    · exact .inr h2
  | .f x y, 0, l, a, w, hok, hS, h => by simp [planOk] at hok
  | .f x y, n + 1, l, a, w, hok, hS, h => by
    have hok' := hok
    simp only [planOk, Bool.and_eq_true, Bool.not_true, Bool.false_or, Bool.not_eq_true', List.all_eq_true] at hok'
    obtain ⟨⟨⟨h1, h2⟩, h3⟩, h4⟩ := hok'
    refine ⟨fun h0 => (by rw [h0] at h1; cases h1), fun j hj => ?_⟩
    have hm := h2 j hj
    simp only [List.contains_eq_mem, decide_eq_true_eq, List.mem_append] at hm
    have hSx : S w ∨ x.noq = true := hS.imp id (fun h => by simp only [Tr.noq, Bool.and_eq_true] at h; exact h.1)
    have hSy : S w ∨ y.noq = true := hS.imp id (fun h => by simp only [Tr.noq, Bool.and_eq_true] at h; exact h.2)
    rcases hm with hm | hm
    · exact plan_branch hsel hQ x n l a w h3 h.1 j hm
    · exact plan_branch hsel hQ y n l a w h4 h.2 j hm
theorem plan_branch {qs : Qs} (hsel : Region.noSelect ops = true) (hQ : ∀ c a d v w, Q (.panic c) (a.put d v) w → Q (.panic c) a w) :
    ∀ (p : Tr) (n : Nat) (l : Array Bool) (a : Act) (w : World), planOk ops qs false p (n + 1) l = true → wpTr P ops Q S qs p a w →
      ∀ i ∈ p.heads, wpOp P ops Q i (fun a' w' => (needs ops qs i = true → S w') ∧ wpK P ops Q S qs n (l.setIfInBounds i true) a' w') a w
  | .nil, n, l, a, w, hok, h => fun i hi => by cases hi
  | .q _ _, n, l, a, w, hok, h => fun i hi => by cases hi
  | .a i r, n, l, a, w, hok, h => fun j hj => by
    have hok' := hok
    simp only [planOk, Bool.and_eq_true] at hok'
    obtain ⟨⟨h1, h2⟩, h3⟩ := hok'
    have : j = i := by simpa [Tr.heads] using hj
    subst this
    refine wpOp_mono (fun a' w' h' => ⟨h'.1, plan_sound hsel hQ r n _ a' w' h3 ?_ h'.2⟩) h
    rw [Bool.or_eq_true] at h2
    rcases h2 with h2 | h2
    · exact .inl (h'.1 h2)
    · exact .inr h2
  | .f x y, n, l, a, w, hok, h => fun j hj => by
    have hok' := hok
    simp only [planOk, Bool.and_eq_true] at hok'
    obtain ⟨⟨h1, h3⟩, h4⟩ := hok'
    simp only [Tr.heads, List.mem_append] at hj
    rcases hj with hm | hm
    · exact plan_branch hsel hQ x n l a w h3 h.1 j hm
    · exact plan_branch hsel hQ y n l a w h4 h.2 j hm
end

/-! ### The same, written out: what is left of the plan stands in the goal, nothing else of the region. -/
/-- an operation; quiet (none), or acting (must S be shown behind it?); its guard: which slot, and what it must hold -/
abbrev Ent := Oper × Option Bool × Option (Tmp × Bool)
inductive EP where
  | nil : EP
  | c (e : Ent) (r : EP) : EP
  | f (x y : EP) : EP
def gd (g : Option (Tmp × Bool)) (a : Act) : Bool :=
  match g with
  | none => true
  | some (t, b) => match a.tmps[t]? with | some (.bool c) => c == b | _ => false
def wpP (P : Program) (Q : Exit → Act → World → Prop) (S : World → Prop) : EP → Act → World → Prop
  | .nil, a, w => Q .normal a w
  | .c (o, none, g) r, a, w => if gd g a = true then ∃ v, (∀ w', S w' → (execOp a.eval o).run P w' = .ok (.value v) w') ∧ wpP P Q S r (a.put o.dst v) w else wpP P Q S r (a.put o.dst undef) w
  | .c (o, some b, g) r, a, w => if gd g a = true then o.wp P a w (fun a' w' => (b = true → S w') ∧ wpP P Q S r a' w') Q ∨ (o.asks P a w ∧ LetsOut Q) else (b = true → S w) ∧ wpP P Q S r (a.put o.dst undef) w
  | .f x y, a, w => wpP P Q S x a w ∧ wpP P Q S y a w

/-- does an entry say what the region's operation says? -/
def entOk (ops : Array Oper) (qs : Qs) (i : Nat) (o : Oper) (k : Option Bool) (g : Option (Tmp × Bool)) : Prop :=
  ops[i]? = some o ∧ (k = none ∨ k = some (needs ops qs i)) ∧ (match o.guard with | none => g = none | some (j, b) => ∃ t, (ops[j]?).bind (·.dst) = some t ∧ g = some (t, b))

theorem wanted_gd {o : Oper} {g : Option (Tmp × Bool)} (h : match o.guard with | none => g = none | some (j, b) => ∃ t, (ops[j]?).bind (·.dst) = some t ∧ g = some (t, b)) (a : Act) : Region.wanted o (yielded ops a.tmps) = gd g a := by
  unfold Region.wanted
  cases hg : o.guard with
  | none => rw [hg] at h; subst h; rfl
  | some x =>
    obtain ⟨j, b⟩ := x
    rw [hg] at h
    obtain ⟨t, ht, rfl⟩ := h
    simp only [gd, yielded, ht, Option.bind_some]
    cases a.tmps[t]? with
    | none => rfl
    | some v => cases v <;> first | rfl | (rename_i c; cases c <;> cases b <;> rfl)

/-! ### The plan by numbers -/
def nthO : List Oper → Nat → Oper
  | [], _ => default
  | o :: _, 0 => o
  | _ :: l, n + 1 => nthO l n
abbrev Num := Nat × Option Bool × Option (Tmp × Bool)
inductive NP where
  | nil : NP
  | c (e : Num) (r : NP) : NP
  | f (x y : NP) : NP
def NP.tr : NP → Tr
  | .nil => .nil
  | .c (i, none, _) r => .q i r.tr
  | .c (i, some _, _) r => .a i r.tr
  | .f x y => .f x.tr y.tr
def selE (l : List Oper) : NP → EP
  | .nil => .nil
  | .c (i, k, g) r => .c (nthO l i, k, g) (selE l r)
  | .f x y => .f (selE l x) (selE l y)
def gPart (d : Option Tmp) (g : Option (Tmp × Bool)) (b : Bool) : Bool :=
  match d, g with | some t, some (t', b') => t == t' && b == b' | _, _ => false
theorem gPart_spec {d : Option Tmp} {g : Option (Tmp × Bool)} {b : Bool} (h : gPart d g b = true) : ∃ t, d = some t ∧ g = some (t, b) := by
  unfold gPart at h
  split at h
  · simp only [Bool.and_eq_true, beq_iff_eq] at h
    exact ⟨_, rfl, by rw [h.1, h.2]⟩
  · cases h
def gOk (ops : Array Oper) (o : Oper) (g : Option (Tmp × Bool)) : Bool :=
  match o.guard with
  | none => g.isNone
  | some (j, b) => gPart ((ops[j]?).bind (·.dst)) g b
def chkE (ops : Array Oper) (l : List Oper) (qs : Qs) : NP → Bool
  | .nil => true
  | .c (i, k, g) r => decide (i < l.length) && (match k with | none => true | some b => b == needs ops qs i) && gOk ops (nthO l i) g && chkE ops l qs r
  | .f x y => chkE ops l qs x && chkE ops l qs y
theorem nthO_get : ∀ (l : List Oper) (i : Nat), i < l.length → l[i]? = some (nthO l i)
  | [], i, h => by simp at h
  | o :: l, 0, h => rfl
  | o :: l, i + 1, h => by rw [List.getElem?_cons_succ]; exact nthO_get l i (by simpa using h)
theorem entOk_of_chk {l : List Oper} {qs : Qs} {i : Nat} {k : Option Bool} {g : Option (Tmp × Bool)} (h1 : i < l.length) (h2 : (match k with | none => true | some b => b == needs l.toArray qs i) = true) (h3 : gOk l.toArray (nthO l i) g = true) : entOk l.toArray qs i (nthO l i) k g := by
  refine ⟨?_, ?_, ?_⟩
  · rw [List.getElem?_toArray]; exact nthO_get l i h1
  · cases k with
    | none => exact .inl rfl
    | some b => exact .inr (by rw [beq_iff_eq.1 h2])
  · unfold gOk at h3
    cases hg : (nthO l i).guard with
    | none => rw [hg] at h3; simpa using h3
    | some x =>
      obtain ⟨j, b⟩ := x
      rw [hg] at h3
      replace h3 : gPart ((l.toArray[j]?).bind (·.dst)) g b = true := h3
      obtain ⟨t, e1, e2⟩ := gPart_spec h3
      exact ⟨t, e1, e2⟩
theorem plan_of_P {l : List Oper} {qs : Qs} : ∀ (p : NP) (a : Act) (w : World), chkE l.toArray l qs p = true → wpP P Q S (selE l p) a w → wpTr P l.toArray Q S qs p.tr a w
  | .nil, a, w, _, h => h
  | .f x y, a, w, he, h => by
    simp only [chkE, Bool.and_eq_true] at he
    exact ⟨plan_of_P x a w he.1 h.1, plan_of_P y a w he.2 h.2⟩
  | .c (i, k, g) r, a, w, he, h => by
    simp only [chkE, Bool.and_eq_true, decide_eq_true_eq] at he
    obtain ⟨⟨⟨c1, c2⟩, c3⟩, h4⟩ := he
    obtain ⟨h1, h2, h3⟩ := entOk_of_chk c1 c2 c3
    have hw := wanted_gd h3 a
    cases k with
    | none =>
      simp only [selE, wpP] at h
      show ∃ oi v, l.toArray[i]? = some oi ∧ YieldsIf P l.toArray S oi v a ∧ wpTr P l.toArray Q S qs r.tr (a.put oi.dst v) w
      by_cases c : gd g a = true
      · rw [if_pos c] at h
        obtain ⟨v, hy, h⟩ := h
        exact ⟨_, v, h1, .inl ⟨hw.trans c, hy⟩, plan_of_P r _ _ h4 h⟩
      · rw [if_neg c] at h
        exact ⟨_, _, h1, .inr ⟨by rw [hw]; simpa using c, rfl⟩, plan_of_P r _ _ h4 h⟩
    | some b =>
      simp only [selE, wpP] at h
      have hb : b = needs l.toArray qs i := by simpa using h2
      subst hb
      show wpOp P l.toArray Q i (fun a' w' => (needs l.toArray qs i = true → S w') ∧ wpTr P l.toArray Q S qs r.tr a' w') a w
      unfold wpOp
      simp only [h1, hw]
      by_cases c : gd g a = true
      · rw [if_pos c] at h ⊢
        exact h.imp (Oper.wp_mono (fun a' w' h' => ⟨h'.1, plan_of_P r a' w' h4 h'.2⟩)) id
      · rw [if_neg c] at h ⊢
        exact ⟨h.1, plan_of_P r _ _ h4 h.2⟩
/-- A region that draws its order, by one plan; by numbers: what is written out comes off the region's own list. -/
theorem wp_num {id : Nat} {l : List Oper} {a : Act} {w : World} (S : World → Prop) (qs : Qs) (pl : NP) (hm : P.follows .mixedOrders = true) (hsel : Region.noSelect l.toArray = true)
    (hok : planOk l.toArray qs true pl.tr l.length (Array.replicate l.length false) = true) (hQ : ∀ c a d v w, Q (.panic c) (a.put d v) w → Q (.panic c) a w) (he : chkE l.toArray l qs pl = true)
    (hS : S w.drew) (h : wpP P Q S (selE l pl) a w.drew) : (Code.region id l.toArray true).wp P Q a w :=
  wp_region_any hm (wpAny_of_K _ _ _ _ (plan_sound hsel hQ pl.tr _ _ _ _ (by simpa using hok) (.inl hS) (plan_of_P pl _ _ he h)))

section
variable {r : EP} {a : Act} {w : World} {o : Oper} {b : Bool}
theorem p_q {v : Value} (hy : ∀ w', S w' → (execOp a.eval o).run P w' = .ok (.value v) w') (h : wpP P Q S r (a.put o.dst v) w) : wpP P Q S (.c (o, none, none) r) a w := by
  simp only [wpP, gd, if_true]; exact ⟨v, hy, h⟩
theorem p_load {ty : TypeId} {x : Operand} (ho : o.op = .load ty x) {bk off : Nat} (hx : a.eval x = .pointer (some ⟨bk, off, none⟩)) {cs : List Value} {d : TypeDesc}
    (hS : ∀ w', S w' → w'.rangeAt bk off cs) (hu : P.underlying ty = some d) (hd : d.isRow = true) (hs : (P.info? ty).map (·.size) = some cs.length)
    (h : wpP P Q S r (a.put o.dst (.agg cs.toArray)) w) : wpP P Q S (.c (o, none, none) r) a w :=
  p_q (fun w' hw' => by
    unfold execOp
    simp only [ho, hx, Instr.loadAt, Instr.sureAddr, Sem.run_bind, Sem.run_pure, Result.andThen_ok, run_loadVar_mid w' bk off ty cs d (hS w' hw') hu hd hs]) h
theorem run_loadVar_one {w : World} {ty : TypeId} {ad : Addr} {v : Value} {d : TypeDesc} (hc : w.cell? ad = some v) (hu : P.underlying ty = some d) (hd : d.isRow = false) : (loadVar ty ad).run P w = .ok v w := by
  have hagg : (isAgg ty).run P w = .ok false w := by
    unfold isAgg
    rw [Sem.run_bind, run_underlying hu w]
    cases d <;> simp_all
  simp [loadVar, Sem.run_bind, hagg, hc]
theorem p_load1 {ty : TypeId} {x : Operand} (ho : o.op = .load ty x) {ad : Addr} (hx : a.eval x = .pointer (some ad)) {v : Value} {d : TypeDesc}
    (hS : ∀ w', S w' → w'.cell? ad = some v) (hu : P.underlying ty = some d) (hd : d.isRow = false)
    (h : wpP P Q S r (a.put o.dst v) w) : wpP P Q S (.c (o, none, none) r) a w :=
  p_q (fun w' hw' => by
    unfold execOp
    simp only [ho, hx, Instr.loadAt, Instr.sureAddr, Sem.run_bind, Sem.run_pure, Result.andThen_ok, run_loadVar_one (hS w' hw') hu hd]) h
theorem p_a {v : Value} {w' : World} (hr : (execOp a.eval o).run P w = .ok (.value v) w') (hS : b = true → S w') (h : wpP P Q S r (a.put o.dst v) w') : wpP P Q S (.c (o, some b, none) r) a w := by
  simp only [wpP, gd, if_true, Oper.wp, hr, Oper.upon]; exact .inl ⟨hS, h⟩
theorem p_s {w' : World} (hr : (execOp a.eval o).run P w = .ok .skip w') (hS : b = true → S w') (h : wpP P Q S r (a.put o.dst undef) w') : wpP P Q S (.c (o, some b, none) r) a w := by
  simp only [wpP, gd, if_true, Oper.wp, hr, Oper.upon]; exact .inl ⟨hS, h⟩
theorem p_call {f : FuncId} {args : Array Value} (hr : (execOp a.eval o).run P w = .ok (.enter f args) w)
    (h : Calls P f args w fun e w' => ∃ v, e = .returned v ∧ (b = true → S w') ∧ wpP P Q S r (a.put o.dst v) w') : wpP P Q S (.c (o, some b, none) r) a w := by
  simp only [wpP, gd, if_true, Oper.wp, hr, Oper.upon]
  refine .inl (Calls.mono h ?_)
  rintro e w' ⟨v, rfl, h⟩
  exact h
/-- as an operation of a plain list: for the walk and its laws -/
def thenP (P : Program) (Q : Exit → Act → World → Prop) (S : World → Prop) (b : Bool) (r : EP) : Exit → Act → World → Prop
  | .normal, a, w => (b = true → S w) ∧ wpP P Q S r a w
  | e, a, w => Q e a w
theorem p_list {ops : Array Oper} (hg : o.guard = none) (h : wpList P ops (thenP P Q S b r) [o] a w) : wpP P Q S (.c (o, some b, none) r) a w := by
  simp only [wpP, gd, if_true]
  unfold wpList at h
  rw [if_pos (by simp [Region.wanted, hg])] at h
  refine h.imp (fun h => ?_) (fun h => ⟨h.1, ?_⟩)
  · unfold Oper.wp at *
    generalize (execOp a.eval o).run P w = rr at *
    cases rr with
    | ok n w' =>
      cases n <;> simp only [Oper.upon] at h ⊢ <;> first
        | exact h
        | exact Calls.mono h (fun e w'' he => by cases e <;> first | exact he | (obtain ⟨a', w', he⟩ := he; exact ⟨a', w', he⟩))
        | exact Rows.mono h (fun _ _ he => he)
    | halt x w' => cases x <;> simp only [Oper.upon] at h ⊢ <;> exact h
  · obtain ⟨a', w', h⟩ := h.2
    exact ⟨a', w', h⟩
/-- a whole array or struct is stored -/
theorem p_store {ty : TypeId} {x y : Operand} (ho : o.op = .store ty x y) {bk off : Nat} {cells : Array Value} (hx : a.eval x = .pointer (some ⟨bk, off, none⟩)) (hy : a.eval y = .agg cells)
    (ht : w.there bk off cells.size) (hi : (P.info? ty).map (·.size) = some cells.size) (h1 : cells.all (·.oneCell') = true) (hS : b = true → S (w.setCells bk off cells.toList))
    (h : wpP P Q S r (a.put o.dst undef) (w.setCells bk off cells.toList)) : wpP P Q S (.c (o, some b, none) r) a w :=
  p_s (by
    unfold execOp
    simp only [ho, hx, hy, Instr.storeAt, Instr.sureAddr, Sem.run_bind, Sem.run_pure, Result.andThen_ok, run_storeVar_mid w bk off ty cells ht hi h1]) hS h
/-- operations that yield a value and do nothing else but read -/
def valueOp : Op → Bool
  | .move _ | .assign _ | .pick .. | .load .. | .binOp .. | .unOp .. | .convert .. | .slice .. | .fieldAddr .. | .field .. | .indexAddr .. | .index .. | .extract .. | .build .. | .lookup .. => true
  | _ => false
theorem andThen_value {X : Result Value} {n : Next} {w' : World} (h : X.andThen (fun a w => Result.ok (Next.value a) w) = .ok n w') : ∃ v, n = .value v := by
  cases X with
  | ok a w => simp only [Result.andThen, Result.ok.injEq] at h; exact ⟨a, h.1.symm⟩
  | halt x w => cases h
theorem value_run (hv : valueOp o.op = true) (ρ : Operand → Value) {w : World} {n : Next} {w' : World} (h : (execOp ρ o).run P w = .ok n w') : ∃ v, n = .value v := by
  cases ho : o.op <;> rw [ho] at hv <;> cases hv <;> simp only [execOp, ho, Sem.run_bind, Sem.run_pure] at h <;> first
    | exact andThen_value h
    | (simp only [Result.ok.injEq] at h; exact ⟨_, h.1.symm⟩)
    | (revert h; generalize Sem.run P (asBool _) w = X; intro h; cases X with | ok a w => (simp only [Result.andThen, Result.ok.injEq] at h; exact ⟨_, h.1.symm⟩) | halt x w => cases h)
/-- just the value has been put -/
def qPost (d : Tmp) (v : Value) (w' : World) : Exit → Act → World → Prop := fun e a' w'' => e = Exit.normal ∧ a'.tmps[d]? = some v ∧ w'' = w'
theorem p_qL {ops0 : Array Oper} (hv : valueOp o.op = true) (hg : o.guard = none) {d : Tmp} (hd : o.dst = some d) (hlt : d < a.tmps.size) {v : Value}
    (h : ∀ w', S w' → wpList P ops0 (qPost d v w') [o] a w') (k : wpP P Q S r (a.put (some d) v) w) : wpP P Q S (.c (o, none, none) r) a w := by
  refine p_q (v := v) (fun w' hw => ?_) (by rw [hd]; exact k)
  have h := h w' hw
  unfold wpList at h
  rw [if_pos (by simp [Region.wanted, hg])] at h
  rcases h with h | ⟨_, _, _, h, _⟩
  · unfold Oper.wp at h
    generalize hrr : (execOp a.eval o).run P w' = rr at *
    cases rr with
    | ok n w'' =>
      obtain ⟨u, rfl⟩ := value_run hv a.eval hrr
      simp only [Oper.upon, wpList, qPost] at h
      obtain ⟨_, h1, h2⟩ := h
      simp only [hd, Act.put, Array.getElem?_setIfInBounds_self_of_lt hlt, Option.some.injEq] at h1
      rw [h1, h2]
    | halt x w'' =>
      cases x <;> simp only [Oper.upon, qPost] at h
      exact absurd h.1 (by intro h; cases h)
  · cases h
theorem p_fork {x y : EP} (h1 : wpP P Q S x a w) (h2 : wpP P Q S y a w) : wpP P Q S (.f x y) a w := by simp only [wpP]; exact ⟨h1, h2⟩
theorem p_end (h : Q .normal a w) : wpP P Q S .nil a w := h
end
attribute [irreducible] wpP
#print axioms wp_num
end Go.Proofs.Plan
