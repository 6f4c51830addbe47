import Derived.Test.YtlkjeneffohnkaaDoorKp3
set_option linter.unusedVariables false
set_option linter.unusedSimpArgs false
namespace Go.Proofs.YtlkjeneffohnkaaDoor
open Go.RowKit Go.Proofs
theorem rising_iff_pw : ∀ l : List Pr, rising l = true ↔ l.Pairwise (fun a b => blt a.key b.key = true)
  | [] => by simp [rising]
  | a :: l => by
    rw [List.pairwise_cons]
    constructor
    · intro h
      exact ⟨rising_lt h, (rising_iff_pw l).1 (rising_tail h)⟩
    · rintro ⟨h1, h2⟩
      exact rising_cons ((rising_iff_pw l).2 h2) h1
theorem mem_take_lt {l : List Pr} {k : Nat} {x : Pr} (h : x ∈ l.take k) : ∃ i, i < k ∧ i < l.length ∧ x = l.getD i dP := by
  obtain ⟨i, hi, rfl⟩ := List.mem_iff_getElem.1 h
  rw [List.length_take] at hi
  exact ⟨i, by omega, by omega, by rw [getD_lt l dP (show i < l.length by omega), List.getElem_take]⟩
theorem mem_drop_ge {l : List Pr} {k : Nat} {x : Pr} (h : x ∈ l.drop k) : ∃ i, k ≤ i ∧ i < l.length ∧ x = l.getD i dP := by
  obtain ⟨i, hi, rfl⟩ := List.mem_iff_getElem.1 h
  rw [List.length_drop] at hi
  exact ⟨k + i, by omega, by omega, by rw [getD_lt l dP (show k + i < l.length by omega), List.getElem_drop]⟩
/-- the keys behind the place are above -/
theorem above_place {l : List Pr} {key : Bs} (hr : rising l = true) {i : Nat} (hi : (if isAt l (place l key) key = true then place l key + 1 else place l key) ≤ i) (hl : i < l.length) : blt key (l.getD i dP).key = true := by
  split at hi
  · rename_i ha
    simp only [isAt, Bool.and_eq_true, decide_eq_true_eq] at ha
    rw [← ha.2]
    exact rising_pair hr (show place l key < i by omega) hl
  · rename_i ha
    have hne : ∀ j, j < l.length → (l.getD j dP).key ≠ key := fun j hj e => ha ((isAt_iff hr).2 ⟨_, getD_mem hj, e⟩)
    have h0 := place_at (l := l) (key := key) (by omega)
    by_cases e : i = place l key
    · subst e; exact blt_total (hne _ hl) h0
    · have h1 := blt_total (hne _ (show place l key < l.length by omega)) h0
      exact blt_trans h1 (rising_pair hr (show place l key < i by omega) hl)
theorem setP_good {l : List Pr} (hg : good l = true) {k v : Bs} (hs : sized k v = true) : good (setP l k v) = true := by
  have hr := rising_of_good hg
  have hz := sized_of_good hg
  have hp := (rising_iff_pw l).1 hr
  rw [good, Bool.and_eq_true, List.all_eq_true, rising_iff_pw]
  unfold setP
  constructor
  · intro x hx
    rcases List.mem_append.1 hx with hx | hx
    · rcases List.mem_append.1 hx with hx | hx
      · exact hz x (List.mem_of_mem_take hx)
      · rw [List.mem_singleton.1 hx]; exact hs
    · exact hz x (List.mem_of_mem_drop hx)
  · rw [List.pairwise_append, List.pairwise_append]
    refine ⟨⟨hp.sublist (List.take_sublist _ _), List.pairwise_singleton _ _, fun a ha b hb => ?_⟩, hp.sublist (List.drop_sublist _ _), fun a ha b hb => ?_⟩
    · rw [List.mem_singleton.1 hb]
      obtain ⟨i, hi, _, rfl⟩ := mem_take_lt ha
      exact place_below i hi
    · obtain ⟨j, hj, hjl, rfl⟩ := mem_drop_ge hb
      have hab := above_place hr hj hjl
      rcases List.mem_append.1 ha with ha | ha
      · obtain ⟨i, hi, _, rfl⟩ := mem_take_lt ha
        exact blt_trans (place_below i hi) hab
      · rw [List.mem_singleton.1 ha]; exact hab
theorem foldl_good (xs : List Pr) : ∀ out, good out = true → good (xs.foldl riseStep out) = true := by
  induction xs with
  | nil => intro out h; exact h
  | cons x xs ih =>
    intro out h
    rw [List.foldl_cons]
    refine ih _ ?_
    unfold riseStep
    split
    · rename_i hs; exact setP_good h hs
    · exact h
theorem rise_good (xs : List Pr) : good (rise xs) = true := foldl_good xs [] rfl
/-- is a key among the first k? -/
def anyKey (xs : List Pr) (key : Bs) (k : Nat) : Bool := (xs.take k).any fun x => decide (x.key = key)
theorem anyKey_zero (xs : List Pr) (key : Bs) : anyKey xs key 0 = false := by simp [anyKey]
theorem anyKey_succ (xs : List Pr) (key : Bs) {k : Nat} (hk : k < xs.length) : anyKey xs key (k + 1) = (anyKey xs key k || decide ((xs.getD k dP).key = key)) := by
  unfold anyKey
  rw [List.take_add_one, List.getElem?_eq_getElem hk, List.any_append, getD_lt xs dP hk]
  simp
theorem isAt_any {xs : List Pr} (hr : rising xs = true) (key : Bs) : isAt xs (place xs key) key = anyKey xs key xs.length := by
  rw [Bool.eq_iff_iff, isAt_iff hr]
  unfold anyKey
  rw [List.take_length, List.any_eq_true]
  constructor
  · rintro ⟨x, hx, e⟩; exact ⟨x, hx, by simpa using e⟩
  · rintro ⟨x, hx, e⟩; exact ⟨x, hx, by simpa using e⟩
end Go.Proofs.YtlkjeneffohnkaaDoor
