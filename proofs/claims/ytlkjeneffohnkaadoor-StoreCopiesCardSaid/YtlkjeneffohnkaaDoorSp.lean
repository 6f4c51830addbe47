import Derived.Test.YtlkjeneffohnkaaDoorSo8
set_option linter.unusedVariables false
set_option linter.unusedSimpArgs false
namespace Go.Proofs.YtlkjeneffohnkaaDoor
open Go.RowKit Go.Proofs Go.Proofs.Plan Go.Proofs.YtlkjeneffohnkaaDoorW.PrintWords
/-! rising lists: what is set, taken away, found -/
theorem place_all {l : List Pr} {key : Bs} (h : ∀ x ∈ l, blt x.key key = true) : place l key = l.length :=
  place_unique l.length (Nat.le_refl _) (fun i hi => h _ (getD_mem hi)) (fun h => absurd h (Nat.lt_irrefl _))
theorem setR_next {ys : List Pr} (hg : good ys = true) {k : Nat} (hk : k < ys.length) : setR (ys.take k) (ys.getD k dP).key (ys.getD k dP).val = ys.take (k + 1) := by
  unfold setR
  rw [if_pos (sized_of_good hg _ (getD_mem hk))]
  have hall : ∀ x ∈ ys.take k, blt x.key (ys.getD k dP).key = true := by
    intro x hx
    obtain ⟨i, hi, rfl⟩ := List.mem_iff_getElem.1 hx
    rw [List.length_take] at hi
    rw [List.getElem_take]
    have := rising_pair (rising_of_good hg) (i := i) (j := k) (by omega) hk
    rwa [getD_lt ys dP (show i < ys.length by omega)] at this
  have hp := place_all hall
  rw [setP_new (by unfold isAt; rw [hp]; simp), hp, List.take_length, List.drop_length, List.append_nil, List.take_succ_eq_append_getElem hk, getD_lt ys dP hk]
theorem getP_iff {l : List Pr} (hr : rising l = true) {key v : Bs} : getP l key = some v ↔ ∃ x ∈ l, x.key = key ∧ x.val = v := by
  unfold getP
  constructor
  · intro h
    split at h
    · rename_i hat
      simp only [isAt, Bool.and_eq_true, decide_eq_true_eq] at hat
      injection h with h
      exact ⟨_, getD_mem hat.1, hat.2, h⟩
    · cases h
  · rintro ⟨x, hx, rfl, rfl⟩
    obtain ⟨i, hi, rfl⟩ := List.mem_iff_getElem.1 hx
    have hp := place_of_key hr hi
    rw [getD_lt _ _ hi] at hp
    rw [hp, if_pos (by simp [isAt, hi, getD_lt _ _ hi]), getD_lt _ _ hi]
theorem getP_none {l : List Pr} (hr : rising l = true) {key : Bs} (h : ∀ x ∈ l, x.key ≠ key) : getP l key = none := by
  unfold getP
  rw [if_neg]
  intro hat
  obtain ⟨x, hx, e⟩ := (isAt_iff hr).1 hat
  exact h x hx e
theorem get_set {xs : List Pr} (hg : good xs = true) {key val : Bs} (hz : sized key val = true) : getP (setR xs key val) key = some val := by
  have hgs := setR_good hg key val
  refine (getP_iff (rising_of_good hgs)).2 ⟨⟨key, val⟩, ?_, rfl, rfl⟩
  unfold setR
  rw [if_pos hz]
  unfold setP
  split <;> simp
theorem mem_drop {xs : List Pr} (hg : good xs = true) {key : Bs} {x : Pr} : x ∈ dropP xs key ↔ x ∈ xs ∧ x.key ≠ key := by
  have hr := rising_of_good hg
  unfold dropP
  split
  · rename_i hat
    rw [List.mem_eraseIdx_iff_getElem]
    constructor
    · rintro ⟨i, hi, hne, rfl⟩
      refine ⟨List.getElem_mem _, fun e => hne ?_⟩
      have hp := place_of_key hr hi
      rw [getD_lt _ _ hi, e] at hp
      exact hp.symm
    · rintro ⟨hx, hk⟩
      obtain ⟨i, hi, rfl⟩ := List.mem_iff_getElem.1 hx
      refine ⟨i, hi, fun e => hk ?_, rfl⟩
      simp only [isAt, Bool.and_eq_true, decide_eq_true_eq] at hat
      have h2 := hat.2
      rw [← e, getD_lt _ _ hi] at h2
      exact h2
  · rename_i hat
    exact ⟨fun hx => ⟨hx, fun e => hat ((isAt_iff hr).2 ⟨x, hx, e⟩)⟩, fun h => h.1⟩
/-- what a copy answers, of which a key was set and "a" taken away -/
theorem copied {ys : List Pr} (hg : good ys = true) {key val : Bs} (hz : sized key val = true) : getP (dropP (setR ys key val) sA) key = if key = sA then none else some val := by
  have hgs := setR_good hg key val
  have hgd := dropP_good hgs sA
  split
  · rename_i e
    subst e
    exact getP_none (rising_of_good hgd) (fun x hx => ((mem_drop hgs).1 hx).2)
  · rename_i hne
    refine (getP_iff (rising_of_good hgd)).2 ⟨⟨key, val⟩, (mem_drop hgs).2 ⟨?_, hne⟩, rfl, rfl⟩
    obtain ⟨x, hx, h1, h2⟩ := (getP_iff (rising_of_good hgs)).1 (get_set hg hz)
    subst h1 h2
    exact hx
/-- an operation on a store: what lies apart stays, and stays apart -/
theorem OpPost.far {xs ys : List Pr} {base gs B : Nat} {w0 w w' : World} {v res : Value} {e : Ending} (h : OpPost ys base gs w v res e w') (hs : Sto w base gs v xs) (hb : Below B w0 w) (hB : B ≤ base) :
    ∃ v', e = .returned res ∧ Sto w' base gs v' ys ∧ Below B w0 w' ∧ ∀ b, b < w.heap.size → b ≠ gs → some b ≠ v.ownBlock → w'.heap[b]? = w.heap[b]? ∧ some b ≠ v'.ownBlock := by
  obtain ⟨v', he, hs', hc, ho⟩ := h
  have hgs := (Array.getElem?_eq_some_iff.1 hs.blk).1
  have hle := hs.le
  refine ⟨v', he, hs', below_chg hb hc (by omega) (by omega) (fun k hk => by have := hs.base k hk; omega), fun b hlt h1 h2 => ⟨hc.block b hlt h1 h2, ?_⟩⟩
  rcases ho with ho | ⟨k, ho, hk⟩
  · rw [ho]; exact h2
  · rw [ho]; intro e; injection e with e; omega
set_option maxHeartbeats 1000000 in
set_option maxRecDepth 100000 in
theorem keep_PairsT (A A' : Option Addr) (n c c' : Nat) (xs : List Pr) (w : World) (h : kP.C w A n xs) (h' : kP.C w A' n xs) :
    Calls Tryd.prog 42 #[.slice A n c, .slice A' n c'] w fun e w' => e = .returned (.bool true) ∧ Below w.heap.size w w' := by
  have HM := h.2.1
  have HH := Lib.hid h
  have HH' := Lib.hid h'
  clear h h'
  go_enter Tryd.func42, Tryd.ntmps42
  go_wp2
  go_loopg [5] n (fun g i wr => ∃ k : Nat, k + g = n ∧ i = .int .i64 k ∧ Below w.heap.size w wr)
  case atStart => exact ⟨0, by omega, rfl, Below.refl _ _⟩
  case round =>
    obtain ⟨k, hk, rfl, hb⟩ := hrel
    by_cases hlt : k < n
    · obtain ⟨ad, rfl, q0, q1⟩ := kP_at HH.out k hlt
      obtain ⟨ad', rfl, q2, q3⟩ := kP_at HH'.out k hlt
      obtain ⟨x, hx⟩ : ∃ x, x = xs.getD k dP := ⟨_, rfl⟩
      rw [← hx] at q0 q1 q2 q3
      have p0 := cell_below hb q0
      have p1 := cell_below hb q1
      have p2 := cell_below hb q2
      have p3 := cell_below hb q3
      have HB := Lib.hid hb
      clear hx q0 q1 q2 q3 hb
      go_upto_region 6 with (fail)
      refine wp_num (fun w' => Below wr.heap.size wr w') [0, 1, 2, 3, 4, 5, 6, 7, 8, 9, 10, 11, 12, 13, 14, 15, 16, 17, 18, 19, 20, 21, 22, 23] (.c (0, none, none) (.c (1, none, none) (.c (2, none, none) (.c (3, none, none) (.c (4, none, none) (.c (5, none, none) (.c (6, none, none) (.c (7, none, none) (.c (8, none, none) (.c (9, none, none) (.c (10, none, none) (.c (11, none, none) (.c (12, none, some (28, false)) (.c (13, none, some (28, false)) (.c (14, none, some (28, false)) (.c (15, none, some (28, false)) (.c (16, none, some (28, false)) (.c (17, none, some (28, false)) (.c (18, none, some (28, false)) (.c (19, none, some (28, false)) (.c (20, none, some (28, false)) (.c (21, none, some (28, false)) (.c (22, none, some (28, false)) (.c (23, none, none) (.nil))))))))))))))))))))))))) (by kernel_rfl) (by kernel_rfl) (by kernel_rfl) (fun _ _ d _ _ h => by cases d <;> exact h) (by kernel_rfl) ((Below.refl _ _).drew) ?_
      simp only [selE, nthO]
      apply p_q
      focus (intro w' hb; go_simp <;> rfl)
      simp only [Act.put, List.setIfInBounds_toArray, List.set_cons_zero, List.set_cons_succ, Array.toArray_toList]
      apply p_q
      focus (intro w' hb; go_simp <;> rfl)
      simp only [Act.put, List.setIfInBounds_toArray, List.set_cons_zero, List.set_cons_succ, Array.toArray_toList]
      apply p_qL (ops0 := #[]) rfl rfl rfl (Nat.le_of_ble_eq_true rfl)
      focus (intro w' hb; go_wp2_with fail; refine ⟨rfl, ?_, rfl⟩; simp only [List.getElem?_toArray, List.getElem?_cons_zero, List.getElem?_cons_succ, Option.some.injEq]; rfl)
      simp only [Act.put, List.setIfInBounds_toArray, List.set_cons_zero, List.set_cons_succ, Array.toArray_toList]
      apply p_qL (ops0 := #[]) rfl rfl rfl (Nat.le_of_ble_eq_true rfl)
      focus (intro w' hb; go_wp2_with fail; refine ⟨rfl, ?_, rfl⟩; simp only [List.getElem?_toArray, List.getElem?_cons_zero, List.getElem?_cons_succ, Option.some.injEq]; rfl)
      simp only [Act.put, List.setIfInBounds_toArray, List.set_cons_zero, List.set_cons_succ, Array.toArray_toList]
      refine p_load1 rfl rfl (fun w' hb => cell_below hb (by assumption)) Tryd.underlying9 rfl ?_
      simp only [Act.put, List.setIfInBounds_toArray, List.set_cons_zero, List.set_cons_succ, Array.toArray_toList]
      apply p_q
      focus (intro w' hb; go_simp <;> rfl)
      simp only [Act.put, List.setIfInBounds_toArray, List.set_cons_zero, List.set_cons_succ, Array.toArray_toList]
      apply p_q
      focus (intro w' hb; go_simp <;> rfl)
      simp only [Act.put, List.setIfInBounds_toArray, List.set_cons_zero, List.set_cons_succ, Array.toArray_toList]
      apply p_qL (ops0 := #[]) rfl rfl rfl (Nat.le_of_ble_eq_true rfl)
      focus (intro w' hb; go_wp2_with fail; refine ⟨rfl, ?_, rfl⟩; simp only [List.getElem?_toArray, List.getElem?_cons_zero, List.getElem?_cons_succ, Option.some.injEq]; rfl)
      simp only [Act.put, List.setIfInBounds_toArray, List.set_cons_zero, List.set_cons_succ, Array.toArray_toList]
      apply p_qL (ops0 := #[]) rfl rfl rfl (Nat.le_of_ble_eq_true rfl)
      focus (intro w' hb; go_wp2_with fail; refine ⟨rfl, ?_, rfl⟩; simp only [List.getElem?_toArray, List.getElem?_cons_zero, List.getElem?_cons_succ, Option.some.injEq]; rfl)
      simp only [Act.put, List.setIfInBounds_toArray, List.set_cons_zero, List.set_cons_succ, Array.toArray_toList]
      refine p_load1 rfl rfl (fun w' hb => cell_below hb (by assumption)) Tryd.underlying9 rfl ?_
      simp only [Act.put, List.setIfInBounds_toArray, List.set_cons_zero, List.set_cons_succ, Array.toArray_toList]
      apply p_qL (ops0 := #[]) rfl rfl rfl (Nat.le_of_ble_eq_true rfl)
      focus (intro w' hb; go_wp2_with fail; refine ⟨rfl, ?_, rfl⟩; simp only [List.getElem?_toArray, List.getElem?_cons_zero, List.getElem?_cons_succ, Option.some.injEq]; rfl)
      simp only [Act.put, List.setIfInBounds_toArray, List.set_cons_zero, List.set_cons_succ, Array.toArray_toList]
      apply p_q
      focus (intro w' hb; go_simp <;> rfl)
      simp only [Act.put, List.setIfInBounds_toArray, List.set_cons_zero, List.set_cons_succ, Array.toArray_toList]
      first
      | refine p_skip rfl ?_
      | (refine p_go rfl ?_; simp only [bare]; apply p_q; focus (intro w' hb; go_simp <;> rfl))
      simp only [Act.put, List.setIfInBounds_toArray, List.set_cons_zero, List.set_cons_succ, Array.toArray_toList]
      first
      | refine p_skip rfl ?_
      | (refine p_go rfl ?_; simp only [bare]; apply p_q; focus (intro w' hb; go_simp <;> rfl))
      simp only [Act.put, List.setIfInBounds_toArray, List.set_cons_zero, List.set_cons_succ, Array.toArray_toList]
      first
      | refine p_skip rfl ?_
      | (refine p_go rfl ?_; simp only [bare]; apply p_qL (ops0 := #[]) rfl rfl rfl (Nat.le_of_ble_eq_true rfl); focus (intro w' hb; go_wp2_with fail; refine ⟨rfl, ?_, rfl⟩; simp only [List.getElem?_toArray, List.getElem?_cons_zero, List.getElem?_cons_succ, Option.some.injEq]; rfl))
      simp only [Act.put, List.setIfInBounds_toArray, List.set_cons_zero, List.set_cons_succ, Array.toArray_toList]
      first
      | refine p_skip rfl ?_
      | (refine p_go rfl ?_; simp only [bare]; apply p_qL (ops0 := #[]) rfl rfl rfl (Nat.le_of_ble_eq_true rfl); focus (intro w' hb; go_wp2_with fail; refine ⟨rfl, ?_, rfl⟩; simp only [List.getElem?_toArray, List.getElem?_cons_zero, List.getElem?_cons_succ, Option.some.injEq]; rfl))
      simp only [Act.put, List.setIfInBounds_toArray, List.set_cons_zero, List.set_cons_succ, Array.toArray_toList]
      first
      | refine p_skip rfl ?_
      | (refine p_go rfl ?_; simp only [bare]; refine p_load1 rfl rfl (fun w' hb => cell_below hb (by assumption)) Tryd.underlying9 rfl ?_)
      simp only [Act.put, List.setIfInBounds_toArray, List.set_cons_zero, List.set_cons_succ, Array.toArray_toList]
      first
      | refine p_skip rfl ?_
      | (refine p_go rfl ?_; simp only [bare]; apply p_q; focus (intro w' hb; go_simp <;> rfl))
      simp only [Act.put, List.setIfInBounds_toArray, List.set_cons_zero, List.set_cons_succ, Array.toArray_toList]
      first
      | refine p_skip rfl ?_
      | (refine p_go rfl ?_; simp only [bare]; apply p_q; focus (intro w' hb; go_simp <;> rfl))
      simp only [Act.put, List.setIfInBounds_toArray, List.set_cons_zero, List.set_cons_succ, Array.toArray_toList]
      first
      | refine p_skip rfl ?_
      | (refine p_go rfl ?_; simp only [bare]; apply p_qL (ops0 := #[]) rfl rfl rfl (Nat.le_of_ble_eq_true rfl); focus (intro w' hb; go_wp2_with fail; refine ⟨rfl, ?_, rfl⟩; simp only [List.getElem?_toArray, List.getElem?_cons_zero, List.getElem?_cons_succ, Option.some.injEq]; rfl))
      simp only [Act.put, List.setIfInBounds_toArray, List.set_cons_zero, List.set_cons_succ, Array.toArray_toList]
      first
      | refine p_skip rfl ?_
      | (refine p_go rfl ?_; simp only [bare]; apply p_qL (ops0 := #[]) rfl rfl rfl (Nat.le_of_ble_eq_true rfl); focus (intro w' hb; go_wp2_with fail; refine ⟨rfl, ?_, rfl⟩; simp only [List.getElem?_toArray, List.getElem?_cons_zero, List.getElem?_cons_succ, Option.some.injEq]; rfl))
      simp only [Act.put, List.setIfInBounds_toArray, List.set_cons_zero, List.set_cons_succ, Array.toArray_toList]
      first
      | refine p_skip rfl ?_
      | (refine p_go rfl ?_; simp only [bare]; refine p_load1 rfl rfl (fun w' hb => cell_below hb (by assumption)) Tryd.underlying9 rfl ?_)
      simp only [Act.put, List.setIfInBounds_toArray, List.set_cons_zero, List.set_cons_succ, Array.toArray_toList]
      first
      | refine p_skip rfl ?_
      | (refine p_go rfl ?_; simp only [bare]; apply p_qL (ops0 := #[]) rfl rfl rfl (Nat.le_of_ble_eq_true rfl); focus (intro w' hb; go_wp2_with fail; refine ⟨rfl, ?_, rfl⟩; simp only [List.getElem?_toArray, List.getElem?_cons_zero, List.getElem?_cons_succ, Option.some.injEq]; rfl))
      simp only [Act.put, List.setIfInBounds_toArray, List.set_cons_zero, List.set_cons_succ, Array.toArray_toList]
      apply p_qL (ops0 := #[]) rfl rfl rfl (Nat.le_of_ble_eq_true rfl)
      focus (intro w' hb; go_wp2_with fail; refine ⟨rfl, ?_, rfl⟩; simp only [List.getElem?_toArray, List.getElem?_cons_zero, List.getElem?_cons_succ, Option.some.injEq]; rfl)
      simp only [Act.put, List.setIfInBounds_toArray, List.set_cons_zero, List.set_cons_succ, Array.toArray_toList]
      refine p_end ?_
      go_wp2
      go_roundg (gk - 1)
      case measure => omega
      case rel => exact ⟨k + 1, by omega, by go_num, HB.out.drew⟩
    · obtain rfl : k = n := by omega
      go_wp2
      go_ret
      exact ⟨rfl, hb⟩
end Go.Proofs.YtlkjeneffohnkaaDoor
