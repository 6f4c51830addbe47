import Derived.Test.YtlkjeneffohnkaaDoorShaM
import Derived.Laws.Strings
import Derived.Lib.Strings
set_option linter.unusedVariables false
set_option linter.unusedSimpArgs false
namespace Go.Proofs.YtlkjeneffohnkaaDoor
open Go
theorem eight_inj {a b : Nat} (ha : a < 18446744073709551616) (hb : b < 18446744073709551616) (h : eight a = eight b) : a = b := by
  simp only [eight, ByteArray.mk.injEq, Array.mk.injEq, List.cons.injEq, and_true] at h
  obtain ⟨h0, h1, h2, h3, h4, h5, h6, h7⟩ := h
  have t : ∀ x y : Nat, x.toUInt8 = y.toUInt8 → x % 256 = y % 256 := fun x y e => by
    have := congrArg UInt8.toNat e
    simpa using this
  have := t _ _ h0; have := t _ _ h1; have := t _ _ h2; have := t _ _ h3; have := t _ _ h4; have := t _ _ h5; have := t _ _ h6; have := t _ _ h7
  omega
/-! texts whose digests are taken -/
def leafT (k v : Bs) : Bs := ⟨#[0]⟩ ++ eight k.size ++ k ++ v
def nodeT (a b : Bs) : Bs := ⟨#[1]⟩ ++ a ++ b
def rootT (n : Nat) (t : Bs) : Bs := ⟨#[2]⟩ ++ eight n ++ t
def leafH (k v : Bs) : Bs := sha (leafT k v)
def node (a b : Bs) : Bs := sha (nodeT a b)
def rootH (n : Nat) (t : Bs) : Bs := sha (rootT n t)
theorem app_inj {a b c d : Bs} (h : a ++ b = c ++ d) (hs : a.size = c.size) : a = c ∧ b = d := by
  have e := ByteArray.append_inj_left h hs
  subst e
  exact ⟨rfl, (ByteArray.append_right_inj _).1 h⟩
theorem leafT_inj {k v k' v' : Bs} (hk : k.size < 18446744073709551616) (hk' : k'.size < 18446744073709551616) (h : leafT k v = leafT k' v') : k = k' ∧ v = v' := by
  unfold leafT at h
  simp only [ByteArray.append_assoc] at h
  obtain ⟨_, h⟩ := app_inj h rfl
  obtain ⟨e, h⟩ := app_inj h rfl
  exact app_inj h (eight_inj hk hk' e)
theorem nodeT_inj {a b a' b' : Bs} (hs : a.size = a'.size) (h : nodeT a b = nodeT a' b') : a = a' ∧ b = b' := by
  unfold nodeT at h
  simp only [ByteArray.append_assoc] at h
  obtain ⟨_, h⟩ := app_inj h rfl
  exact app_inj h hs
theorem rootT_inj {n n' : Nat} {t t' : Bs} (hn : n < 18446744073709551616) (hn' : n' < 18446744073709551616) (h : rootT n t = rootT n' t') : n = n' ∧ t = t' := by
  unfold rootT at h
  simp only [ByteArray.append_assoc] at h
  obtain ⟨_, h⟩ := app_inj h rfl
  obtain ⟨e, h⟩ := app_inj h rfl
  exact ⟨eight_inj hn hn' e, h⟩
/-! the tree -/
def half (n : Nat) : Nat := 2 ^ Nat.log2 (n - 1)
theorem half_pos (n : Nat) : 0 < half n := Nat.pow_pos (by omega)
theorem half_lt {n : Nat} (h : 2 ≤ n) : half n < n := by
  unfold half
  have := Nat.log2_self_le (n := n - 1) (by omega)
  omega
theorem half_ge {n : Nat} (h : 2 ≤ n) : n ≤ 2 * half n := by
  unfold half
  have := Nat.lt_log2_self (n := n - 1)
  have : 2 ^ (Nat.log2 (n-1) + 1) = 2 * 2 ^ Nat.log2 (n-1) := by rw [Nat.pow_succ, Nat.mul_comm]
  omega
def top (l : List Bs) : Bs :=
  if _h : l.length < 2 then l.headD hz else
    node (top (l.take (half l.length))) (top (l.drop (half l.length)))
termination_by l.length
decreasing_by
  · simp only [List.length_take]; have := half_lt (n := l.length) (by omega); omega
  · simp only [List.length_drop]; have := half_pos l.length; omega
def way (l : List Bs) (i : Nat) : List Bs :=
  if _h : l.length < 2 then [] else
    if i < half l.length then way (l.take (half l.length)) i ++ [top (l.drop (half l.length))]
    else way (l.drop (half l.length)) (i - half l.length) ++ [top (l.take (half l.length))]
termination_by l.length
decreasing_by
  · simp only [List.length_take]; have := half_lt (n := l.length) (by omega); omega
  · simp only [List.length_drop]; have := half_pos l.length; omega
def deep (n i : Nat) : Nat :=
  if _h : n < 2 then 0 else if i < half n then deep (half n) i + 1 else deep (n - half n) (i - half n) + 1
termination_by n
decreasing_by
  · have := half_lt (n := n) (by omega); omega
  · have := half_pos n; omega
def fold (n i : Nat) (leaf : Bs) (p : List Bs) : Bs :=
  if _h : n < 2 then leaf else
    if i < half n then node (fold (half n) i leaf p.dropLast) (p.getLastD hz)
    else node (p.getLastD hz) (fold (n - half n) (i - half n) leaf p.dropLast)
termination_by n
decreasing_by
  · have := half_lt (n := n) (by omega); omega
  · have := half_pos n; omega
/-- the texts below a top -/
def topT (l : List Bs) : List Bs :=
  if _h : l.length < 2 then [] else
    topT (l.take (half l.length)) ++ topT (l.drop (half l.length)) ++ [nodeT (top (l.take (half l.length))) (top (l.drop (half l.length)))]
termination_by l.length
decreasing_by
  · simp only [List.length_take]; have := half_lt (n := l.length) (by omega); omega
  · simp only [List.length_drop]; have := half_pos l.length; omega
/-- the texts on a way -/
def wayT (n i : Nat) (leaf : Bs) (p : List Bs) : List Bs :=
  if _h : n < 2 then [] else
    if i < half n then wayT (half n) i leaf p.dropLast ++ [nodeT (fold (half n) i leaf p.dropLast) (p.getLastD hz)]
    else wayT (n - half n) (i - half n) leaf p.dropLast ++ [nodeT (p.getLastD hz) (fold (n - half n) (i - half n) leaf p.dropLast)]
termination_by n
decreasing_by
  · have := half_lt (n := n) (by omega); omega
  · have := half_pos n; omega
theorem top_lt {l : List Bs} (h : l.length < 2) : top l = l.headD hz := by rw [top, dif_pos h]
theorem top_ge {l : List Bs} (h : 2 ≤ l.length) : top l = node (top (l.take (half l.length))) (top (l.drop (half l.length))) := by rw [top, dif_neg (by omega)]
theorem way_length (l : List Bs) (i : Nat) : (way l i).length = deep l.length i := by
  induction hn : l.length using Nat.strongRecOn generalizing l i with
  | _ n ih =>
    subst hn
    rw [way, deep]
    split
    · rfl
    · have h1 := half_lt (n := l.length) (by omega)
      have h2 := half_pos l.length
      split
      · rw [List.length_append, ih (half l.length) h1 (l.take (half l.length)) i (by rw [List.length_take]; omega)]; rfl
      · rw [List.length_append, ih (l.length - half l.length) (by omega) (l.drop (half l.length)) _ (by rw [List.length_drop])]; rfl
theorem fold_way (l : List Bs) (i : Nat) (hi : i < l.length) : fold l.length i (l.getD i hz) (way l i) = top l := by
  induction hn : l.length using Nat.strongRecOn generalizing l i with
  | _ n ih =>
    subst hn
    by_cases hge : l.length < 2
    · have : i = 0 := by omega
      subst this
      rw [fold, dif_pos hge, top_lt hge]
      cases l with
      | nil => rfl
      | cons a l => rfl
    · rw [fold, way, dif_neg hge, dif_neg hge, top_ge (l := l) (by omega)]
      have h1 := half_lt (n := l.length) (by omega)
      have h2 := half_pos l.length
      by_cases hc : i < half l.length
      · rw [if_pos hc, if_pos hc, List.dropLast_concat, List.getLastD_concat]
        have := ih (half l.length) h1 (l.take (half l.length)) i (by rw [List.length_take]; omega) (by rw [List.length_take]; omega)
        rw [← this]
        congr 2
        simp [List.getD, hc]
      · rw [if_neg hc, if_neg hc, List.dropLast_concat, List.getLastD_concat]
        have := ih (l.length - half l.length) (by omega) (l.drop (half l.length)) (i - half l.length) (by rw [List.length_drop]; omega) (by rw [List.length_drop])
        rw [← this]
        congr 2
        simp [List.getD, List.getElem?_drop, show half l.length + (i - half l.length) = i by omega]
/-- no clash: of the texts of T no two unlike ones have one digest -/
def Free (T : List Bs) : Prop := ∀ x ∈ T, ∀ y ∈ T, sha x = sha y → x = y
theorem top_size (l : List Bs) (h : ∀ x ∈ l, x.size = 32) : (top l).size = 32 := by
  rw [top]
  split
  · cases l with
    | nil => rfl
    | cons a l => exact h a (by simp)
  · exact sha_size _
theorem fold_size (n i : Nat) (leaf : Bs) (p : List Bs) (h : leaf.size = 32) : (fold n i leaf p).size = 32 := by
  rw [fold]
  split
  · exact h
  · split <;> exact sha_size _
theorem fold_forged (l : List Bs) (i : Nat) (hi : i < l.length) (leaf : Bs) (p : List Bs) (T : List Bs) (hT : Free T) (h32 : ∀ x ∈ l, x.size = 32) (hl : leaf.size = 32) (hp : ∀ x ∈ p, x.size = 32)
    (hlen : p.length = deep l.length i) (h1 : ∀ x ∈ topT l, x ∈ T) (h2 : ∀ x ∈ wayT l.length i leaf p, x ∈ T) (hf : fold l.length i leaf p = top l) : leaf = l.getD i hz ∧ p = way l i := by
  induction hn : l.length using Nat.strongRecOn generalizing l i p with
  | _ n ih =>
    subst hn
    rw [deep] at hlen
    rw [topT] at h1
    rw [wayT] at h2
    rw [fold, top] at hf
    rw [way]
    split
    · rename_i hlt
      rw [dif_pos hlt] at hlen hf
      rw [dif_pos hlt] at hf
      have : i = 0 := by omega
      subst this
      refine ⟨?_, List.length_eq_zero_iff.1 hlen⟩
      cases l <;> simp_all
    · rename_i hge
      rw [dif_neg hge] at hlen hf h1 h2
      rw [dif_neg hge] at hf
      have g1 := half_lt (n := l.length) (by omega)
      have g2 := half_pos l.length
      have hlast : p.getLastD hz ∈ p := by
        cases p with
        | nil => split at hlen <;> simp at hlen
        | cons a p => rw [List.getLastD_cons]; exact List.getLastD_mem_cons ..
      have hne : p ≠ [] := by rintro rfl; cases hlast
      have hpeq : p.dropLast ++ [p.getLastD hz] = p := by
        have := List.dropLast_concat_getLast hne
        rw [List.getLastD_eq_getLast?, List.getLast?_eq_some_getLast hne]; exact this
      have hdl : p.dropLast.length = p.length - 1 := by simp
      have hpd : ∀ x ∈ p.dropLast, x.size = 32 := fun x hx => hp x (List.dropLast_subset p hx)
      have tl : ∀ x ∈ l.take (half l.length), x.size = 32 := fun x hx => h32 x (List.mem_of_mem_take hx)
      have td : ∀ x ∈ l.drop (half l.length), x.size = 32 := fun x hx => h32 x (List.mem_of_mem_drop hx)
      by_cases hc : i < half l.length
      · rw [if_pos hc] at hlen hf h2 ⊢
        have e := hT _ (h2 _ (by simp)) _ (h1 _ (by simp)) hf
        obtain ⟨e1, e2⟩ := nodeT_inj (by rw [fold_size _ _ _ _ hl, top_size _ tl]) e
        have hL : (l.take (half l.length)).length = half l.length := by rw [List.length_take]; omega
        obtain ⟨r1, r2⟩ := ih (half l.length) g1 (l.take (half l.length)) i (by omega) p.dropLast tl hpd (by rw [hL]; omega) (fun x hx => h1 x (by simp [hx])) (fun x hx => h2 x (by rw [hL] at hx; simp [hx])) (by rw [hL]; exact e1) hL
        refine ⟨by rw [r1]; simp [List.getD, hc], ?_⟩
        rw [← r2, ← e2, hpeq]
      · rw [if_neg hc] at hlen hf h2 ⊢
        have e := hT _ (h2 _ (by simp)) _ (h1 _ (by simp)) hf
        obtain ⟨e1, e2⟩ := nodeT_inj (by rw [hp _ hlast, top_size _ tl]) e
        have hL : (l.drop (half l.length)).length = l.length - half l.length := by rw [List.length_drop]
        obtain ⟨r1, r2⟩ := ih (l.length - half l.length) (by omega) (l.drop (half l.length)) (i - half l.length) (by omega) p.dropLast td hpd (by rw [hL]; omega) (fun x hx => h1 x (by simp [hx])) (fun x hx => h2 x (by rw [hL] at hx; simp [hx])) (by rw [hL]; exact e2) hL
        refine ⟨by rw [r1]; simp [List.getD, List.getElem?_drop, show half l.length + (i - half l.length) = i by omega], ?_⟩
        rw [← r2, ← e1, hpeq]
/-- an element that is there -/
theorem getD_lt {α : Type} (l : List α) (d : α) {i : Nat} (h : i < l.length) : l.getD i d = l[i] := by simp [List.getD, List.getElem?_eq_getElem h]
/-! the order of strings -/
def blt (a b : Bs) : Bool := Op.bytesLess a.toList b.toList
theorem toList_inj {a b : Bs} (h : a.toList = b.toList) : a = b := by
  rw [Lib.toList_data, Lib.toList_data] at h
  exact ByteArray.ext (Array.toList_inj.1 h)
theorem eq_toList (a b : Bs) : (a.toList == b.toList) = decide (a = b) := by
  by_cases h : a = b
  · subst h; simp
  · rw [decide_eq_false h, beq_eq_false_iff_ne]; exact fun e => h (toList_inj e)
theorem bl_irrefl : ∀ l : List UInt8, Op.bytesLess l l = false
  | [] => rfl
  | a :: l => by simp [Op.bytesLess, bl_irrefl l]
theorem bl_asymm : ∀ l m : List UInt8, Op.bytesLess l m = true → Op.bytesLess m l = false
  | [], [], h => rfl
  | [], b :: m, h => rfl
  | a :: l, [], h => by simp [Op.bytesLess] at h
  | a :: l, b :: m, h => by
    simp only [Op.bytesLess, Bool.or_eq_true, decide_eq_true_eq, Bool.and_eq_true, beq_iff_eq] at h
    simp only [Op.bytesLess, Bool.or_eq_false_iff, decide_eq_false_iff_not, Bool.and_eq_false_iff, beq_eq_false_iff_ne]
    rcases h with h | ⟨rfl, h⟩
    · exact ⟨fun h' => absurd (UInt8.lt_trans h h') (UInt8.lt_irrefl _), .inl (by rintro rfl; exact UInt8.lt_irrefl _ h)⟩
    · exact ⟨UInt8.lt_irrefl _, .inr (bl_asymm l m h)⟩
theorem bl_trans : ∀ l m n : List UInt8, Op.bytesLess l m = true → Op.bytesLess m n = true → Op.bytesLess l n = true
  | l, m, [], h, h' => by cases m <;> simp [Op.bytesLess] at h'
  | l, [], c :: n, h, h' => by cases l <;> simp [Op.bytesLess] at h
  | [], b :: m, c :: n, h, h' => rfl
  | a :: l, b :: m, c :: n, h, h' => by
    simp only [Op.bytesLess, Bool.or_eq_true, decide_eq_true_eq, Bool.and_eq_true, beq_iff_eq] at h h' ⊢
    rcases h with h | ⟨rfl, h⟩
    · rcases h' with h' | ⟨rfl, h'⟩
      · exact .inl (UInt8.lt_trans h h')
      · exact .inl h
    · rcases h' with h' | ⟨rfl, h'⟩
      · exact .inl h'
      · exact .inr ⟨rfl, bl_trans l m n h h'⟩
theorem bl_total : ∀ l m : List UInt8, l ≠ m → Op.bytesLess l m = false → Op.bytesLess m l = true
  | [], [], h, _ => absurd rfl h
  | [], b :: m, h, h' => by simp [Op.bytesLess] at h'
  | a :: l, [], h, h' => rfl
  | a :: l, b :: m, h, h' => by
    simp only [Op.bytesLess, Bool.or_eq_false_iff, decide_eq_false_iff_not, Bool.and_eq_false_iff, beq_eq_false_iff_ne] at h'
    simp only [Op.bytesLess, Bool.or_eq_true, decide_eq_true_eq, Bool.and_eq_true, beq_iff_eq]
    by_cases e : a = b
    · subst e
      exact .inr ⟨rfl, bl_total l m (fun e => h (by rw [e])) (h'.2.resolve_left (fun n => n rfl))⟩
    · rcases UInt8.lt_or_lt_of_ne e with hl | hl
      · exact absurd hl h'.1
      · exact .inl hl
theorem blt_irrefl (a : Bs) : blt a a = false := bl_irrefl _
theorem blt_asymm {a b : Bs} (h : blt a b = true) : blt b a = false := bl_asymm _ _ h
theorem blt_trans {a b c : Bs} (h : blt a b = true) (h' : blt b c = true) : blt a c = true := bl_trans _ _ _ h h'
theorem blt_total {a b : Bs} (hne : a ≠ b) (h : blt a b = false) : blt b a = true := bl_total _ _ (fun e => hne (toList_inj e)) h
theorem blt_ne {a b : Bs} (h : blt a b = true) : a ≠ b := by rintro rfl; rw [blt_irrefl] at h; cases h
theorem blt_of_not {a b c : Bs} (h : blt a b = true) (h' : blt c b = false) : blt a c = true := by
  by_cases e : c = b
  · subst e; exact h
  · exact blt_trans h (blt_total e h')
/-! pairs, leaves, proofs -/
structure Pr where
  key : Bs
  val : Bs
structure Lf where
  key : Bs
  val : Bs
  index : Int
  path : List Bs
structure Pf where
  count : Int
  leaves : List Lf
def sized (k v : Bs) : Bool := decide (1 ≤ k.size) && decide (k.size ≤ 160) && decide (1 ≤ v.size) && decide (v.size ≤ 64)
/-- each key is above the one ahead -/
def rising : List Pr → Bool
  | [] => true
  | [_] => true
  | a :: b :: l => blt a.key b.key && rising (b :: l)
def good (l : List Pr) : Bool := l.all (fun x => sized x.key x.val) && rising l
def sums (l : List Pr) : List Bs := l.map fun x => leafH x.key x.val
theorem sums_length (l : List Pr) : (sums l).length = l.length := by simp [sums]
theorem sums_32 (l : List Pr) : ∀ x ∈ sums l, x.size = 32 := by
  intro x hx
  obtain ⟨y, _, rfl⟩ := List.mem_map.1 hx
  exact sha_size _
def rootOf (l : List Pr) : Bs := rootH l.length (top (sums l))
def dP : Pr := ⟨ByteArray.empty, ByteArray.empty⟩
def leafAt (l : List Pr) (i : Nat) : Lf := ⟨(l.getD i dP).key, (l.getD i dP).val, i, way (sums l) i⟩
/-- how many keys are below one -/
def place (l : List Pr) (key : Bs) : Nat := (l.takeWhile fun x => blt x.key key).length
def isAt (l : List Pr) (k : Nat) (key : Bs) : Bool := decide (k < l.length) && decide ((l.getD k dP).key = key)
def make (l : List Pr) (key : Bs) : Pf :=
  if good l = true then
    if isAt l (place l key) key = true then ⟨l.length, [leafAt l (place l key)]⟩
    else ⟨l.length, (if 0 < place l key then [leafAt l (place l key - 1)] else []) ++ (if place l key < l.length then [leafAt l (place l key)] else [])⟩
  else ⟨0, []⟩
def mayLf (count : Int) (x : Lf) : Bool := sized x.key x.val && decide (0 ≤ x.index) && decide (x.index < count) && decide (x.path.length = deep count.toNat x.index.toNat)
def mayPf (p : Pf) : Bool := decide (0 ≤ p.count) && decide (p.count ≤ 1073741824) && decide (p.leaves.length ≤ 2) && p.leaves.all (mayLf p.count)
def stands (root : Bs) (n : Int) (x : Lf) : Bool := decide (rootH n.toNat (fold n.toNat x.index.toNat (leafH x.key x.val) x.path) = root)
def value (root : Bs) (p : Pf) (key : Bs) : Option Bs :=
  if mayPf p = true then
    match p.leaves with
    | [x] => if x.key = key ∧ stands root p.count x = true then some x.val else none
    | _ => none
  else none
def has (root : Bs) (p : Pf) (key val : Bs) : Bool := match value root p key with | some v => decide (v = val) | none => false
def lacks (root : Bs) (p : Pf) (key : Bs) : Bool :=
  mayPf p && p.leaves.all (stands root p.count) &&
    match p.leaves with
    | [] => decide (p.count = 0) && decide (root = rootH 0 hz)
    | [x] => (decide (x.index = 0) && blt key x.key) || (decide (x.index = p.count - 1) && blt x.key key)
    | x :: y :: _ => decide (y.index = x.index + 1) && blt x.key key && blt key y.key
/-! rising lists -/
theorem rising_tail {a : Pr} {l : List Pr} (h : rising (a :: l) = true) : rising l = true := by
  cases l with
  | nil => rfl
  | cons b l => simp only [rising, Bool.and_eq_true] at h; exact h.2
theorem rising_lt {a : Pr} {l : List Pr} (h : rising (a :: l) = true) : ∀ x ∈ l, blt a.key x.key = true := by
  induction l generalizing a with
  | nil => intro x hx; cases hx
  | cons b l ih =>
    intro x hx
    have h' := h
    simp only [rising, Bool.and_eq_true] at h
    rcases List.mem_cons.1 hx with rfl | hx
    · exact h.1
    · exact blt_trans h.1 (ih (rising_tail h') x hx)
theorem rising_cons {a : Pr} {l : List Pr} (h : rising l = true) (h' : ∀ x ∈ l, blt a.key x.key = true) : rising (a :: l) = true := by
  cases l with
  | nil => rfl
  | cons b l => simp only [rising, Bool.and_eq_true]; exact ⟨h' b (by simp), h⟩
theorem rising_pair : ∀ {l : List Pr}, rising l = true → ∀ {i j : Nat}, i < j → j < l.length → blt (l.getD i dP).key (l.getD j dP).key = true
  | [], _, i, j, _, hj => by simp at hj
  | a :: l, h, i, j, hij, hj => by
    cases j with
    | zero => omega
    | succ j =>
      have hj' : j < l.length := by simpa using hj
      cases i with
      | zero =>
        have := rising_lt h (l.getD j dP) (by rw [getD_lt _ _ hj']; exact List.getElem_mem _)
        simpa using this
      | succ i =>
        have := rising_pair (rising_tail h) (i := i) (j := j) (by omega) hj'
        simpa using this
theorem place_le (l : List Pr) (key : Bs) : place l key ≤ l.length := by unfold place; exact (List.takeWhile_prefix _).length_le
theorem place_below {l : List Pr} {key : Bs} : ∀ i, i < place l key → blt (l.getD i dP).key key = true := by
  unfold place
  induction l with
  | nil => intro i h; simp at h
  | cons a l ih =>
    intro i h
    rw [List.takeWhile_cons] at h
    split at h
    · rename_i hp
      cases i with
      | zero => simpa using hp
      | succ i => simpa using ih i (by simpa using h)
    · simp at h
theorem place_at {l : List Pr} {key : Bs} : place l key < l.length → blt (l.getD (place l key) dP).key key = false := by
  unfold place
  induction l with
  | nil => intro h; simp at h
  | cons a l ih =>
    intro h
    rw [List.takeWhile_cons] at h ⊢
    split
    · rename_i hp
      rw [if_pos hp] at h
      simpa using ih (by simpa using h)
    · rename_i hp
      simpa using hp
theorem place_unique {l : List Pr} {key : Bs} (k : Nat) (hk : k ≤ l.length) (h1 : ∀ i, i < k → blt (l.getD i dP).key key = true) (h2 : k < l.length → blt (l.getD k dP).key key = false) : place l key = k := by
  rcases Nat.lt_trichotomy (place l key) k with h | h | h
  · have a := h1 _ h
    rw [place_at (by omega)] at a; cases a
  · exact h
  · have a := place_below (l := l) (key := key) k h
    have := place_le l key
    rw [h2 (by omega)] at a; cases a
theorem place_above {l : List Pr} {key : Bs} (hr : rising l = true) (i : Nat) (hi : place l key < i) (hl : i < l.length) : blt (l.getD i dP).key key = false := by
  have a := place_at (l := l) (key := key) (by omega)
  have b := rising_pair hr hi hl
  cases h : blt (l.getD i dP).key key with
  | false => rfl
  | true => rw [blt_trans b h] at a; cases a
/-- is the key among those of a rising list? -/
theorem isAt_iff {l : List Pr} {key : Bs} (hr : rising l = true) : isAt l (place l key) key = true ↔ ∃ x ∈ l, x.key = key := by
  unfold isAt
  simp only [Bool.and_eq_true, decide_eq_true_eq]
  constructor
  · rintro ⟨h, e⟩
    exact ⟨_, by rw [getD_lt _ _ h]; exact List.getElem_mem _, e⟩
  · rintro ⟨x, hx, rfl⟩
    obtain ⟨i, hi, rfl⟩ := List.mem_iff_getElem.1 hx
    have e : place l l[i].key = i := by
      refine place_unique i (by omega) (fun j hj => ?_) (fun _ => ?_)
      · have := rising_pair hr hj hi
        rwa [getD_lt _ _ hi] at this
      · rw [getD_lt _ _ hi]; exact blt_irrefl _
    rw [e]
    exact ⟨hi, by rw [getD_lt _ _ hi]⟩
theorem getD_mem {l : List Pr} {i : Nat} (h : i < l.length) : l.getD i dP ∈ l := by rw [getD_lt _ _ h]; exact List.getElem_mem _
theorem sized_of_good {l : List Pr} (h : good l = true) : ∀ x ∈ l, sized x.key x.val = true := by
  simp only [good, Bool.and_eq_true, List.all_eq_true] at h; exact h.1
theorem rising_of_good {l : List Pr} (h : good l = true) : rising l = true := by
  simp only [good, Bool.and_eq_true] at h; exact h.2
theorem sums_getD {l : List Pr} {i : Nat} (h : i < l.length) : (sums l).getD i hz = leafH (l.getD i dP).key (l.getD i dP).val := by
  unfold sums
  rw [getD_lt _ _ (by simpa using h), List.getElem_map, getD_lt _ _ h]
theorem leafAt_may {l : List Pr} (hg : good l = true) {i : Nat} (h : i < l.length) : mayLf l.length (leafAt l i) = true := by
  unfold mayLf leafAt
  simp only [Bool.and_eq_true, decide_eq_true_eq]
  exact ⟨⟨⟨sized_of_good hg _ (getD_mem h), by omega⟩, by omega⟩, by rw [way_length, sums_length]; simp⟩
theorem leafAt_stands {l : List Pr} {i : Nat} (h : i < l.length) : stands (rootOf l) l.length (leafAt l i) = true := by
  unfold stands leafAt rootOf
  simp only [decide_eq_true_eq, Int.toNat_natCast]
  rw [← sums_getD h]
  have := fold_way (sums l) i (by rw [sums_length]; exact h)
  rw [sums_length] at this
  rw [this]
theorem make_eq {l : List Pr} (hg : good l = true) (key : Bs) : make l key =
    if isAt l (place l key) key = true then ⟨l.length, [leafAt l (place l key)]⟩
    else ⟨l.length, (if 0 < place l key then [leafAt l (place l key - 1)] else []) ++ (if place l key < l.length then [leafAt l (place l key)] else [])⟩ := by
  unfold make; rw [if_pos hg]
theorem make_leaves {l : List Pr} (hg : good l = true) (key : Bs) : ∀ x ∈ (make l key).leaves, ∃ i, i < l.length ∧ x = leafAt l i := by
  intro x hx
  rw [make_eq hg] at hx
  have := place_le l key
  by_cases h : isAt l (place l key) key = true
  · rw [if_pos h] at hx
    refine ⟨place l key, ?_, List.mem_singleton.1 hx⟩
    simp only [isAt, Bool.and_eq_true, decide_eq_true_eq] at h; exact h.1
  · rw [if_neg h] at hx
    rcases List.mem_append.1 hx with hx | hx
    · split at hx
      · exact ⟨_, by omega, List.mem_singleton.1 hx⟩
      · cases hx
    · split at hx
      · exact ⟨_, by omega, List.mem_singleton.1 hx⟩
      · cases hx
theorem make_count {l : List Pr} (hg : good l = true) (key : Bs) : (make l key).count = l.length := by rw [make_eq hg]; split <;> rfl
theorem make_may {l : List Pr} (hg : good l = true) (hn : l.length ≤ 1073741824) (key : Bs) : mayPf (make l key) = true := by
  unfold mayPf
  simp only [Bool.and_eq_true, decide_eq_true_eq, List.all_eq_true]
  rw [make_count hg]
  refine ⟨⟨⟨by omega, by omega⟩, ?_⟩, fun x hx => ?_⟩
  · rw [make_eq hg]; split
    · simp
    · simp only [List.length_append]; split <;> split <;> simp
  · obtain ⟨i, hi, rfl⟩ := make_leaves hg key x hx
    exact leafAt_may hg hi
theorem make_stands {l : List Pr} (hg : good l = true) (key : Bs) : (make l key).leaves.all (stands (rootOf l) (make l key).count) = true := by
  rw [List.all_eq_true, make_count hg]
  intro x hx
  obtain ⟨i, hi, rfl⟩ := make_leaves hg key x hx
  exact leafAt_stands hi
/-- what is there is shown, with its value, and does not lack -/
theorem make_shows {l : List Pr} (hg : good l = true) (hn : l.length ≤ 1073741824) (key : Bs) (h : isAt l (place l key) key = true) :
    value (rootOf l) (make l key) key = some (l.getD (place l key) dP).val ∧ lacks (rootOf l) (make l key) key = false := by
  have hm := make_may hg hn key
  have hs := make_stands hg key
  have h' := h
  simp only [isAt, Bool.and_eq_true, decide_eq_true_eq] at h'
  obtain ⟨hlt, hk⟩ := h'
  have e : make l key = ⟨l.length, [leafAt l (place l key)]⟩ := by rw [make_eq hg, if_pos h]
  rw [e] at hm hs ⊢
  constructor
  · unfold value
    rw [if_pos hm]
    simp only [List.all_cons, List.all_nil, Bool.and_true] at hs
    simp only
    rw [if_pos ⟨hk, hs⟩]; rfl
  · unfold lacks
    simp only [leafAt, hk, blt_irrefl, Bool.and_false, Bool.or_false]
/-- what is not there lacks, and has no value -/
theorem make_lacks {l : List Pr} (hg : good l = true) (hn : l.length ≤ 1073741824) (key : Bs) (h : isAt l (place l key) key = false) :
    value (rootOf l) (make l key) key = none ∧ lacks (rootOf l) (make l key) key = true := by
  have hm := make_may hg hn key
  have hs := make_stands hg key
  have hr := rising_of_good hg
  have hn' : ¬ isAt l (place l key) key = true := by rw [h]; decide
  have hnk : ∀ i, i < l.length → (l.getD i dP).key ≠ key := fun i hi e => hn' ((isAt_iff hr).2 ⟨_, getD_mem hi, e⟩)
  have e : make l key = ⟨l.length, (if 0 < place l key then [leafAt l (place l key - 1)] else []) ++ (if place l key < l.length then [leafAt l (place l key)] else [])⟩ := by rw [make_eq hg, if_neg hn']
  have hp := place_le l key
  have hbelow : 0 < place l key → blt (l.getD (place l key - 1) dP).key key = true := fun h0 => place_below _ (by omega)
  have habove : place l key < l.length → blt key (l.getD (place l key) dP).key = true := fun h0 => blt_total (hnk _ h0) (place_at h0)
  constructor
  · unfold value
    rw [if_pos hm, e]
    by_cases h0 : 0 < place l key <;> by_cases h1 : place l key < l.length
    · rw [if_pos h0, if_pos h1]; rfl
    · rw [if_pos h0, if_neg h1]
      have e2 : (leafAt l (place l key - 1)).key ≠ key := hnk _ (by omega)
      simp only [List.append_nil]
      rw [if_neg (fun c => e2 c.1)]
    · rw [if_neg h0, if_pos h1]
      have e2 : (leafAt l (place l key)).key ≠ key := hnk _ h1
      simp only [List.nil_append]
      rw [if_neg (fun c => e2 c.1)]
    · rw [if_neg h0, if_neg h1]; rfl
  · unfold lacks
    rw [hm, hs, e]
    by_cases h0 : 0 < place l key <;> by_cases h1 : place l key < l.length
    · rw [if_pos h0, if_pos h1]
      show (decide (((place l key : Nat) : Int) = ((place l key - 1 : Nat) : Int) + 1) && blt (l.getD (place l key - 1) dP).key key && blt key (l.getD (place l key) dP).key) = true
      rw [hbelow h0, habove h1, decide_eq_true (by omega)]; rfl
    · rw [if_pos h0, if_neg h1]
      have e2 : decide ((leafAt l (place l key - 1)).index = (l.length : Int) - 1) = true := decide_eq_true (by show ((place l key - 1 : Nat) : Int) = _; omega)
      have e3 : blt (leafAt l (place l key - 1)).key key = true := hbelow h0
      simp only [List.append_nil, e2, e3, Bool.and_self, Bool.or_true]
    · rw [if_neg h0, if_pos h1]
      show ((decide (((place l key : Nat) : Int) = 0) && blt key (l.getD (place l key) dP).key) || _) = true
      rw [habove h1, decide_eq_true (by omega)]; simp
    · rw [if_neg h0, if_neg h1]
      have : l = [] := List.length_eq_zero_iff.1 (by omega)
      subst this
      show (decide (((0 : Nat) : Int) = 0) && decide (rootOf [] = rootH 0 hz)) = true
      have : rootOf [] = rootH 0 hz := by unfold rootOf sums; rw [List.map_nil, top_lt (by simp)]; rfl
      rw [this]; simp
/-- the texts whose digests are taken for the root of a list -/
def inputs (l : List Pr) : List Bs := (l.map fun x => leafT x.key x.val) ++ topT (sums l) ++ [rootT l.length (top (sums l))]
def foldOf (n : Int) (x : Lf) : Bs := fold n.toNat x.index.toNat (leafH x.key x.val) x.path
def shownLf (n : Int) (x : Lf) : List Bs := leafT x.key x.val :: (wayT n.toNat x.index.toNat (leafH x.key x.val) x.path ++ [rootT n.toNat (foldOf n x)])
def shown (p : Pf) : List Bs := rootT 0 hz :: (if mayPf p = true then p.leaves.flatMap (shownLf p.count) else [])
theorem Pf.ext' {p q : Pf} (h : p.count = q.count) (h' : p.leaves = q.leaves) : p = q := by cases p; cases q; simp_all
theorem sized_lt {k v : Bs} (h : sized k v = true) : k.size < 18446744073709551616 := by
  simp only [sized, Bool.and_eq_true, decide_eq_true_eq] at h; omega
/-- a leaf that stands at a list's root is the list's own -/
theorem leaf_forged {l : List Pr} (hg : good l = true) (hn : l.length ≤ 1073741824) {n : Int} (hn0 : 0 ≤ n) (hn1 : n ≤ 1073741824) {x : Lf} (hm : mayLf n x = true) (hpath : ∀ y ∈ x.path, y.size = 32)
    {T : List Bs} (hT : Free T) (h1 : ∀ y ∈ inputs l, y ∈ T) (h2 : ∀ y ∈ shownLf n x, y ∈ T) (hs : stands (rootOf l) n x = true) :
    n = l.length ∧ x.index.toNat < l.length ∧ x = leafAt l x.index.toNat := by
  unfold stands at hs
  simp only [decide_eq_true_eq] at hs
  simp only [mayLf, Bool.and_eq_true, decide_eq_true_eq] at hm
  obtain ⟨⟨⟨hz1, hi0⟩, hi1⟩, hlen⟩ := hm
  have e := hT _ (h2 (rootT n.toNat (foldOf n x)) (by simp [shownLf])) _ (h1 (rootT l.length (top (sums l))) (by simp [inputs])) hs
  obtain ⟨e1, e2⟩ := rootT_inj (by omega) (by omega) e
  have en : n = l.length := by omega
  subst en
  simp only [Int.toNat_natCast] at hlen e2 h2 hs
  have hi : x.index.toNat < l.length := by omega
  have hL := sums_length l
  obtain ⟨r1, r2⟩ := fold_forged (sums l) x.index.toNat (by rw [hL]; exact hi) (leafH x.key x.val) x.path T hT (sums_32 l) (sha_size _) hpath (by rw [hL]; exact hlen)
    (fun y hy => h1 y (by simp [inputs, hy])) (fun y hy => h2 y (by rw [hL] at hy; simp only [shownLf, Int.toNat_natCast]; simp [hy])) (by rw [hL]; exact e2)
  rw [sums_getD hi] at r1
  have e3 := hT _ (h2 (leafT x.key x.val) (by simp [shownLf])) _ (h1 (leafT (l.getD x.index.toNat dP).key (l.getD x.index.toNat dP).val) (by
    simp only [inputs, List.mem_append, List.mem_map]
    exact .inl (.inl ⟨_, getD_mem hi, rfl⟩))) r1
  obtain ⟨k1, k2⟩ := leafT_inj (sized_lt hz1) (sized_lt (sized_of_good hg _ (getD_mem hi))) e3
  refine ⟨rfl, hi, ?_⟩
  cases x
  simp only [leafAt, Lf.mk.injEq] at *
  exact ⟨k1, k2, by omega, r2⟩
/-- which place a key has -/
theorem place_of_key {l : List Pr} (hr : rising l = true) {i : Nat} (hi : i < l.length) : place l (l.getD i dP).key = i := by
  refine place_unique i (by omega) (fun j hj => rising_pair hr hj hi) (fun _ => blt_irrefl _)
theorem forged {l : List Pr} (hg : good l = true) (hn : l.length ≤ 1073741824) {p : Pf} {key : Bs} (hpath : ∀ x ∈ p.leaves, ∀ y ∈ x.path, y.size = 32)
    (hT : Free (inputs l ++ shown p)) (h : value (rootOf l) p key ≠ none ∨ lacks (rootOf l) p key = true) : p = make l key := by
  have hr := rising_of_good hg
  have hm : mayPf p = true := by
    rcases h with h | h
    · unfold value at h
      by_cases c : mayPf p = true
      · exact c
      · rw [if_neg c] at h; exact absurd rfl h
    · simp only [lacks, Bool.and_eq_true] at h; exact h.1.1
  have hm' := hm
  simp only [mayPf, Bool.and_eq_true, decide_eq_true_eq, List.all_eq_true] at hm'
  obtain ⟨⟨⟨hc0, hc1⟩, _⟩, hall⟩ := hm'
  have key1 : ∀ x ∈ p.leaves, stands (rootOf l) p.count x = true → p.count = l.length ∧ x.index.toNat < l.length ∧ x = leafAt l x.index.toNat := fun x hx hs =>
    leaf_forged hg hn hc0 hc1 (hall x hx) (hpath x hx) hT (fun y hy => by simp [hy]) (fun y hy => by
      simp only [shown, if_pos hm, List.mem_append, List.mem_cons, List.mem_flatMap]
      exact .inr (.inr ⟨x, hx, hy⟩)) hs
  rcases h with h | h
  · unfold value at h
    rw [if_pos hm] at h
    split at h
    · rename_i x hx
      by_cases c : x.key = key ∧ stands (rootOf l) p.count x = true
      · obtain ⟨hk, hs⟩ := c
        obtain ⟨e1, e2, e3⟩ := key1 x (by rw [hx]; simp) hs
        have hk' : (l.getD x.index.toNat dP).key = key := by rw [← hk]; exact (congrArg Lf.key e3).symm
        have hpl : place l key = x.index.toNat := by rw [← hk']; exact place_of_key hr e2
        have hat : isAt l (place l key) key = true := by rw [hpl]; simp only [isAt, Bool.and_eq_true, decide_eq_true_eq]; exact ⟨e2, hk'⟩
        rw [make_eq hg, if_pos hat, hpl]
        exact Pf.ext' e1 (by rw [hx, ← e3])
      · rw [if_neg c] at h; exact absurd rfl h
    · exact absurd rfl h
  · simp only [lacks, Bool.and_eq_true, List.all_eq_true] at h
    obtain ⟨⟨_, hs⟩, hsh⟩ := h
    split at hsh
    · rename_i hx
      simp only [Bool.and_eq_true, decide_eq_true_eq] at hsh
      obtain ⟨hc, hroot⟩ := hsh
      have e := hT (rootT l.length (top (sums l))) (by simp [inputs]) (rootT 0 hz) (by simp [shown]) hroot
      obtain ⟨e1, _⟩ := rootT_inj (by omega) (by omega) e
      have : l = [] := List.length_eq_zero_iff.1 e1
      subst this
      exact Pf.ext' hc (by rw [hx]; rfl)
    · rename_i x hx
      obtain ⟨e1, e2, e3⟩ := key1 x (by rw [hx]; simp) (hs x (by rw [hx]; simp))
      have hk : (l.getD x.index.toNat dP).key = x.key := (congrArg Lf.key e3).symm
      have hi0 := (hall x (by rw [hx]; simp))
      simp only [mayLf, Bool.and_eq_true, decide_eq_true_eq] at hi0
      simp only [Bool.or_eq_true, Bool.and_eq_true, decide_eq_true_eq] at hsh
      rcases hsh with ⟨hidx, hlt⟩ | ⟨hidx, hlt⟩
      · have h0 : x.index.toNat = 0 := by omega
        rw [h0] at hk e3 e2
        have hpl : place l key = 0 := place_unique 0 (by omega) (fun _ h => by omega) (fun _ => by rw [hk]; exact blt_asymm hlt)
        have hat : ¬ isAt l (place l key) key = true := by
          rw [hpl]; simp only [isAt, Bool.and_eq_true, decide_eq_true_eq]
          rintro ⟨_, c⟩; rw [hk] at c; exact blt_ne hlt c.symm
        rw [make_eq hg, if_neg hat, hpl, if_neg (by omega), if_pos e2]
        exact Pf.ext' e1 (by rw [hx, ← e3]; rfl)
      · have h0 : x.index.toNat = l.length - 1 := by omega
        rw [h0] at hk e3
        have hpl : place l key = l.length := place_unique _ (by omega) (fun i hi => by
          by_cases c : i = l.length - 1
          · rw [c, hk]; exact hlt
          · exact blt_trans (rising_pair hr (show i < l.length - 1 by omega) (by omega)) (by rw [hk]; exact hlt)) (fun h => by omega)
        have hat : ¬ isAt l (place l key) key = true := by
          rw [hpl]; simp [isAt]
        rw [make_eq hg, if_neg hat, hpl, if_pos (by omega), if_neg (by omega)]
        exact Pf.ext' e1 (by rw [hx, ← e3]; rfl)
    · rename_i x y t hx
      have h2 : t = [] := by
        have : p.leaves.length ≤ 2 := by assumption
        rw [hx] at this
        cases t with
        | nil => rfl
        | cons a t => simp at this
      subst h2
      obtain ⟨e1, e2, e3⟩ := key1 x (by rw [hx]; simp) (hs x (by rw [hx]; simp))
      obtain ⟨_, f2, f3⟩ := key1 y (by rw [hx]; simp) (hs y (by rw [hx]; simp))
      have hk : (l.getD x.index.toNat dP).key = x.key := (congrArg Lf.key e3).symm
      have hk2 : (l.getD y.index.toNat dP).key = y.key := (congrArg Lf.key f3).symm
      have hi0 := (hall x (by rw [hx]; simp))
      simp only [mayLf, Bool.and_eq_true, decide_eq_true_eq] at hi0
      simp only [Bool.and_eq_true, decide_eq_true_eq] at hsh
      obtain ⟨⟨hidx, hlt⟩, hgt⟩ := hsh
      have hy : y.index.toNat = x.index.toNat + 1 := by omega
      have hpl : place l key = y.index.toNat := place_unique _ (by omega) (fun i hi => by
        by_cases c : i = x.index.toNat
        · rw [c, hk]; exact hlt
        · exact blt_trans (rising_pair hr (show i < x.index.toNat by omega) (by omega)) (by rw [hk]; exact hlt)) (fun _ => by rw [hk2]; exact blt_asymm hgt)
      have hat : ¬ isAt l (place l key) key = true := by
        rw [hpl]; simp only [isAt, Bool.and_eq_true, decide_eq_true_eq]
        rintro ⟨_, c⟩; rw [hk2] at c; exact blt_ne hgt c.symm
      rw [make_eq hg, if_neg hat, hpl, if_pos (by omega), if_pos f2]
      exact Pf.ext' e1 (by rw [hx, ← f3, hy]; show _ = [leafAt l (x.index.toNat + 1 - 1), y]; rw [Nat.add_sub_cancel, ← e3])
end Go.Proofs.YtlkjeneffohnkaaDoor
