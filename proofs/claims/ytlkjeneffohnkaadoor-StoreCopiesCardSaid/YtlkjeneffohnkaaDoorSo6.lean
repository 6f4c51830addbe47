import Derived.Test.YtlkjeneffohnkaaDoorSo5
set_option linter.unusedVariables false
set_option linter.unusedSimpArgs false
namespace Go.Proofs.YtlkjeneffohnkaaDoor
open Go.RowKit Go.Proofs Go.Proofs.Plan Go.Proofs.YtlkjeneffohnkaaDoorW.PrintWords
set_option maxHeartbeats 1000000 in
set_option maxRecDepth 100000 in
theorem strings_Clone' (s : Bs) (w : World) (h : s.size ≤ 281474976710656) : Calls Tryd.prog 97 #[.string s] w fun e w' => e = .returned (.string s) ∧ Below w.heap.size w w' := by
  go_enter Tryd.func97, Tryd.ntmps97
  go_wp2_with (go_at_call 132; refine (Tryd.stringslite_Clone s _ h).mono ?_; rintro e w2 ⟨rfl, hw2⟩)
  go_ret
  exact ⟨rfl, hw2⟩
set_option maxHeartbeats 1000000 in
set_option maxRecDepth 100000 in
theorem slices_Clone (A : Option Addr) (n c : Nat) (xs : List Pr) (w : World) (hn : n ≤ 1048576) (h : kP.C w A n xs) :
    Calls Tryd.prog 100 #[.slice A n c] w fun e w' => ∃ v, e = .returned v ∧ kP.R 60 w' w.heap.size yes v xs ∧ Below w.heap.size w w' := by
  have heq := fun w => Lib.run_eql_slice_nil (P := Tryd.prog) w 31 60 A n c 0 0 Tryd.underlying31
  have HL := Lib.hid h.1
  cases A with
  | none =>
    have h0 : n = 0 := by
      rcases Nat.eq_zero_or_pos n with h0 | h0
      · exact h0
      · obtain ⟨ad, e, _⟩ := h.2.2 h0; cases e
    subst h0
    have hx : xs = [] := List.length_eq_zero_iff.1 HL.out
    subst hx
    clear h
    go_enter Tryd.func100, Tryd.ntmps100
    go_wp2
    go_ret
    exact ⟨_, rfl, Kd.R_nil _ _ _ _ _, Below.refl _ _⟩
  | some ad =>
    have HH := Lib.hid h
    clear h
    go_enter Tryd.func100, Tryd.ntmps100
    have hE : kP.R 60 (w.alloc (.cells #[] 60)) w.heap.size yes (.slice (some ⟨w.heap.size, 0, none⟩) 0 0) [] := R_mk rfl (Nat.le_refl _) (heap_alloc_is _ _ _ rfl) (Nat.le_refl _) (by decide) rfl rfl
    have hB : Below w.heap.size w (w.alloc (.cells #[] 60)) := below_alloc (Below.refl _ _) _
    have hs : (([] : List Pr).length + n) * 32 ≤ 140737488355328 := by simp only [List.length_nil]; omega
    have HE := Lib.hid hE
    have HB := Lib.hid hB
    have HS := Lib.hid hs
    clear hE hB hs
    go_wp2_with (at_builtin; refine l_appendRows kP kP_plain (w0 := w) (base := w.heap.size) HE.out (Kd.C_below HH.out HB.out) HB.out HB.out.size rfl rfl Tryd.underlying31 Tryd.infoP rfl (by decide) (by decide) rfl rfl HS.out ?_; intro v1 w5 R5 B5 G5)
    go_ret
    exact ⟨v1, rfl, R5, B5⟩
/-! the store's methods -/
section
variable (base gs : Nat) (v : Value) (xs : List Pr) (w : World)
set_option maxHeartbeats 1000000 in
set_option maxRecDepth 100000 in
theorem store_New : Calls Tryd.prog 36 #[] w fun e w' => e = .returned (.pointer (some ⟨w.heap.size, 0, none⟩)) ∧ (∀ base, base ≤ w.heap.size → Sto w' base w.heap.size (.slice none 0 0) []) ∧ Below w.heap.size w w' := by
  go_enter Tryd.func36, Tryd.ntmps36
  go_wp2
  go_ret
  exact ⟨rfl, fun base hb => ⟨hb, heap_alloc_is _ _ _ rfl, Kd.R_nil _ _ _ _ _, rfl, by simp⟩, below_alloc (Below.refl _ _) _⟩
set_option maxHeartbeats 1000000 in
set_option maxRecDepth 100000 in
theorem store_find' (key : Bs) (h : Sto w base gs v xs) : Calls Tryd.prog 98 #[.pointer (some ⟨gs, 0, none⟩), .string key] w fun e w' => e = .returned (ptup (place xs key) (isAt xs (place xs key) key)) ∧ Below w.heap.size w w' := by
  obtain ⟨A, c, rfl, hc, hC⟩ := Kd.R_reads h.row
  exact store_find key gs A _ c xs w (by have := h.few; omega) (rising_of_good h.good) (cell_block h.blk 0 rfl) hC
def gtup : Option Bs → Value
  | some v => .tuple #[.string v, .bool true]
  | none => .tuple #[.string ByteArray.empty, .bool false]
def getP (xs : List Pr) (key : Bs) : Option Bs := if isAt xs (place xs key) key = true then some (xs.getD (place xs key) dP).val else none
set_option maxHeartbeats 1000000 in
set_option maxRecDepth 100000 in
theorem store_Get (key : Bs) (h : Sto w base gs v xs) : Calls Tryd.prog 43 #[.pointer (some ⟨gs, 0, none⟩), .string key] w fun e w' => e = .returned (gtup (getP xs key)) ∧ Below w.heap.size w w' := by
  have hf := store_find' base gs v xs w key h
  obtain ⟨A, c, rfl, hc, hC⟩ := Kd.R_reads h.row
  have q := cell_block h.blk 0 (v := .slice A xs.length c) rfl
  have hlt : isAt xs (place xs key) key = true → place xs key < xs.length := fun ha => by simp only [isAt, Bool.and_eq_true, decide_eq_true_eq] at ha; exact ha.1
  have hfew := h.few
  unfold getP
  generalize place xs key = k at *
  generalize isAt xs k key = b at *
  have HF := Lib.hid hf
  have HC := Lib.hid hC
  generalize xs.length = n at *
  clear hf hC h
  cases b
  · go_enter Tryd.func43, Tryd.ntmps43
    go_wp2_with (go_at_call 98; refine HF.out.mono ?_; rintro e w2 ⟨rfl, hw2⟩; simp only [ptup])
    go_ret2
    exact ⟨rfl, hw2⟩
  · obtain ⟨ad, rfl, q0, q1⟩ := kP_at HC.out k (hlt rfl)
    have hkn := hlt rfl
    clear hlt q0
    go_enter Tryd.func43, Tryd.ntmps43
    go_wp2_with (go_at_call 98; refine HF.out.mono ?_; rintro e w2 ⟨rfl, hw2⟩; simp only [ptup]; have q' := cell_below hw2 q; have q1' := cell_below hw2 q1)
    go_ret2
    exact ⟨rfl, hw2⟩
set_option maxHeartbeats 1000000 in
set_option maxRecDepth 100000 in
theorem store_Len (h : Sto w base gs v xs) : Calls Tryd.prog 49 #[.pointer (some ⟨gs, 0, none⟩)] w fun e w' => e = .returned (.int .i64 xs.length) ∧ w = w' := by
  obtain ⟨A, c, rfl, hc, hC⟩ := Kd.R_reads h.row
  have q := cell_block h.blk 0 (v := .slice A xs.length c) rfl
  generalize xs.length = n at *
  clear h hC
  go_enter Tryd.func49, Tryd.ntmps49
  go_wp2
  go_ret
  exact ⟨rfl, rfl⟩
set_option maxHeartbeats 1000000 in
set_option maxRecDepth 100000 in
theorem store_Pairs (h : Sto w base gs v xs) : Calls Tryd.prog 41 #[.pointer (some ⟨gs, 0, none⟩)] w fun e w' => ∃ v, e = .returned v ∧ kP.R 60 w' w.heap.size yes v xs ∧ Below w.heap.size w w' := by
  obtain ⟨A, c, rfl, hc, hC⟩ := Kd.R_reads h.row
  have q := cell_block h.blk 0 (v := .slice A xs.length c) rfl
  have hfew := h.few
  have hcon := slices_Clone A xs.length c xs w (by omega) hC
  have HC := Lib.hid hcon
  generalize xs.length = n at *
  clear h hC hcon
  go_enter Tryd.func41, Tryd.ntmps41
  go_wp2_with (go_at_call 100; refine HC.out.mono ?_; rintro e w2 ⟨v2, rfl, R2, hw2⟩)
  go_ret
  exact ⟨v2, rfl, R2, hw2⟩
set_option maxHeartbeats 1000000 in
set_option maxRecDepth 100000 in
theorem store_Copy (h : Sto w base gs v xs) : Calls Tryd.prog 38 #[.pointer (some ⟨gs, 0, none⟩)] w fun e w' => ∃ g2 v2, e = .returned (.pointer (some ⟨g2, 0, none⟩)) ∧ Sto w' w.heap.size g2 v2 xs ∧ Below w.heap.size w w' := by
  obtain ⟨A, c, rfl, hc, hC⟩ := Kd.R_reads h.row
  have q := cell_block h.blk 0 (v := .slice A xs.length c) rfl
  have hfew := h.few
  have hcon := slices_Clone A xs.length c xs w (by omega) hC
  have HC := Lib.hid hcon
  have HG := Lib.hid h.good
  have HFEW := Lib.hid h.few
  generalize hnn : xs.length = n at *
  have HNN := Lib.hid hnn
  clear h hC hcon hnn
  go_enter Tryd.func38, Tryd.ntmps38
  go_wp2_with (go_at_call 100; refine HC.out.mono ?_; rintro e w2 ⟨v2, rfl, R2, hw2⟩; obtain ⟨A2, l2, c2, rfl⟩ : ∃ A l c, v2 = .slice A l c := by (obtain ⟨A, c, h⟩ := Kd.R_slice R2; exact ⟨A, _, c, h⟩))
  go_ret
  exact ⟨w2.heap.size, _, rfl, ⟨hw2.size, heap_alloc_is _ _ _ rfl, Kd.R_alloc R2 _, HG.out, by rw [HNN.out]; exact HFEW.out⟩, below_alloc hw2 _⟩
set_option maxHeartbeats 1000000 in
set_option maxRecDepth 100000 in
theorem store_Root (root : Bs) (hr : rootOf xs = root) (ht : Tab w) (h : Sto w base gs v xs) : Calls Tryd.prog 39 #[.pointer (some ⟨gs, 0, none⟩)] w fun e w' => e = .returned (.agg (hv root)) ∧ Below w.heap.size w w' := by
  have r32 : root.size = 32 := by rw [← hr]; exact sha_size _
  obtain ⟨A, c, rfl, hc, hC⟩ := Kd.R_reads h.row
  have q := cell_block h.blk 0 (v := .slice A xs.length c) rfl
  have hfew := h.few
  have HS := Lib.hid (fun x hx => by
    have := sized_of_good h.good x hx
    simp only [sized, Bool.and_eq_true, decide_eq_true_eq] at this
    omega : ∀ x ∈ xs, x.key.size ≤ 4294967296 ∧ x.val.size ≤ 4294967296)
  have HR := Lib.hid hr
  have HT := Lib.hid ht
  have HC := Lib.hid hC
  generalize xs.length = n at *
  clear h hC hr ht
  go_enter Tryd.func39, Tryd.ntmps39
  go_upto_region 1 with (fail)
  refine wp_res 32 rfl ?_
  intro w1 B1 T1 Z1
  have HZ := Lib.hid Z1
  have q' := cell_below B1 q
  clear Z1 q
  go_wp2_with (first
    | (go_at_call 18; refine (proof_Root A n c xs _ (by omega) HS.out (tab_below B1 HT.out) (Kd.C_below HC.out B1)).mono ?_; rintro e w2 ⟨rfl, hw2⟩; rw [HR.out])
    | (refine l_storeH rfl rfl rfl rfl (there_below hw2 T1) r32 Tryd.info24 ?_))
  exact ret_H rfl rfl (there_below hw2 T1) r32 Tryd.underlying24 Tryd.info24 rfl ⟨rfl, below_setCells _ _ _ (below_next B1 hw2) (by omega)⟩
end
end Go.Proofs.YtlkjeneffohnkaaDoor
