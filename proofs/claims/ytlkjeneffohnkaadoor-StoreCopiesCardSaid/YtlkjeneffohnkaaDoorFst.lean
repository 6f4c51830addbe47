import Derived.Test.YtlkjeneffohnkaaDoorMk
set_option linter.unusedVariables false
set_option linter.unusedSimpArgs false
namespace Go.Proofs.YtlkjeneffohnkaaDoor
open Go.RowKit Go.Proofs Go.Proofs.Plan Go.Proofs.YtlkjeneffohnkaaDoorW.PrintWords
def fstL : List Pr := [⟨⟨#[98]⟩, ⟨#[49]⟩⟩, ⟨⟨#[100]⟩, ⟨#[50]⟩⟩]
theorem fst_good : good fstL = true := by
  have hb : blt ⟨#[98]⟩ ⟨#[100]⟩ = true := by simp [blt, Lib.toList_data, Op.bytesLess]
  have h1 : sized ⟨#[98]⟩ ⟨#[49]⟩ = true := by decide +kernel
  have h2 : sized ⟨#[100]⟩ ⟨#[50]⟩ = true := by decide +kernel
  simp only [good, fstL, List.all_cons, List.all_nil, h1, h2, rising, hb, Bool.and_self]
theorem fst_place : place fstL ⟨#[99]⟩ = 1 := by
  simp [place, fstL, blt, Lib.toList_data, Op.bytesLess]
theorem fst_isAt : isAt fstL 1 ⟨#[99]⟩ = false := by
  simp [isAt, fstL]
theorem fst_make : make fstL ⟨#[99]⟩ = ⟨2, [leafAt fstL 0, leafAt fstL 1]⟩ := by
  rw [make_eq fst_good, fst_place, if_neg (by rw [fst_isAt]; decide)]; rfl
theorem fst_path : (way (sums fstL) 1).length = 1 := by
  rw [way_length, sums_length]
  decide +kernel
theorem fst_C (W : World) : kP.C (W.alloc (.cells #[.string ⟨#[98]⟩, .string ⟨#[49]⟩, .string ⟨#[100]⟩, .string ⟨#[50]⟩] 60)) (some ⟨W.heap.size, 0, none⟩) 2 fstL := by
  refine ⟨rfl, by decide, fun _ => ⟨_, rfl, fun j p hj => ?_⟩⟩
  have hr : ∀ i : Nat, (W.alloc (.cells #[.string ⟨#[98]⟩, .string ⟨#[49]⟩, .string ⟨#[100]⟩, .string ⟨#[50]⟩] 60)).cell? ⟨W.heap.size, i, none⟩ = (#[Value.string ⟨#[98]⟩, .string ⟨#[49]⟩, .string ⟨#[100]⟩, .string ⟨#[50]⟩] : Array Value)[i]? := fun i => cell_of_row _ _ _ _ _ _ (heap_alloc_new W _)
  match j with
  | 0 =>
    injection hj with hj; subst hj
    refine ⟨_, rfl, rfl, fun i u hu => ?_⟩
    rw [Addr.add_mid, hr]
    match i with
    | 0 => exact hu
    | 1 => exact hu
    | i + 2 => simp [pc] at hu
  | 1 =>
    injection hj with hj; subst hj
    refine ⟨_, rfl, rfl, fun i u hu => ?_⟩
    rw [Addr.add_mid, hr]
    match i with
    | 0 => exact hu
    | 1 => exact hu
    | i + 2 => simp [pc] at hu
  | j + 2 => simp [fstL] at hj
theorem fst_Make (A : Option Addr) (W : World) (ht : Tab W) (h : kP.C W A 2 fstL) :
    Calls Tryd.prog 21 #[.slice A 2 2, .string ⟨#[99]⟩] W fun e w' => ∃ ad c B c', e = .returned (.agg #[.int .i64 2, .slice (some ad) 2 c]) ∧ w'.cell? ad = some (.string ⟨#[98]⟩) ∧ w'.cell? ⟨ad.block, ad.off + 4 + 2, none⟩ = some (.int .i64 1) ∧
      w'.cell? ⟨ad.block, ad.off + 4 + 3, none⟩ = some (.slice B 1 c') ∧ Below W.heap.size W w' := by
  refine (proof_Make ⟨#[99]⟩ A 2 2 fstL W ht (by decide) (by decide) h).mono ?_
  rintro e w' ⟨A2, c2, rfl, hc2, C2, B2, -⟩
  rw [fst_make] at *
  obtain ⟨ad, B, c', rfl, _, _, hat⟩ := kLf_get C2 0 (by decide)
  obtain ⟨ad2, B1, c1, had2, _, _, hat1⟩ := kLf_get C2 1 (by decide)
  obtain rfl : ad = ad2 := by injection had2
  refine ⟨ad, c2, B1, c1, rfl, at_cell hat 0 rfl, at_cell hat1 2 rfl, ?_, B2⟩
  have := at_cell hat1 3 rfl
  rw [show ([leafAt fstL 0, leafAt fstL 1].getD 1 dL).path.length = 1 from fst_path] at this
  exact this
set_option maxHeartbeats 1000000 in
set_option maxRecDepth 100000 in
theorem law7_first (w : World) (ht : Tab w) : Calls Tryd.prog 12 #[] w fun e w' => e = .returned (.bool true) ∧ Below w.heap.size w w' := by
  have HT := Lib.hid ht
  clear ht
  go_enter Tryd.func12, Tryd.ntmps12
  go_wp2_with fail
  refine (fst_Make _ _ (tab_below (below_alloc (Below.refl _ _) _) HT.out) (fst_C w)).mono ?_
  rintro e w2 ⟨ad, c, B, c', rfl, l0, l2, l3, B2⟩
  have B3 := below_next (below_alloc (Below.refl _ _) _) B2
  go_upto_region 2 with (fail)
  refine wp_gen (fun w4 => Below w2.heap.size w2 w4 ∧ w4.cell? ⟨w2.heap.size, 0, none⟩ = some (.int .i64 2) ∧ w4.cell? ⟨w2.heap.size, 1, none⟩ = some (.slice (some ad) 2 c)) ?_ ?_
  · refine ⟨below_alloc (Below.refl _ _) _, ?_, ?_⟩ <;> (rw [cell_of_row _ _ _ _ _ _ (heap_alloc_new w2 _)]; rfl)
  rintro w4 ⟨B4, f0, f1⟩
  have k0 := cell_below B4 l0
  have k2 := cell_below B4 l2
  have k3 := cell_below B4 l3
  clear l0 l2 l3
  go_wp2
  go_ret
  exact ⟨rfl, below_next B3 B4⟩
end Go.Proofs.YtlkjeneffohnkaaDoor
