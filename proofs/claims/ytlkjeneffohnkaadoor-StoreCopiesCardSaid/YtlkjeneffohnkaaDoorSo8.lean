import Derived.Test.YtlkjeneffohnkaaDoorSo7
import Derived.Test.YtlkjeneffohnkaaDoorRs
set_option linter.unusedVariables false
set_option linter.unusedSimpArgs false
namespace Go.Proofs.YtlkjeneffohnkaaDoor
open Go.RowKit Go.Proofs Go.Proofs.Plan Go.Proofs.YtlkjeneffohnkaaDoorW.PrintWords
theorem OpPost.low {xs ys : List Pr} {base gs : Nat} {w0 w w' : World} {v res : Value} {e : Ending} (h : OpPost ys base gs w v res e w') (hs : Sto w base gs v xs) (hb : Below base w0 w) : ∃ v', e = .returned res ∧ Sto w' base gs v' ys ∧ Below base w0 w' := by
  obtain ⟨v', he, hs', hc, -⟩ := h
  have hgs := (Array.getElem?_eq_some_iff.1 hs.blk).1
  exact ⟨v', he, hs', below_chg hb hc (by have := hs.le; omega) hs.le hs.base⟩
section
variable (base gs : Nat) (v : Value) (xs : List Pr) (w w0 : World)
theorem store_SetE (key val : Bs) (ys : List Pr) (n : Int) (hy : setR xs key val = ys) (hn : setN key val = n) (hks : key.size ≤ 281474976710656) (hvs : val.size ≤ 281474976710656) (hl : xs.length + 1 ≤ 1000000) (h : Sto w base gs v xs) (hb : Below base w0 w) :
    Calls Tryd.prog 37 #[.pointer (some ⟨gs, 0, none⟩), .string key, .string val] w fun e w' => ∃ v', e = .returned (.int .i64 n) ∧ Sto w' base gs v' ys ∧ Below base w0 w' := by
  subst hy hn
  exact (store_SetAny base gs v xs w key val hks hvs hl h).mono fun e w' he => he.low h hb
theorem store_DropE (key : Bs) (ys : List Pr) (b : Bool) (hy : dropP xs key = ys) (hn : isAt xs (place xs key) key = b) (h : Sto w base gs v xs) (hb : Below base w0 w) :
    Calls Tryd.prog 40 #[.pointer (some ⟨gs, 0, none⟩), .string key] w fun e w' => ∃ v', e = .returned (.bool b) ∧ Sto w' base gs v' ys ∧ Below base w0 w' := by
  subst hy hn
  exact (store_Drop base gs v xs w key h).mono fun e w' he => he.low h hb
theorem store_GetE (key : Bs) (val : Bs) (b : Bool) (hg : gtup (getP xs key) = .tuple #[.string val, .bool b]) (h : Sto w base gs v xs) (hb : Below base w0 w) :
    Calls Tryd.prog 43 #[.pointer (some ⟨gs, 0, none⟩), .string key] w fun e w' => e = .returned (.tuple #[.string val, .bool b]) ∧ Sto w' base gs v xs ∧ Below base w0 w' := by
  refine (store_Get base gs v xs w key h).mono ?_
  rintro e w' ⟨rfl, hw⟩
  have hgs := (Array.getElem?_eq_some_iff.1 h.blk).1
  have := h.le
  exact ⟨by rw [hg], h.below hw, hb.trans (hw.mono (by omega))⟩
theorem store_LenE (n : Int) (hn : (xs.length : Int) = n) (h : Sto w base gs v xs) : Calls Tryd.prog 49 #[.pointer (some ⟨gs, 0, none⟩)] w fun e w' => e = .returned (.int .i64 n) ∧ w = w' := by
  subst hn; exact store_Len base gs v xs w h
theorem store_NewE (hb : Below w.heap.size w0 w) : Calls Tryd.prog 36 #[] w fun e w' => e = .returned (.pointer (some ⟨w.heap.size, 0, none⟩)) ∧ Sto w' w.heap.size w.heap.size (.slice none 0 0) [] ∧ Below w.heap.size w0 w' := by
  refine (store_New w).mono ?_
  rintro e w' ⟨rfl, hs, hw⟩
  exact ⟨rfl, hs _ (Nat.le_refl _), hb.trans hw⟩
end
def sA : Bs := ⟨#[97]⟩
def sB : Bs := ⟨#[98]⟩
def s1 : Bs := ⟨#[49]⟩
def s2 : Bs := ⟨#[50]⟩
theorem f_set1 : setR [] sA s1 = [⟨sA, s1⟩] := by kernel_rfl
theorem f_set2 : setR [⟨sA, s1⟩] sA s2 = [⟨sA, s2⟩] := by kernel_rfl
theorem f_drop : dropP [⟨sA, s2⟩] sB = [⟨sA, s2⟩] := by kernel_rfl
theorem f_get : gtup (getP [⟨sA, s2⟩] sA) = .tuple #[.string s2, .bool true] := by kernel_rfl
set_option maxHeartbeats 1000000 in
set_option maxRecDepth 100000 in
theorem law12_first (w : World) : Calls Tryd.prog 35 #[] w fun e w' => e = .returned (.bool true) ∧ Below w.heap.size w w' := by
  have hN := store_NewE w w (Below.refl _ _)
  have h1 := fun v W (hs : Sto W w.heap.size w.heap.size v []) (hb : Below w.heap.size w W) => store_SetE w.heap.size w.heap.size v [] W w sA s1 _ 0 f_set1 (by kernel_rfl) (by decide) (by decide) (by decide) hs hb
  have h2 := fun v W (hs : Sto W w.heap.size w.heap.size v [⟨sA, s1⟩]) (hb : Below w.heap.size w W) => store_SetE w.heap.size w.heap.size v _ W w sA s2 _ 0 f_set2 (by kernel_rfl) (by decide) (by decide) (by decide) hs hb
  have h3 := fun v W (hs : Sto W w.heap.size w.heap.size v [⟨sA, s2⟩]) (hb : Below w.heap.size w W) => store_GetE w.heap.size w.heap.size v _ W w sA s2 true f_get hs hb
  have h4 := fun v W (hs : Sto W w.heap.size w.heap.size v [⟨sA, s2⟩]) (hb : Below w.heap.size w W) => store_DropE w.heap.size w.heap.size v _ W w sB _ false f_drop (by kernel_rfl) hs hb
  have h5 := fun v W (hs : Sto W w.heap.size w.heap.size v [⟨sA, s2⟩]) => store_LenE w.heap.size w.heap.size v _ W 1 rfl hs
  have HN := Lib.hid hN
  have H1 := Lib.hid h1
  have H2 := Lib.hid h2
  have H3 := Lib.hid h3
  have H4 := Lib.hid h4
  have H5 := Lib.hid h5
  clear hN h1 h2 h3 h4 h5
  unfold sA sB s1 s2 at *
  generalize w.heap.size = g at *
  go_enter Tryd.func35, Tryd.ntmps35
  go_wp2_with (first
    | (go_at_call 36; refine HN.out.mono ?_; rintro e w1 ⟨rfl, S1, B1⟩; have HS1 := Lib.hid S1; clear S1)
    | (go_at_call 37; refine (H1.out _ _ HS1.out B1).mono ?_; rintro e w2 ⟨v2, rfl, S2, B2⟩; have HS2 := Lib.hid S2; clear S2 HS1)
    | (go_at_call 37; refine (H2.out _ _ HS2.out B2).mono ?_; rintro e w3 ⟨v3, rfl, S3, B3⟩; have HS3 := Lib.hid S3; clear S3 HS2)
    | (go_at_call 43; refine (H3.out _ _ HS3.out B3).mono ?_; rintro e w4 ⟨rfl, S4, B4⟩; have HS4 := Lib.hid S4; clear S4 HS3)
    | (go_at_call 40; refine (H4.out _ _ HS4.out B4).mono ?_; rintro e w5 ⟨v5, rfl, S5, B5⟩; have HS5 := Lib.hid S5; clear S5 HS4)
    | (go_at_call 49; refine (H5.out _ _ HS5.out).mono ?_; rintro e w' ⟨rfl, rfl⟩))
  go_ret
  exact ⟨rfl, B5⟩
end Go.Proofs.YtlkjeneffohnkaaDoor
