import Derived.Test.YtlkjeneffohnkaaDoorSp
import Derived.Test.YtlkjeneffohnkaaDoorSo10
set_option linter.unusedVariables false
set_option linter.unusedSimpArgs false
namespace Go.Proofs.YtlkjeneffohnkaaDoor
open Go.RowKit Go.Proofs Go.Proofs.Plan Go.Proofs.YtlkjeneffohnkaaDoorW.PrintWords
theorem store_RootB (base gs : Nat) (v : Value) (xs : List Pr) (W : World) (root : Bs) (hr : rootOf xs = root) (ht : Tab W) (h : Sto W base gs v xs) :
    Calls Tryd.prog 39 #[.pointer (some ⟨gs, 0, none⟩)] W fun e w' => e = .returned (.agg (hv root)) ∧ Below W.heap.size W w' := store_Root base gs v xs W root hr ht h
theorem store_PairsS (base gs : Nat) (v : Value) (xs : List Pr) (W : World) (n : Nat) (hn : xs.length = n) (h : Sto W base gs v xs) :
    Calls Tryd.prog 41 #[.pointer (some ⟨gs, 0, none⟩)] W fun e w' => ∃ A c, e = .returned (.slice A n c) ∧ n ≤ c ∧ kP.R 60 w' W.heap.size yes (.slice A n c) xs ∧ kP.C w' A n xs ∧ Below W.heap.size W w' := by
  subst hn
  refine (store_Pairs base gs v xs W h).mono ?_
  rintro e w' ⟨v2, rfl, R2, hw⟩
  obtain ⟨A, c, rfl, hc, C2⟩ := Kd.R_reads R2
  exact ⟨A, c, rfl, hc, R2, C2, hw⟩
theorem at_same {w w' : World} {b : Nat} {cs : List Value} (h : w'.heap[b]? = w.heap[b]?) (k : World.at_ w ⟨b, 0, none⟩ cs) : World.at_ w' ⟨b, 0, none⟩ cs := fun j v hj => by
  have := k j v hj
  rw [add_plain] at this ⊢
  rw [World.cell?_of_block (w := w) (a := ⟨b, j, none⟩) h]; exact this
/-- an operation on a copy: a variable that lies apart stays -/
theorem OpPost.apart {xs ys : List Pr} {base gs gr : Nat} {w0 w w' : World} {v res : Value} {e : Ending} {cs : List Value} (h : OpPost ys base gs w v res e w') (hs : Sto w base gs v xs) (hb : Below base w0 w) (hr : World.at_ w ⟨gr, 0, none⟩ cs)
    (h1 : gr ≠ gs) (h2 : some gr ≠ v.ownBlock) (h3 : gr < w.heap.size) : ∃ v', e = .returned res ∧ Sto w' base gs v' ys ∧ Below base w0 w' ∧ World.at_ w' ⟨gr, 0, none⟩ cs ∧ some gr ≠ v'.ownBlock ∧ gr < w'.heap.size := by
  have hsz : w.heap.size ≤ w'.heap.size := by obtain ⟨_, _, _, hc, _⟩ := h; exact hc.size
  obtain ⟨v', he, hs', hb', hf⟩ := h.far hs hb (Nat.le_refl _)
  obtain ⟨f1, f2⟩ := hf gr h3 h1 h2
  exact ⟨v', he, hs', hb', at_same f1 hr, f2, by omega⟩
theorem set_size (w : World) (o : Obj) (cs : List Value) : w.heap.size < ((w.alloc o).setCells w.heap.size 0 cs).heap.size := by
  have h := (below_setCells (B := 0) w.heap.size cs 0 (Below.refl 0 (w.alloc o)) (Nat.zero_le _)).size
  have h2 : (w.alloc o).heap.size = w.heap.size + 1 := by show (w.heap.push _).size = _; rw [Array.size_push]
  omega
theorem infoStr : (Tryd.prog.info? 9).map (·.size) = some 1 := by kernel_rfl
def sCh : Bs := ⟨#[99, 104, 97, 110, 103, 101, 100]⟩
set_option maxHeartbeats 4000000 in
set_option maxRecDepth 100000 in
theorem law_StoreCopies (key val : Bs) (A : Option Addr) (n c : Nat) (xs : List Pr) (w : World) (ht : Tab w) (hc : n ≤ c) (h : kP.C w A n xs) :
    Calls Tryd.prog 6 #[.slice A n c, .string key, .string val] w fun e w' => e = .returned (.bool true) ∧ Below w.heap.size w w' := by
  have HT := Lib.hid ht
  obtain ⟨m, hm⟩ : ∃ m, m = min n 30 := ⟨_, rfl⟩
  have emin : min (n : Int) 30 = (m : Int) := by omega
  have hmn : m ≤ n := by omega
  have hm30 : m ≤ 30 := by omega
  have hC1 := kP_take h hmn
  have ct := cut_take (P := Tryd.prog) 22 46 .i64 2 Tryd.underlying22 Tryd.info46 A n c m (by omega)
  obtain ⟨ys, hys⟩ : ∃ ys, rise (xs.take m) = ys := ⟨_, rfl⟩
  obtain ⟨nn, hnn⟩ : ∃ nn, ys.length = nn := ⟨_, rfl⟩
  have hg : good ys = true := by rw [← hys]; exact rise_good _
  have hn30 : nn ≤ 30 := by
    have := rise_length (xs.take m)
    rw [hys, hnn, List.length_take] at this
    omega
  have HX := Lib.hid hC1
  have HY := Lib.hid hys
  have HNN := Lib.hid hnn
  have HG := Lib.hid hg
  clear ht h hm hC1 hys hnn hg
  by_cases hok : 1 ≤ key.size ∧ key.size ≤ 160 ∧ 1 ≤ val.size ∧ val.size ≤ 64
  · obtain ⟨hk1, hk2, hv1, hv2⟩ := hok
    have hz : sized key val = true := by simp [sized, hk1, hk2, hv1, hv2]
    have HZ := Lib.hid hz
    obtain ⟨root, hroot⟩ : ∃ r, rootOf ys = r := ⟨_, rfl⟩
    have r32 : root.size = 32 := by rw [← hroot]; exact sha_size _
    have HR := Lib.hid hroot
    clear hroot hz
    go_enter Tryd.func6, Tryd.ntmps6
    go_upto_region 7 with (first
      | (go_at_call 35; refine (law12_first _).mono ?_; rintro e w2 ⟨rfl, B2⟩)
      | (go_at_call 29; refine (keep_RiseS _ ys HY.out nn HNN.out A m c _ (by omega) (Kd.C_below HX.out B2)).mono ?_; rintro e w3 ⟨A3, c3, rfl, hc3, C3, hw3⟩; have B3 := below_next B2 hw3; have HC3 := Lib.hid C3; clear C3 hw3)
      | (go_at_call 36; refine (store_NewE w3 w3 (Below.refl _ _)).mono ?_; rintro e w4 ⟨rfl, S4, B4⟩; have HS4 := Lib.hid S4; clear S4))
    have hw3 := B3.size
    generalize hgg : w3.heap.size = g at *
    have HB3 := Lib.hid B3
    have HW3 := Lib.hid hw3
    have HGG := Lib.hid hgg
    have HB4 := Lib.hid B4
    clear B2 B3 B4 hgg hw3
    go_wp2
    go_loopg [8] nn (fun gg i wr => ∃ (k : Nat) (v : Value), k + gg = nn ∧ i = .int .i64 k ∧ Sto wr g g v (ys.take k) ∧ Below g w3 wr)
    case atStart => exact ⟨0, .slice none 0 0, by omega, rfl, HS4.out, HB4.out⟩
    case round =>
      obtain ⟨k, v, hk, rfl, hs, hb⟩ := hrel
      have HS := Lib.hid hs
      have HB := Lib.hid hb
      by_cases hlt : k < nn
      · obtain ⟨ad, rfl, q0, q1⟩ := kP_at HC3.out k hlt
        have hxl : k < ys.length := by rw [HNN.out]; exact hlt
        have hstep := setR_next HG.out hxl
        have hsx := sized_of_good HG.out _ (getD_mem hxl)
        obtain ⟨x, hx⟩ : ∃ x, x = ys.getD k dP := ⟨_, rfl⟩
        rw [← hx] at q0 q1 hstep hsx
        have e1 := low_cell (Below.refl w3.heap.size w3) (Nat.le_of_eq HGG.out) hb q0
        have e2 := low_cell (Below.refl w3.heap.size w3) (Nat.le_of_eq HGG.out) hb q1
        have hlen : (ys.take k).length + 1 ≤ 1000000 := by rw [List.length_take]; omega
        simp only [sized, Bool.and_eq_true, decide_eq_true_eq] at hsx
        have hcon := store_SetE g g v _ wr.drew wr x.key x.val _ _ hstep rfl (by omega) (by omega) hlen (HS.out.below (Below.refl _ _).drew) (Below.refl _ _).drew
        have HCON := Lib.hid hcon
        clear hx q0 q1 hlen hsx hs hb hxl hcon hstep
        go_upto_region 12 with (fail)
        refine wp_num (fun w' => Below (g) wr w') [0, 1, 2, 3, 4, 5, 6, 7, 8, 9, 10] (.c (0, none, none) (.c (1, none, none) (.c (2, none, none) (.c (3, none, none) (.c (4, none, none) (.c (5, none, none) (.c (6, none, none) (.c (7, none, none) (.c (8, none, none) (.c (9, none, none) (.c (10, none, none) (.c (11, some true, none) (.nil))))))))))))) (by kernel_rfl) (by kernel_rfl) (by kernel_rfl) (fun _ _ d _ _ h => by cases d <;> exact h) (by kernel_rfl) ((Below.refl _ _).drew) ?_
        simp only [selE, nthO]
        apply p_q
        focus (intro w' hb; go_simp <;> rfl)
        simp only [Act.put, List.setIfInBounds_toArray, List.set_cons_zero, List.set_cons_succ, Array.toArray_toList]
        apply p_q
        focus (intro w' hb; go_simp <;> rfl)
        simp only [Act.put, List.setIfInBounds_toArray, List.set_cons_zero, List.set_cons_succ, Array.toArray_toList]
        apply p_q
        focus (intro w' hb; go_simp <;> rfl)
        simp only [Act.put, List.setIfInBounds_toArray, List.set_cons_zero, List.set_cons_succ, Array.toArray_toList]
        apply p_qL (ops0 := #[]) rfl rfl rfl (Nat.le_of_ble_eq_true rfl)
        focus (intro w' hb; go_wp2_with fail; refine ⟨rfl, ?_, rfl⟩; simp only [List.getElem?_toArray, List.getElem?_cons_zero, List.getElem?_cons_succ, Option.some.injEq]; rfl)
        simp only [Act.put, List.setIfInBounds_toArray, List.set_cons_zero, List.set_cons_succ, Array.toArray_toList]
        apply p_qL (ops0 := #[]) rfl rfl rfl (Nat.le_of_ble_eq_true rfl)
        focus (intro w' hb; go_wp2_with fail; refine ⟨rfl, ?_, rfl⟩; simp only [List.getElem?_toArray, List.getElem?_cons_zero, List.getElem?_cons_succ, Option.some.injEq]; rfl)
        simp only [Act.put, List.setIfInBounds_toArray, List.set_cons_zero, List.set_cons_succ, Array.toArray_toList]
        refine p_load1 rfl rfl (fun w' hb => Bl.cell hb (by assumption)) Tryd.underlying9 rfl ?_
        simp only [Act.put, List.setIfInBounds_toArray, List.set_cons_zero, List.set_cons_succ, Array.toArray_toList]
        apply p_q
        focus (intro w' hb; go_simp <;> rfl)
        simp only [Act.put, List.setIfInBounds_toArray, List.set_cons_zero, List.set_cons_succ, Array.toArray_toList]
        apply p_q
        focus (intro w' hb; go_simp <;> rfl)
        simp only [Act.put, List.setIfInBounds_toArray, List.set_cons_zero, List.set_cons_succ, Array.toArray_toList]
        apply p_qL (ops0 := #[]) rfl rfl rfl (Nat.le_of_ble_eq_true rfl)
        focus (intro w' hb; go_wp2_with fail; refine ⟨rfl, ?_, rfl⟩; simp only [List.getElem?_toArray, List.getElem?_cons_zero, List.getElem?_cons_succ, Option.some.injEq]; rfl)
        simp only [Act.put, List.setIfInBounds_toArray, List.set_cons_zero, List.set_cons_succ, Array.toArray_toList]
        apply p_qL (ops0 := #[]) rfl rfl rfl (Nat.le_of_ble_eq_true rfl)
        focus (intro w' hb; go_wp2_with fail; refine ⟨rfl, ?_, rfl⟩; simp only [List.getElem?_toArray, List.getElem?_cons_zero, List.getElem?_cons_succ, Option.some.injEq]; rfl)
        simp only [Act.put, List.setIfInBounds_toArray, List.set_cons_zero, List.set_cons_succ, Array.toArray_toList]
        refine p_load1 rfl rfl (fun w' hb => Bl.cell hb (by assumption)) Tryd.underlying9 rfl ?_
        simp only [Act.put, List.setIfInBounds_toArray, List.set_cons_zero, List.set_cons_succ, Array.toArray_toList]
        refine p_list (ops := #[]) rfl ?_
        go_wp2_with fail
        refine HCON.out.mono ?_
        rintro e w5 ⟨v5, rfl, S5, B5⟩
        have HS5 := Lib.hid S5
        have HB5 := Lib.hid B5
        clear S5 B5
        go_wp2_with fail
        refine ⟨fun _ => HB5.out, ?_⟩
        refine p_end ?_
        go_wp2
        go_roundg (gk - 1)
        case measure => omega
        case rel => exact ⟨k + 1, v5, by omega, by go_num, HS5.out, HB.out.trans HB5.out⟩
      · obtain rfl : k = nn := by omega
        rw [List.take_of_length_le (by rw [HNN.out]; omega)] at hs
        have HSY := Lib.hid hs
        have HTR := Lib.hid (tab_below (low_below HB3.out HW3.out hb) HT.out)
        clear hs hb HS
        go_upto_region 14 with (first
          | (go_at_call 38; refine (store_Copy g g v ys wr HSY.out).mono ?_; rintro e w6 ⟨g2, v2, rfl, S6, B6⟩; have HS6 := Lib.hid S6; clear S6)
          | (go_at_call 39; refine (store_RootB g g v ys w6 root HR.out (tab_below B6 HTR.out) (HSY.out.below B6)).mono ?_; rintro e w7 ⟨rfl, hw7⟩; have B7 := below_next B6 hw7)
          | (refine l_storeH rfl rfl rfl rfl (there_block (heap_alloc_is _ _ _ rfl) 0 32 (Nat.le_refl _)) r32 Tryd.info24 ?_))
        refine wp_gen (fun w8 => Below w7.heap.size w7 w8 ∧ w7.heap.size < w8.heap.size ∧ World.at_ w8 ⟨w7.heap.size, 0, none⟩ (YtlkjeneffohnkaaDoor.hc root)) ?_ ?_
        · exact ⟨below_setCells _ _ _ (below_alloc (Below.refl _ _) _) (Nat.le_refl _), set_size _ _ _, at_range (World.rangeAt_setCells_same _ _ _ _ (by rw [hc_length r32]; exact there_block (heap_alloc_is _ _ _ rfl) 0 32 (Nat.le_refl _)))⟩
        rintro w8 ⟨hw8, hz8, r8⟩
        have B8 := below_next B7 hw8
        have hg2 : g2 < w6.heap.size := (Array.getElem?_eq_some_iff.1 HS6.out.blk).1
        have hgr2 : w7.heap.size ≠ g2 := by have := hw7.size; omega
        have hv2 : some w7.heap.size ≠ v2.ownBlock := fun e => by have := Kd.R_lt HS6.out.row _ e.symm; have := hw7.size; omega
        have HS8 := Lib.hid (HSY.out.below B8)
        have HC8 := Lib.hid (HS6.out.below (below_next hw7 hw8))
        have HT8 := Lib.hid (tab_below B8 HTR.out)
        have HB8 := Lib.hid B8
        have HZ8 := Lib.hid hz8
        have HGR := Lib.hid hgr2
        have HV2 := Lib.hid hv2
        generalize w7.heap.size = gr at *
        clear B8 hg2 hgr2 hv2 hw8 hw7 hz8 B7 B6 HS6
        have eq : ∀ w, (Op.equalIn 10000 24 (.agg (hv root)) (.agg (hv root))).run Tryd.prog w = .ok true w := by simpa using eqH root root r32 r32
        refine wp_num (fun w' => Below w8.heap.size w8 w') [0, 1, 2, 3, 5, 6, 7] (.c (0, none, none) (.c (1, none, none) (.c (2, none, none) (.c (3, none, some (69, false)) (.c (5, none, some (69, false)) (.c (4, some true, some (69, false)) (.c (6, none, some (69, false)) (.c (7, none, none) (.nil))))))))) (by kernel_rfl) (by kernel_rfl) (by kernel_rfl) (fun _ _ d _ _ h => by cases d <;> exact h) (by kernel_rfl) ((Below.refl _ _).drew) ?_
        simp only [selE, nthO]
        apply p_q
        focus (intro w' hb; go_simp <;> rfl)
        simp only [Act.put, List.setIfInBounds_toArray, List.set_cons_zero, List.set_cons_succ, Array.toArray_toList]
        apply p_qL (ops0 := #[]) rfl rfl rfl (Nat.le_of_ble_eq_true rfl)
        focus (intro w' hb; go_wp2_with fail; refine ⟨rfl, ?_, rfl⟩; simp only [List.getElem?_toArray, List.getElem?_cons_zero, List.getElem?_cons_succ, Option.some.injEq]; rfl)
        simp only [Act.put, List.setIfInBounds_toArray, List.set_cons_zero, List.set_cons_succ, Array.toArray_toList]
        apply p_q
        focus (intro w' hb; go_simp <;> rfl)
        simp only [Act.put, List.setIfInBounds_toArray, List.set_cons_zero, List.set_cons_succ, Array.toArray_toList]
        first
        | refine p_skip rfl ?_
        | (refine p_go rfl ?_; simp only [bare]; apply p_q; focus (intro w' hb; go_simp <;> rfl))
        simp only [Act.put, List.setIfInBounds_toArray, List.set_cons_zero, List.set_cons_succ, Array.toArray_toList]
        first
        | refine p_skip rfl ?_
        | (refine p_go rfl ?_; simp only [bare]; refine p_loadH rfl rfl (fun w' hb => at_below hb (by assumption)) (by assumption) Tryd.underlying24 Tryd.info24 ?_)
        simp only [Act.put, List.setIfInBounds_toArray, List.set_cons_zero, List.set_cons_succ, Array.toArray_toList]
        refine p_go rfl ?_
        simp only [bare]
        refine p_list (ops := #[]) rfl ?_
        go_wp2_with fail
        refine (store_RootB wr.heap.size g2 v2 ys _ root HR.out (tab_below ((Below.refl w8.heap.size w8).drew) HT8.out) (HC8.out.below ((Below.refl w8.heap.size w8).drew))).mono ?_
        rintro e w9 ⟨rfl, hw9⟩
        go_wp2_with fail
        have Bw9 : Below w8.heap.size w8 w9 := below_next ((Below.refl w8.heap.size w8).drew) hw9
        refine ⟨fun _ => Bw9, ?_⟩
        first
        | refine p_skip rfl ?_
        | (refine p_go rfl ?_; simp only [bare]; apply p_qL (ops0 := #[]) rfl rfl rfl (Nat.le_of_ble_eq_true rfl); focus (intro w' hb; go_wp2_with fail; refine ⟨rfl, ?_, rfl⟩; simp only [List.getElem?_toArray, List.getElem?_cons_zero, List.getElem?_cons_succ, Option.some.injEq]; rfl))
        simp only [Act.put, List.setIfInBounds_toArray, List.set_cons_zero, List.set_cons_succ, Array.toArray_toList]
        apply p_qL (ops0 := #[]) rfl rfl rfl (Nat.le_of_ble_eq_true rfl)
        focus (intro w' hb; go_wp2_with fail; refine ⟨rfl, ?_, rfl⟩; simp only [List.getElem?_toArray, List.getElem?_cons_zero, List.getElem?_cons_succ, Option.some.injEq]; rfl)
        simp only [Act.put, List.setIfInBounds_toArray, List.set_cons_zero, List.set_cons_succ, Array.toArray_toList]
        refine p_end ?_
        have r9 := at_below Bw9 r8
        have HC9 := Lib.hid (HC8.out.below Bw9)
        have HB9 := Lib.hid (below_next HB8.out Bw9)
        have HZ9 : Hid (gr < w9.heap.size) := Lib.hid (Nat.lt_of_lt_of_le HZ8.out Bw9.size)
        have HR9 := Lib.hid r9
        clear r8 r9 HC8 HB8 HZ8 hw9 Bw9
        go_upto_region 18 with (first
          | (go_at_call 37; refine (store_SetAny wr.heap.size g2 v2 ys w9 key val (by omega) (by omega) (by rw [HNN.out]; omega) HC9.out).mono ?_; intro e w10 hop; obtain ⟨v3, rfl, S10, B10, r10, d10, z10⟩ := hop.apart HC9.out HB9.out HR9.out HGR.out HV2.out HZ9.out; have HS10 := Lib.hid S10; have HB10 := Lib.hid B10; have HR10 := Lib.hid r10; have HD10 := Lib.hid d10; have HZ10 := Lib.hid z10; clear S10 B10 r10 d10 z10 hop)
          | (go_at_call 40; refine (store_Drop wr.heap.size g2 v3 _ w10 sA HS10.out).mono ?_; intro e w11 hop; obtain ⟨v4, rfl, S11, B11, r11, d11, z11⟩ := hop.apart HS10.out HB10.out HR10.out HGR.out HD10.out HZ10.out; have HS11 := Lib.hid S11; have HB11 := Lib.hid B11; have HR11 := Lib.hid r11; clear S11 B11 r11 d11 z11 hop))
        have HS11s := Lib.hid (HSY.out.below HB11.out)
        have HT11 := Lib.hid (tab_below HB11.out HTR.out)
        have HC3r := Lib.hid (Kd.C_below HC3.out (show Below w3.heap.size w3 w11 by have := HB.out; rw [← HGG.out] at this; exact below_next this HB11.out))
        have HBW := Lib.hid (below_next (low_below HB3.out HW3.out HB.out) HB11.out)
        clear HS8 HT8 HGR HV2 HC9 HB9 HZ9 HR9 HS10 HB10 HR10 HD10 HZ10 HB3 HW3 HB HB4 HS4 HC3 HSY HTR HB11
        generalize wr.heap.size = b2 at HS11
        go_upto_region 20 with (go_at_call 41; refine (store_PairsS g g v ys w11 k HNN.out HS11s.out).mono ?_; rintro e w12 ⟨A5, c5, rfl, hc5, R12, C12, B12⟩; have HR12 := Lib.hid R12; have HB12 := Lib.hid B12; clear R12 C12 B12)
        have i9 := infoStr
        generalize hkk : k = nn at *
        have HKK := Lib.hid hkk
        clear hkk
        go_loopg [12] nn (fun gg i wq => ∃ (j : Nat) (zs : List Pr), j + gg = nn ∧ i = .int .i64 j ∧ kP.R 60 wq w11.heap.size yes (.slice A5 nn c5) zs ∧ Below w11.heap.size w11 wq)
        case atStart => exact ⟨0, ys, by omega, rfl, HR12.out, HB12.out⟩
        case round =>
          obtain ⟨j, zs, hj, rfl, hr, hb⟩ := hrel
          have HRQ := Lib.hid hr
          have HBQ := Lib.hid hb
          clear hr hb
          by_cases hlt' : j < nn
          · have hzl := (Kd.R_reads' HRQ.out).1
            obtain ⟨g5, cap5, he, -, -, -⟩ := Kd.R_form HRQ.out (by omega)
            injection he with he1 he2 he3
            subst he1 he3
            obtain ⟨ad, had, hat⟩ := kP_get (Kd.R_reads' HRQ.out).2.2 j (by omega)
            obtain rfl : (⟨g5, 0, none⟩ : Addr) = ad := by injection had
            have hcc : ∀ i u, (pc (zs.getD j dP))[i]? = some u → wr.cell? ⟨g5, (j : Int).toNat * kP.sz + i, none⟩ = some u := fun i u hi => by
              have := hat i u hi
              rw [add_plain, add_at] at this
              exact this
            have HCC := Lib.hid hcc
            have hlen : 0 + [Value.string sCh].length ≤ kP.sz := by show 1 ≤ 2; omega
            have HLEN := Lib.hid hlen
            clear hat had hcc hlen he2 hzl
            go_wp2_with (refine Kd.R_store kP (w0 := w11) w11.heap.size rfl rfl 9 _ _ rfl 60 (g := g5) (n := nn) (cap := c5) (j : Int) 0 zs ⟨sCh, (zs.getD j dP).val⟩ (.string sCh) [.string sCh] (pc (zs.getD j dP)) yes (fun _ => False) rfl (by simp [kP]) rfl rfl i9 (by simp [Value.oneCell']) HRQ.out (Int.natCast_nonneg _) (by omega) rfl HCC.out HLEN.out rfl (fun _ h => h.elim) HBQ.out ?_; intro w13 R13 B13 G13; have HR13 := Lib.hid R13; have HB13 := Lib.hid B13; clear R13 B13 G13)
            go_roundg (gk - 1)
            case measure => omega
            case rel => exact ⟨j + 1, _, by omega, by go_num, HR13.out, HB13.out⟩
          · obtain rfl : j = nn := by omega
            have HSQ := Lib.hid (HS11s.out.below HBQ.out)
            have HCQ := Lib.hid (HS11.out.below HBQ.out)
            have HTQ := Lib.hid (tab_below HBQ.out HT11.out)
            have HC3q := Lib.hid (Kd.C_below HC3r.out HBQ.out)
            have HBWq := Lib.hid (below_next HBW.out HBQ.out)
            have rq := at_below HBQ.out HR11.out
            go_upto_region 23 with (fail)
            refine wp_num (fun w' => Below wr.heap.size wr w') [0, 2, 3, 4, 5, 7, 9, 10] (.c (0, none, none) (.c (2, none, none) (.c (1, some true, none) (.c (3, none, none) (.c (4, none, none) (.c (5, none, some (97, false)) (.c (7, none, some (97, false)) (.c (6, some true, some (97, false)) (.c (8, some true, some (97, false)) (.c (9, none, some (97, false)) (.c (10, none, none) (.nil)))))))))))) (by kernel_rfl) (by kernel_rfl) (by kernel_rfl) (fun _ _ d _ _ h => by cases d <;> exact h) (by kernel_rfl) ((Below.refl _ _).drew) ?_
            simp only [selE, nthO]
            apply p_q
            focus (intro w' hb; go_simp <;> rfl)
            simp only [Act.put, List.setIfInBounds_toArray, List.set_cons_zero, List.set_cons_succ, Array.toArray_toList]
            refine p_loadH rfl rfl (fun w' hb => at_below hb (by assumption)) (by assumption) Tryd.underlying24 Tryd.info24 ?_
            simp only [Act.put, List.setIfInBounds_toArray, List.set_cons_zero, List.set_cons_succ, Array.toArray_toList]
            refine p_list (ops := #[]) rfl ?_
            go_wp2_with fail
            refine (store_RootB g g v ys _ root HR.out (tab_below ((Below.refl wr.heap.size wr).drew) HTQ.out) (HSQ.out.below ((Below.refl wr.heap.size wr).drew))).mono ?_
            rintro e w14 ⟨rfl, hw14⟩
            go_wp2_with fail
            have Bw14 : Below wr.heap.size wr w14 := below_next ((Below.refl wr.heap.size wr).drew) hw14
            refine ⟨fun _ => Bw14, ?_⟩
            apply p_qL (ops0 := #[]) rfl rfl rfl (Nat.le_of_ble_eq_true rfl)
            focus (intro w' hb; go_wp2_with fail; refine ⟨rfl, ?_, rfl⟩; simp only [List.getElem?_toArray, List.getElem?_cons_zero, List.getElem?_cons_succ, Option.some.injEq]; rfl)
            simp only [Act.put, List.setIfInBounds_toArray, List.set_cons_zero, List.set_cons_succ, Array.toArray_toList]
            apply p_q
            focus (intro w' hb; go_simp <;> rfl)
            simp only [Act.put, List.setIfInBounds_toArray, List.set_cons_zero, List.set_cons_succ, Array.toArray_toList]
            first
            | refine p_skip rfl ?_
            | (refine p_go rfl ?_; simp only [bare]; apply p_q; focus (intro w' hb; go_simp <;> rfl))
            simp only [Act.put, List.setIfInBounds_toArray, List.set_cons_zero, List.set_cons_succ, Array.toArray_toList]
            first
            | refine p_skip rfl ?_
            | (refine p_go rfl ?_; simp only [bare]; apply p_q; focus (intro w' hb; go_simp <;> rfl))
            simp only [Act.put, List.setIfInBounds_toArray, List.set_cons_zero, List.set_cons_succ, Array.toArray_toList]
            refine p_go rfl ?_
            simp only [bare]
            refine p_list (ops := #[]) rfl ?_
            go_wp2_with fail
            refine (store_PairsS g g v ys _ _ HNN.out (HSQ.out.below (Bw14))).mono ?_
            rintro e w15 ⟨A6, c6, rfl, hc6, R6, C6, hw15⟩
            go_wp2_with fail
            have Bw15 : Below wr.heap.size wr w15 := below_next (Bw14) hw15
            refine ⟨fun _ => Bw15, ?_⟩
            refine p_go rfl ?_
            simp only [bare]
            refine p_list (ops := #[]) rfl ?_
            go_wp2_with fail
            refine (keep_PairsT A6 A3 _ c6 c3 ys _ C6 (Kd.C_below HC3q.out (Bw15))).mono ?_
            rintro e w16 ⟨rfl, hw16⟩
            go_wp2_with fail
            have Bw16 : Below wr.heap.size wr w16 := below_next (Bw15) hw16
            refine ⟨fun _ => Bw16, ?_⟩
            first
            | refine p_skip rfl ?_
            | (refine p_go rfl ?_; simp only [bare]; apply p_qL (ops0 := #[]) rfl rfl rfl (Nat.le_of_ble_eq_true rfl); focus (intro w' hb; go_wp2_with fail; refine ⟨rfl, ?_, rfl⟩; simp only [List.getElem?_toArray, List.getElem?_cons_zero, List.getElem?_cons_succ, Option.some.injEq]; rfl))
            simp only [Act.put, List.setIfInBounds_toArray, List.set_cons_zero, List.set_cons_succ, Array.toArray_toList]
            apply p_qL (ops0 := #[]) rfl rfl rfl (Nat.le_of_ble_eq_true rfl)
            focus (intro w' hb; go_wp2_with fail; refine ⟨rfl, ?_, rfl⟩; simp only [List.getElem?_toArray, List.getElem?_cons_zero, List.getElem?_cons_succ, Option.some.injEq]; rfl)
            simp only [Act.put, List.setIfInBounds_toArray, List.set_cons_zero, List.set_cons_succ, Array.toArray_toList]
            refine p_end ?_
            have HBWe := Lib.hid (below_next HBWq.out Bw16)
            have hcg := copied HG.out HZ.out (key := key) (val := val)
            have HCe := Lib.hid (HCQ.out.below Bw16)
            clear hw14 hw15 hw16 Bw14 Bw15 Bw16 rq R6 C6 HSQ HCQ HTQ HC3q HBWq HRQ HR12 HC3r HR11 HS11s HT11 HBW HS11 HB12 HBQ hlt' hlt eq
            by_cases hka : key = ⟨#[97]⟩
            · have hcg' : gtup (getP (dropP (setR ys key val) sA) key) = .tuple #[.string ByteArray.empty, .bool false] := by rw [hcg, if_pos (show key = sA from hka)]; rfl
              have hcon := store_Get b2 g2 v4 _ w16 key HCe.out
              rw [hcg'] at hcon
              have HCON := Lib.hid hcon
              clear hcg hcg' hcon HCe HZ HG HX HY
              subst hka
              go_wp2_with (go_at_call 43; refine HCON.out.mono ?_; rintro e w17 ⟨rfl, B17⟩; have HB17 := Lib.hid B17; clear B17)
              all_goals go_ret
              all_goals exact ⟨rfl, below_next HBWe.out HB17.out⟩
            · have hcg' : gtup (getP (dropP (setR ys key val) sA) key) = .tuple #[.string val, .bool true] := by rw [hcg, if_neg (show ¬ key = sA from hka)]; rfl
              have hcon := store_Get b2 g2 v4 _ w16 key HCe.out
              rw [hcg'] at hcon
              have HCON := Lib.hid hcon
              clear hcg hcg' hcon HCe HZ HG HX HY
              go_wp2_with (go_at_call 43; refine HCON.out.mono ?_; rintro e w17 ⟨rfl, B17⟩; have HB17 := Lib.hid B17; clear B17)
              all_goals go_ret
              all_goals exact ⟨rfl, below_next HBWe.out HB17.out⟩
  · have hk : key.size < 1 ∨ 160 < key.size ∨ val.size < 1 ∨ 64 < val.size := by omega
    clear hok
    rcases hk with hk | hk | hk | hk
    all_goals
      go_enter Tryd.func6, Tryd.ntmps6
      go_upto_region 4 with (first
        | (go_at_call 35; refine (law12_first _).mono ?_; rintro e w2 ⟨rfl, B2⟩)
        | (go_at_call 29; refine (keep_RiseS _ ys HY.out nn HNN.out A m c _ (by omega) (Kd.C_below HX.out B2)).mono ?_; rintro e w3 ⟨A3, c3, rfl, hc3, C3, hw3⟩; have B3 := below_next B2 hw3; clear C3 hw3))
      go_wp2_with (go_at_call 35; refine (law12_first _).mono ?_; rintro e w4 ⟨rfl, B4⟩)
      all_goals go_ret
      all_goals exact ⟨rfl, below_next B3 B4⟩
end Go.Proofs.YtlkjeneffohnkaaDoor
