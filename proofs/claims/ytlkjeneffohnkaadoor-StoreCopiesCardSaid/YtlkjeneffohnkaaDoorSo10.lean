import Derived.Test.YtlkjeneffohnkaaDoorSo9
import Derived.Test.YtlkjeneffohnkaaDoorShow
set_option linter.unusedVariables false
set_option linter.unusedSimpArgs false
namespace Go.Proofs.YtlkjeneffohnkaaDoor
open Go.RowKit Go.Proofs Go.Proofs.Plan Go.Proofs.YtlkjeneffohnkaaDoorW.PrintWords
theorem Bl.cell {B : Nat} {w w' : World} (h : Below B w w') {ad : Addr} {v : Value} (hc : w.cell? ad = some v ∧ ad.block < B) : w'.cell? ad = some v := by
  rw [h.cell hc.2]; exact hc.1
theorem Bl.range {B : Nat} {w w' : World} (h : Below B w w') {b o : Nat} {cs : List Value} (hc : w.rangeAt b o cs ∧ b < B) : w'.rangeAt b o cs := fun j v hj => Bl.cell h ⟨hc.1 j v hj, hc.2⟩
/-- what stood at the outset stands still, and is low -/
theorem low_cell {B : Nat} {w w2 wr : World} (h : Below w.heap.size w w2) (hB : w.heap.size ≤ B) (k : Below B w2 wr) {ad : Addr} {v : Value} (q : w.cell? ad = some v) : wr.cell? ad = some v ∧ ad.block < B := by
  have hl := World.block_lt_of_cell? _ _ q
  exact ⟨Bl.cell k ⟨cell_below h q, by omega⟩, by omega⟩
theorem low_below {B : Nat} {w w2 wr : World} (h : Below w.heap.size w w2) (hB : w.heap.size ≤ B) (k : Below B w2 wr) : Below w.heap.size w wr := h.trans (k.mono hB)
theorem two_there1 (w : World) (C1 C2 : Array Value) (t1 t2 n : Nat) (hn : n ≤ C1.size) : ((w.alloc (.cells C1 t1)).alloc (.cells C2 t2)).there w.heap.size 0 n :=
  there_block (block_below (below_alloc (Below.refl _ _) _) (heap_alloc_is w _ _ rfl)) 0 n (by omega)
theorem two_there2 (w : World) (C1 C2 : Array Value) (t1 t2 n : Nat) (c1 : List Value) (hn : n ≤ C2.size) : (((w.alloc (.cells C1 t1)).alloc (.cells C2 t2)).setCells w.heap.size 0 c1).there (w.heap.size + 1) 0 n :=
  there_block (C := C2) (t := t2) (by rw [setCells_far _ _ _ (by omega)]; exact heap_alloc_is (w.alloc _) _ _ (by show _ = (w.heap.push _).size; rw [Array.size_push])) 0 n (by omega)
theorem two_vars (w : World) (C1 C2 : Array Value) (t1 t2 : Nat) (c1 c2 : List Value) (h1 : c1.length ≤ C1.size) (h2 : c2.length ≤ C2.size) :
    Below w.heap.size w ((((w.alloc (.cells C1 t1)).alloc (.cells C2 t2)).setCells w.heap.size 0 c1).setCells (w.heap.size + 1) 0 c2) ∧
      World.rangeAt ((((w.alloc (.cells C1 t1)).alloc (.cells C2 t2)).setCells w.heap.size 0 c1).setCells (w.heap.size + 1) 0 c2) w.heap.size 0 c1 ∧
      World.at_ ((((w.alloc (.cells C1 t1)).alloc (.cells C2 t2)).setCells w.heap.size 0 c1).setCells (w.heap.size + 1) 0 c2) ⟨w.heap.size + 1, 0, none⟩ c2 := by
  refine ⟨below_setCells _ _ _ (below_setCells _ _ _ (below_alloc (below_alloc (Below.refl _ _) _) _) (Nat.le_refl _)) (Nat.le_succ _), ?_, at_range (World.rangeAt_setCells_same _ _ _ _ (two_there2 w C1 C2 t1 t2 _ c1 h2))⟩
  intro j v hj
  rw [World.cell?_of_block (setCells_far _ _ _ (show w.heap.size ≠ w.heap.size + 1 by omega))]
  exact World.rangeAt_setCells_same _ _ _ _ (two_there1 w C1 C2 t1 t2 _ h1) j v hj
set_option maxHeartbeats 4000000 in
set_option maxRecDepth 100000 in
theorem law_StoreProves (key : Bs) (A : Option Addr) (n c : Nat) (xs : List Ac) (w : World) (ht : Tab w) (h : kA.C w A n xs) :
    Calls Tryd.prog 10 #[.slice A n c, .string key] w fun e w' => e = .returned (.bool true) ∧ Below w.heap.size w w' := by
  have HT := Lib.hid ht
  have HL := Lib.hid h.1
  have HH := Lib.hid h
  clear ht h
  by_cases hok : fewA xs 30 = true ∧ 1 ≤ key.size ∧ key.size ≤ 160
  · obtain ⟨hl, hk1, hk2⟩ := hok
    have hl' := hl
    simp only [fewA, Bool.and_eq_true, decide_eq_true_eq] at hl'
    have hn30 : n ≤ 30 := by rw [← HL.out]; exact hl'.1
    have hall := aall_iff.1 hl'.2
    have HALL := Lib.hid hall
    have HF := Lib.hid hl
    clear hl hl' hall
    go_enter Tryd.func10, Tryd.ntmps10
    go_upto_region 6 with (first
      | (go_at_call 35; refine (law12_first _).mono ?_; rintro e w2 ⟨rfl, B2⟩)
      | (go_at_call 44; refine (law12_FewB30 true A n c xs HF.out _ (Kd.C_below HH.out B2)).mono ?_; rintro e w' ⟨rfl, rfl⟩)
      | (go_at_call 36; refine (store_NewE w2 w2 (Below.refl _ _)).mono ?_; rintro e w3 ⟨rfl, S3, B3⟩; have HS3 := Lib.hid S3; clear S3))
    have hw2 := B2.size
    generalize hgg : w2.heap.size = g at *
    have HB2 := Lib.hid B2
    have HW2 := Lib.hid hw2
    have HGG := Lib.hid hgg
    have HB3 := Lib.hid B3
    clear B2 B3 hgg hw2
    go_wp2
    go_loopg [6] n (fun gg i wr => ∃ (k : Nat) (v : Value), k + gg = n ∧ i = .int .i64 k ∧ Sto wr g g v (acts (xs.take k)) ∧ Below g w2 wr)
    case atStart => exact ⟨0, .slice none 0 0, by omega, rfl, HS3.out, HB3.out⟩
    case round =>
      obtain ⟨k, v, hk, rfl, hs, hb⟩ := hrel
      have HS := Lib.hid hs
      have HB := Lib.hid hb
      by_cases hlt : k < n
      · obtain ⟨ad, rfl, q0, q1, q2⟩ := kA_at HH.out k hlt
        have hxl : k < xs.length := by rw [HL.out]; exact hlt
        have hsh := HALL.out k hxl
        have hstep := acts_take_succ xs hxl
        obtain ⟨x, hx⟩ : ∃ x, x = xs.getD k dA := ⟨_, rfl⟩
        rw [← hx] at q0 q1 q2 hsh hstep
        have e0 := (low_cell HB2.out HW2.out hb q0).1
        have e1 := low_cell HB2.out HW2.out hb q1
        have e2 := low_cell HB2.out HW2.out hb q2
        have hlen : (acts (xs.take k)).length + 1 ≤ 1000000 := by have := acts_length (xs.take k); rw [List.length_take] at this; omega
        simp only [shortA, Bool.and_eq_true, decide_eq_true_eq] at hsh
        have HLEN := Lib.hid hlen
        have HSH := Lib.hid hsh
        clear hx q0 q1 q2 hlen hsh hs hb hxl
        by_cases hkind : x.kind = 1
        · have hy : dropP (acts (xs.take k)) x.key = acts (xs.take (k + 1)) := by rw [hstep]; unfold act; rw [if_pos hkind]
          obtain ⟨b, hb⟩ : ∃ b, isAt (acts (xs.take k)) (place (acts (xs.take k)) x.key) x.key = b := ⟨_, rfl⟩
          have hcon := store_DropE g g v _ wr w2 x.key _ b hy hb HS.out HB.out
          have HCON := Lib.hid hcon
          have f1 := e1.1
          clear hcon hy hb hstep e1 e2
          go_wp2_with (go_at_call 40; refine HCON.out.mono ?_; rintro e w5 ⟨v5, rfl, S5, B5⟩; have HS5 := Lib.hid S5; have HB5 := Lib.hid B5; clear S5 B5)
          go_roundg (gk - 1)
          case measure => omega
          case rel => exact ⟨k + 1, v5, by omega, by go_num, HS5.out, HB5.out⟩
        · have hy : setR (acts (xs.take k)) x.key x.val = acts (xs.take (k + 1)) := by rw [hstep]; unfold act; rw [if_neg hkind]
          have hcon := store_SetE g g v _ wr.drew wr x.key x.val _ _ hy rfl (by have := HSH.out; omega) (by have := HSH.out; omega) HLEN.out (HS.out.below (Below.refl _ _).drew) (Below.refl _ _).drew
          have HCON := Lib.hid hcon
          have hne : (x.kind == 1) = false := by simpa using hkind
          clear hcon hy hstep hkind
          go_upto_region 13 with (fail)
          clear e0
          refine wp_num (fun w' => Below (g) wr w') [0, 1, 2, 3, 4, 5, 6, 7, 8, 9, 10] (.c (0, none, none) (.c (1, none, none) (.c (2, none, none) (.c (3, none, none) (.c (4, none, none) (.c (5, none, none) (.c (6, none, none) (.c (7, none, none) (.c (8, none, none) (.c (9, none, none) (.c (10, none, none) (.c (11, some true, none) (.nil))))))))))))) (by kernel_rfl) (by kernel_rfl) (by kernel_rfl) (fun _ _ d _ _ h => by cases d <;> exact h) (by kernel_rfl) ((Below.refl _ _).drew) ?_
          simp only [selE, nthO]
          apply p_q
          focus (intro w' hb; go_simp <;> rfl)
          simp only [Act.put, List.setIfInBounds_toArray, List.set_cons_zero, List.set_cons_succ, Array.toArray_toList]
          apply p_q
          focus (intro w' hb; go_simp <;> rfl)
          simp only [Act.put, List.setIfInBounds_toArray, List.set_cons_zero, List.set_cons_succ, Array.toArray_toList]
          apply p_q
          focus (intro w' hb; go_simp <;> rfl)
          simp only [Act.put, List.setIfInBounds_toArray, List.set_cons_zero, List.set_cons_succ, Array.toArray_toList]
          apply p_qL (ops0 := #[]) rfl rfl rfl (Nat.le_of_ble_eq_true rfl)
          focus (intro w' hb; go_wp2_with fail; refine ⟨rfl, ?_, rfl⟩; simp only [List.getElem?_toArray, List.getElem?_cons_zero, List.getElem?_cons_succ, Option.some.injEq]; rfl)
          simp only [Act.put, List.setIfInBounds_toArray, List.set_cons_zero, List.set_cons_succ, Array.toArray_toList]
          apply p_qL (ops0 := #[]) rfl rfl rfl (Nat.le_of_ble_eq_true rfl)
          focus (intro w' hb; go_wp2_with fail; refine ⟨rfl, ?_, rfl⟩; simp only [List.getElem?_toArray, List.getElem?_cons_zero, List.getElem?_cons_succ, Option.some.injEq]; rfl)
          simp only [Act.put, List.setIfInBounds_toArray, List.set_cons_zero, List.set_cons_succ, Array.toArray_toList]
          refine p_load1 rfl rfl (fun w' hb => Bl.cell hb (by assumption)) Tryd.underlying9 rfl ?_
          simp only [Act.put, List.setIfInBounds_toArray, List.set_cons_zero, List.set_cons_succ, Array.toArray_toList]
          apply p_q
          focus (intro w' hb; go_simp <;> rfl)
          simp only [Act.put, List.setIfInBounds_toArray, List.set_cons_zero, List.set_cons_succ, Array.toArray_toList]
          apply p_q
          focus (intro w' hb; go_simp <;> rfl)
          simp only [Act.put, List.setIfInBounds_toArray, List.set_cons_zero, List.set_cons_succ, Array.toArray_toList]
          apply p_qL (ops0 := #[]) rfl rfl rfl (Nat.le_of_ble_eq_true rfl)
          focus (intro w' hb; go_wp2_with fail; refine ⟨rfl, ?_, rfl⟩; simp only [List.getElem?_toArray, List.getElem?_cons_zero, List.getElem?_cons_succ, Option.some.injEq]; rfl)
          simp only [Act.put, List.setIfInBounds_toArray, List.set_cons_zero, List.set_cons_succ, Array.toArray_toList]
          apply p_qL (ops0 := #[]) rfl rfl rfl (Nat.le_of_ble_eq_true rfl)
          focus (intro w' hb; go_wp2_with fail; refine ⟨rfl, ?_, rfl⟩; simp only [List.getElem?_toArray, List.getElem?_cons_zero, List.getElem?_cons_succ, Option.some.injEq]; rfl)
          simp only [Act.put, List.setIfInBounds_toArray, List.set_cons_zero, List.set_cons_succ, Array.toArray_toList]
          refine p_load1 rfl rfl (fun w' hb => Bl.cell hb (by assumption)) Tryd.underlying9 rfl ?_
          simp only [Act.put, List.setIfInBounds_toArray, List.set_cons_zero, List.set_cons_succ, Array.toArray_toList]
          refine p_list (ops := #[]) rfl ?_
          go_wp2_with fail
          refine HCON.out.mono ?_
          rintro e w5 ⟨v5, rfl, S5, B5⟩
          have HS5 := Lib.hid S5
          have HB5 := Lib.hid B5
          clear S5 B5
          go_wp2_with fail
          refine ⟨fun _ => HB5.out, ?_⟩
          refine p_end ?_
          go_wp2
          go_roundg (gk - 1)
          case measure => omega
          case rel => exact ⟨k + 1, v5, by omega, by go_num, HS5.out, HB.out.trans HB5.out⟩
      · obtain rfl : k = n := by omega
        rw [List.take_of_length_le (by rw [HL.out]; omega)] at hs
        have hg := hs.good
        have hl30 : (acts xs).length ≤ 30 := by have := acts_length xs; rw [HL.out] at this; omega
        obtain ⟨vv, b, h1, h2, h3⟩ := asked hg (by omega) key
        obtain ⟨root, hroot⟩ : ∃ r, rootOf (acts xs) = r := ⟨_, rfl⟩
        have r32 : root.size = 32 := by rw [← hroot]; exact sha_size _
        obtain ⟨p, hp⟩ : ∃ p, make (acts xs) key = p := ⟨_, rfl⟩
        have hpc := make_count hg key
        rw [hp] at h2 h3 hpc
        rw [hroot] at h2 h3
        generalize acts xs = ys at *
        obtain ⟨m, hm⟩ : ∃ m, ys.length = m := ⟨_, rfl⟩
        rw [hm] at hpc hl30
        obtain ⟨ml, hml⟩ : ∃ ml, p.leaves.length = ml := ⟨_, rfl⟩
        have h1' := store_GetE g g v ys wr w2 key vv b h1 hs hb
        have H1 := Lib.hid h1'
        have H2 := Lib.hid h2
        have H3 := Lib.hid h3
        have HP := Lib.hid hp
        have HR := Lib.hid hroot
        have HPC := Lib.hid hpc
        have HM := Lib.hid hm
        have HML := Lib.hid hml
        clear hs hb hg h1 h1' h2 h3 hp hroot hpc hm hml HS HB HALL
        go_upto_region 15 with (go_at_call 43; refine H1.out.mono ?_; rintro e w4 ⟨rfl, S4, B4⟩; have HS4 := Lib.hid S4; have HB4 := Lib.hid B4; clear S4 B4)
        have ht4 : Tab w4 := tab_below (low_below HB2.out HW2.out HB4.out) HT.out
        have HT4 := Lib.hid ht4
        clear ht4
        have hcon := store_Prove g g v ys w4 key p HP.out m ml HPC.out HML.out HT4.out HS4.out
        have HCON := Lib.hid hcon
        clear hcon
        go_upto_region 16 with (first
          | (go_at_call 52; refine HCON.out.mono ?_; rintro e w5 ⟨A5, c5, rfl, hc5, C5, B5⟩; have HC5 := Lib.hid C5; clear C5)
          | (go_at_call 39; refine (store_Root g g v ys w5 root HR.out (tab_below B5 HT4.out) (HS4.out.below B5)).mono ?_; rintro e w6 ⟨rfl, B6⟩)
          | (refine l_storeS rfl rfl rfl rfl rfl (two_there1 _ _ _ _ _ _ (Nat.le_refl _)) Tryd.infoPf (one2 rfl rfl) ?_)
          | (refine l_storeH rfl rfl rfl rfl (two_there2 _ _ _ _ _ _ _ (Nat.le_refl _)) r32 Tryd.info24 ?_))
        refine wp_gen (fun w7 => Below w6.heap.size w6 w7 ∧ World.rangeAt w7 w6.heap.size 0 [.int .i64 m, .slice A5 ml c5] ∧ World.at_ w7 ⟨w6.heap.size + 1, 0, none⟩ (YtlkjeneffohnkaaDoor.hc root)) ?_ ?_
        · exact two_vars w6 _ _ _ _ _ _ (Nat.le_refl _) (by rw [hc_length r32]; exact Nat.le_refl _)
        rintro w7 ⟨hw7, q9, r9⟩
        have b7 := below_next B5 (below_next B6 hw7)
        have f9 : w7.cell? ⟨w6.heap.size, 0, none⟩ = some (.int .i64 m) := q9 0 _ rfl
        have HT7 := Lib.hid (tab_below b7 HT4.out)
        have HC7 := Lib.hid (Kd.C_below HC5.out (below_next B6 hw7))
        have HS7 := Lib.hid (HS4.out.below b7)
        have HB7 := Lib.hid (below_then (low_below HB2.out HW2.out HB4.out) (by have := HB4.out.size; have := HB2.out.size; omega) b7)
        have iPf := Tryd.infoPf
        generalize w6.heap.size = gp at q9 r9 f9 ⊢
        clear b7 hw7 B5 B6 HC5 HCON HS4 HB4 HT4 H1 HP HR hn30 hl30 hk1 hk2
        obtain ⟨nb, hnb⟩ : ∃ nb, nb = !b := ⟨_, rfl⟩
        rw [← hnb] at H3
        cases b
        all_goals
          simp only [Bool.not_true, Bool.not_false] at hnb
          subst hnb
          refine wp_num (fun w' => Below w7.heap.size w7 w') [0, 1, 2, 3, 5, 6, 7, 8, 9, 10, 12, 13, 14, 15, 16, 17, 18, 19, 21, 22, 23] (.c (0, none, none) (.c (1, none, none) (.c (2, none, none) (.c (3, none, none) (.c (5, none, none) (.c (4, some true, none) (.c (6, none, none) (.c (7, none, none) (.c (8, none, some (79, true)) (.c (9, none, some (79, true)) (.c (10, none, some (79, true)) (.c (12, none, some (79, true)) (.c (13, none, some (79, true)) (.c (11, some true, some (79, true)) (.c (14, none, some (79, true)) (.c (15, none, none) (.c (16, none, none) (.c (17, none, some (88, true)) (.c (18, none, some (88, true)) (.c (19, none, some (88, true)) (.c (20, some true, some (88, true)) (.c (21, none, some (88, true)) (.c (22, none, none) (.c (23, none, none) (.nil))))))))))))))))))))))))) (by kernel_rfl) (by kernel_rfl) (by kernel_rfl) (fun _ _ d _ _ h => by cases d <;> exact h) (by kernel_rfl) ((Below.refl _ _).drew) ?_
          simp only [selE, nthO]
          refine p_loadH rfl rfl (fun w' hb => at_below hb (by assumption)) (by assumption) Tryd.underlying24 Tryd.info24 ?_
          simp only [Act.put, List.setIfInBounds_toArray, List.set_cons_zero, List.set_cons_succ, Array.toArray_toList]
          refine p_load rfl rfl (fun w' hb => rangeAt_below hb (by assumption))  Tryd.underlying27 rfl (by first | assumption | (simp only [*]; done)) ?_
          simp only [Act.put, List.setIfInBounds_toArray, List.set_cons_zero, List.set_cons_succ, Array.toArray_toList]
          apply p_q
          focus (intro w' hb; go_simp <;> rfl)
          simp only [Act.put, List.setIfInBounds_toArray, List.set_cons_zero, List.set_cons_succ, Array.toArray_toList]
          apply p_q
          focus (intro w' hb; go_simp <;> rfl)
          simp only [Act.put, List.setIfInBounds_toArray, List.set_cons_zero, List.set_cons_succ, Array.toArray_toList]
          apply p_q
          focus (intro w' hb; go_simp <;> rfl)
          simp only [Act.put, List.setIfInBounds_toArray, List.set_cons_zero, List.set_cons_succ, Array.toArray_toList]
          refine p_list (ops := #[]) rfl ?_
          go_wp2_with fail
          refine (proof_HasB root r32 p key vv m ml HPC.out HML.out A5 c5 _ (tab_below ((Below.refl w7.heap.size w7).drew) HT7.out) hc5 (Kd.C_below HC7.out ((Below.refl w7.heap.size w7).drew)) _ H2.out).mono ?_
          rintro e w8 ⟨rfl, hw8⟩
          go_wp2_with fail
          have Bw8 : Below w7.heap.size w7 w8 := below_next ((Below.refl w7.heap.size w7).drew) hw8
          refine ⟨fun _ => Bw8, ?_⟩
          apply p_qL (ops0 := #[]) rfl rfl rfl (Nat.le_of_ble_eq_true rfl)
          focus (intro w' hb; go_wp2_with fail; refine ⟨rfl, ?_, rfl⟩; simp only [List.getElem?_toArray, List.getElem?_cons_zero, List.getElem?_cons_succ, Option.some.injEq]; rfl)
          simp only [Act.put, List.setIfInBounds_toArray, List.set_cons_zero, List.set_cons_succ, Array.toArray_toList]
          apply p_q
          focus (intro w' hb; go_simp <;> rfl)
          simp only [Act.put, List.setIfInBounds_toArray, List.set_cons_zero, List.set_cons_succ, Array.toArray_toList]
          first
          | refine p_skip rfl ?_
          | (refine p_go rfl ?_; simp only [bare]; refine p_loadH rfl rfl (fun w' hb => at_below hb (by assumption)) (by assumption) Tryd.underlying24 Tryd.info24 ?_)
          simp only [Act.put, List.setIfInBounds_toArray, List.set_cons_zero, List.set_cons_succ, Array.toArray_toList]
          first
          | refine p_skip rfl ?_
          | (refine p_go rfl ?_; simp only [bare]; refine p_load rfl rfl (fun w' hb => rangeAt_below hb (by assumption))  Tryd.underlying27 rfl (by first | assumption | (simp only [*]; done)) ?_)
          simp only [Act.put, List.setIfInBounds_toArray, List.set_cons_zero, List.set_cons_succ, Array.toArray_toList]
          first
          | refine p_skip rfl ?_
          | (refine p_go rfl ?_; simp only [bare]; apply p_q; focus (intro w' hb; go_simp <;> rfl))
          simp only [Act.put, List.setIfInBounds_toArray, List.set_cons_zero, List.set_cons_succ, Array.toArray_toList]
          first
          | refine p_skip rfl ?_
          | (refine p_go rfl ?_; simp only [bare]; apply p_q; focus (intro w' hb; go_simp <;> rfl))
          simp only [Act.put, List.setIfInBounds_toArray, List.set_cons_zero, List.set_cons_succ, Array.toArray_toList]
          first
          | refine p_skip rfl ?_
          | (refine p_go rfl ?_; simp only [bare]; apply p_qL (ops0 := #[]) rfl rfl rfl (Nat.le_of_ble_eq_true rfl); focus (intro w' hb; go_wp2_with fail; refine ⟨rfl, ?_, rfl⟩; simp only [List.getElem?_toArray, List.getElem?_cons_zero, List.getElem?_cons_succ, Option.some.injEq]; rfl))
          simp only [Act.put, List.setIfInBounds_toArray, List.set_cons_zero, List.set_cons_succ, Array.toArray_toList]
          refine p_go rfl ?_
          simp only [bare]
          refine p_list (ops := #[]) rfl ?_
          go_wp2_with fail
          refine (proof_LacksB root r32 p key m ml HPC.out HML.out A5 c5 _ (tab_below (Bw8) HT7.out) hc5 (Kd.C_below HC7.out (Bw8)) _ H3.out).mono ?_
          rintro e w9 ⟨rfl, hw9⟩
          go_wp2_with fail
          have Bw9 : Below w7.heap.size w7 w9 := below_next (Bw8) hw9
          refine ⟨fun _ => Bw9, ?_⟩
          first
          | refine p_skip rfl ?_
          | (refine p_go rfl ?_; simp only [bare]; apply p_qL (ops0 := #[]) rfl rfl rfl (Nat.le_of_ble_eq_true rfl); focus (intro w' hb; go_wp2_with fail; refine ⟨rfl, ?_, rfl⟩; simp only [List.getElem?_toArray, List.getElem?_cons_zero, List.getElem?_cons_succ, Option.some.injEq]; rfl))
          simp only [Act.put, List.setIfInBounds_toArray, List.set_cons_zero, List.set_cons_succ, Array.toArray_toList]
          apply p_qL (ops0 := #[]) rfl rfl rfl (Nat.le_of_ble_eq_true rfl)
          focus (intro w' hb; go_wp2_with fail; refine ⟨rfl, ?_, rfl⟩; simp only [List.getElem?_toArray, List.getElem?_cons_zero, List.getElem?_cons_succ, Option.some.injEq]; rfl)
          simp only [Act.put, List.setIfInBounds_toArray, List.set_cons_zero, List.set_cons_succ, Array.toArray_toList]
          apply p_q
          focus (intro w' hb; go_simp <;> rfl)
          simp only [Act.put, List.setIfInBounds_toArray, List.set_cons_zero, List.set_cons_succ, Array.toArray_toList]
          first
          | refine p_skip rfl ?_
          | (refine p_go rfl ?_; simp only [bare]; apply p_qL (ops0 := #[]) rfl rfl rfl (Nat.le_of_ble_eq_true rfl); focus (intro w' hb; go_wp2_with fail; refine ⟨rfl, ?_, rfl⟩; simp only [List.getElem?_toArray, List.getElem?_cons_zero, List.getElem?_cons_succ, Option.some.injEq]; rfl))
          simp only [Act.put, List.setIfInBounds_toArray, List.set_cons_zero, List.set_cons_succ, Array.toArray_toList]
          first
          | refine p_skip rfl ?_
          | (refine p_go rfl ?_; simp only [bare]; refine p_load1 rfl rfl (fun w' hb => cell_below hb (by assumption)) Tryd.underlying3 rfl ?_)
          simp only [Act.put, List.setIfInBounds_toArray, List.set_cons_zero, List.set_cons_succ, Array.toArray_toList]
          first
          | refine p_skip rfl ?_
          | (refine p_go rfl ?_; simp only [bare]; apply p_q; focus (intro w' hb; go_simp <;> rfl))
          simp only [Act.put, List.setIfInBounds_toArray, List.set_cons_zero, List.set_cons_succ, Array.toArray_toList]
          refine p_go rfl ?_
          simp only [bare]
          refine p_list (ops := #[]) rfl ?_
          go_wp2_with fail
          refine (store_LenE g g v ys _ (m : Int) (by rw [HM.out]) (HS7.out.below (Bw9))).mono ?_
          rintro e _ ⟨rfl, rfl⟩
          go_wp2_with fail
          refine ⟨fun _ => Bw9, ?_⟩
          first
          | refine p_skip rfl ?_
          | (refine p_go rfl ?_; simp only [bare]; apply p_qL (ops0 := #[]) rfl rfl rfl (Nat.le_of_ble_eq_true rfl); focus (intro w' hb; go_wp2_with fail; refine ⟨rfl, ?_, rfl⟩; simp only [List.getElem?_toArray, List.getElem?_cons_zero, List.getElem?_cons_succ, Option.some.injEq]; rfl))
          simp only [Act.put, List.setIfInBounds_toArray, List.set_cons_zero, List.set_cons_succ, Array.toArray_toList]
          apply p_qL (ops0 := #[]) rfl rfl rfl (Nat.le_of_ble_eq_true rfl)
          focus (intro w' hb; go_wp2_with fail; refine ⟨rfl, ?_, rfl⟩; simp only [List.getElem?_toArray, List.getElem?_cons_zero, List.getElem?_cons_succ, Option.some.injEq]; rfl)
          simp only [Act.put, List.setIfInBounds_toArray, List.set_cons_zero, List.set_cons_succ, Array.toArray_toList]
          apply p_q
          focus (intro w' hb; go_simp <;> rfl)
          simp only [Act.put, List.setIfInBounds_toArray, List.set_cons_zero, List.set_cons_succ, Array.toArray_toList]
          refine p_end ?_
          go_wp2
          go_ret
          exact ⟨rfl, below_next HB7.out Bw9⟩
  · have HO := Lib.hid hok
    clear hok
    cases hl : fewA xs 30
    all_goals
      have HF := Lib.hid hl
      clear hl
    · go_enter Tryd.func10, Tryd.ntmps10
      go_upto_region 4 with (first
        | (go_at_call 35; refine (law12_first _).mono ?_; rintro e w2 ⟨rfl, B2⟩)
        | (go_at_call 44; refine (law12_FewB30 false A n c xs HF.out _ (Kd.C_below HH.out B2)).mono ?_; rintro e w' ⟨rfl, rfl⟩))
      go_wp2_with (go_at_call 35; refine (law12_first _).mono ?_; rintro e w4 ⟨rfl, B4⟩)
      go_ret
      exact ⟨rfl, below_next B2 B4⟩
    · have hk : key.size < 1 ∨ 160 < key.size := by
        rcases Nat.lt_or_ge key.size 1 with h1 | h1
        · exact .inl h1
        · rcases Nat.lt_or_ge 160 key.size with h2 | h2
          · exact .inr h2
          · exact absurd ⟨HF.out, h1, h2⟩ HO.out
      rcases hk with hk | hk
      all_goals
        go_enter Tryd.func10, Tryd.ntmps10
        go_upto_region 4 with (first
          | (go_at_call 35; refine (law12_first _).mono ?_; rintro e w2 ⟨rfl, B2⟩)
          | (go_at_call 44; refine (law12_FewB30 true A n c xs HF.out _ (Kd.C_below HH.out B2)).mono ?_; rintro e w' ⟨rfl, rfl⟩))
        go_wp2_with (go_at_call 35; refine (law12_first _).mono ?_; rintro e w4 ⟨rfl, B4⟩)
        go_ret
        exact ⟨rfl, below_next B2 B4⟩
end Go.Proofs.YtlkjeneffohnkaaDoor
