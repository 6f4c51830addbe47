import Derived.Test.YtlkjeneffohnkaaDoorSo6
set_option linter.unusedVariables false
set_option linter.unusedSimpArgs false
namespace Go.Proofs.YtlkjeneffohnkaaDoor
open Go.RowKit Go.Proofs Go.Proofs.Plan Go.Proofs.YtlkjeneffohnkaaDoorW.PrintWords
def OpPost (ys : List Pr) (base gs : Nat) (w : World) (v : Value) (res : Value) (e : Ending) (w' : World) : Prop :=
  ∃ v', e = .returned res ∧ Sto w' base gs v' ys ∧ Chg w w' gs v.ownBlock ∧ (v'.ownBlock = v.ownBlock ∨ ∃ b, v'.ownBlock = some b ∧ w.heap.size ≤ b)
def dropP (xs : List Pr) (key : Bs) : List Pr := if isAt xs (place xs key) key = true then xs.eraseIdx (place xs key) else xs
theorem dropP_good {xs : List Pr} (hg : good xs = true) (key : Bs) : good (dropP xs key) = true := by
  unfold dropP
  split
  · have hp := (rising_iff_pw xs).1 (rising_of_good hg)
    have hz := sized_of_good hg
    rw [good, Bool.and_eq_true, List.all_eq_true, rising_iff_pw]
    exact ⟨fun x hx => hz x (List.eraseIdx_subset hx), hp.sublist (List.eraseIdx_sublist _ _)⟩
  · exact hg
theorem setP_at {xs : List Pr} {key val : Bs} (h : isAt xs (place xs key) key = true) : setP xs key val = xs.set (place xs key) ⟨key, val⟩ := by
  have hl : place xs key < xs.length := by simp only [isAt, Bool.and_eq_true, decide_eq_true_eq] at h; exact h.1
  unfold setP
  rw [if_pos h, List.set_eq_take_append_cons_drop, if_pos hl, List.append_assoc]; rfl
theorem setP_new {xs : List Pr} {key val : Bs} (h : isAt xs (place xs key) key = false) : setP xs key val = xs.take (place xs key) ++ [⟨key, val⟩] ++ xs.drop (place xs key) := by
  unfold setP; rw [if_neg (by rw [h]; decide)]
theorem good_one (k v : Bs) : good [⟨k, v⟩] = sized k v := by simp [good, rising]
theorem row_range {w : World} {g t : Nat} {C : Array Value} {fr : Nat × Nat} (h : w.heap[g]? = some (.cells C t fr)) : w.rangeAt g 0 C.toList := fun j v hj => by
  rw [cell_of_row _ _ _ _ _ _ h]; simpa using hj
theorem R_setLow {α : Type} {d : Kd α} {e base g : Nat} {ok : Nat → Prop} {w : World} {x a b : Value} {xs : List α} (h : d.R e w base ok x xs) (hg : g < base) : d.R e (w.setCells g 0 [a, b]) base ok x xs :=
  Kd.R_mono (Kd.R_move (Kd.R_bound h) (fun k hk => by
    have hne : k ≠ g := by have := hk.2.1; omega
    exact (heap_setCell_other _ _ _ _ hne).trans (heap_setCell_other _ _ _ _ hne))) (fun _ hk => hk.1)
section
variable (base gs : Nat) (v : Value) (xs : List Pr) (w : World)
set_option maxHeartbeats 1000000 in
set_option maxRecDepth 100000 in
theorem store_Prove (key : Bs) (p : Pf) (hp : make xs key = p) (cnt : Int) (m : Nat) (hcn : p.count = cnt) (hm : p.leaves.length = m) (ht : Tab w) (h : Sto w base gs v xs) :
    Calls Tryd.prog 52 #[.pointer (some ⟨gs, 0, none⟩), .string key] w fun e w' => ∃ A5 c5, e = .returned (.agg #[.int .i64 cnt, .slice A5 m c5]) ∧ m ≤ c5 ∧ kLf.C w' A5 m p.leaves ∧ Below w.heap.size w w' := by
  obtain ⟨A, c, rfl, hc, hC⟩ := Kd.R_reads h.row
  have q := cell_block h.blk 0 (v := .slice A xs.length c) rfl
  have hfew := h.few
  have HP := Lib.hid hp
  have HCN := Lib.hid hcn
  have HM := Lib.hid hm
  have HT := Lib.hid ht
  have HC := Lib.hid hC
  have HCC := Lib.hid hc
  generalize xs.length = n at *
  clear h hC hp hcn hm ht hc
  go_enter Tryd.func52, Tryd.ntmps52
  go_upto_region 1 with (fail)
  refine wp_res 2 rfl ?_
  intro w1 B1 T1 Z1
  have q' := cell_below B1 q
  have HZ := Lib.hid Z1
  clear Z1 q
  have hcon := proof_Make key A n c xs w1 (tab_below B1 HT.out) (by omega) HCC.out (Kd.C_below HC.out B1)
  rw [HP.out] at hcon
  have HCON := Lib.hid hcon
  clear hcon
  go_wp2_with (first
    | (go_at_call 21; refine HCON.out.mono ?_; rintro e w2 ⟨A5, c5, rfl, hc5, -, hw2, R5⟩; rw [HCN.out, HM.out]; rw [HM.out] at hc5 R5; have HR5 := Lib.hid R5; clear R5)
    | (refine l_storeS rfl rfl rfl rfl rfl (there_below hw2 T1) Tryd.infoPf (one2 rfl rfl) ?_))
  have hs := below_setCells w.heap.size [.int .i64 cnt, .slice A5 m c5] 0 (below_next B1 hw2) (Nat.le_refl _)
  refine ret_row (cs := [.int .i64 cnt, .slice A5 m c5]) rfl rfl (World.rangeAt_setCells_same _ _ _ _ (there_below hw2 T1)) Tryd.underlying27 rfl Tryd.infoPf rfl ?_
  have hR := R_setLow (a := .int .i64 cnt) (b := .slice A5 m c5) HR5.out (show w.heap.size < w1.heap.size by have := HZ.out; omega)
  exact ⟨A5, c5, rfl, hc5, by have := (Kd.R_reads' hR).2.2; rwa [HM.out] at this, hs⟩
set_option maxHeartbeats 2000000 in
set_option maxRecDepth 100000 in
/-- a key and a value that may be -/
theorem store_Set (key val : Bs) (hz : sized key val = true) (hn : xs.length + 1 ≤ 1000000) (h : Sto w base gs v xs) :
    Calls Tryd.prog 37 #[.pointer (some ⟨gs, 0, none⟩), .string key, .string val] w (OpPost (setP xs key val) base gs w v (.int .i64 0)) := by
  have hsz := hz
  simp only [sized, Bool.and_eq_true, decide_eq_true_eq] at hsz
  have hks : key.size ≤ 281474976710656 := by omega
  have hvs : val.size ≤ 281474976710656 := by omega
  have hgs : gs < w.heap.size := (Array.getElem?_eq_some_iff.1 h.blk).1
  have hbase : base ≤ w.heap.size := by have := h.le; omega
  have hg1 : good [(⟨key, val⟩ : Pr)] = true := by rw [good_one]; exact hz
  obtain ⟨k, hk⟩ : ∃ k, k = place xs key := ⟨_, rfl⟩
  have hkn : k ≤ xs.length := by rw [hk]; exact place_le _ _
  have hlt : isAt xs k key = true → k < xs.length := fun ha => by simp only [isAt, Bool.and_eq_true, decide_eq_true_eq] at ha; exact ha.1
  have hsa : isAt xs k key = true → setP xs key val = xs.set k ⟨key, val⟩ := fun ha => by rw [hk] at ha ⊢; exact setP_at ha
  have hsn : isAt xs k key = false → setP xs key val = xs.take k ++ [⟨key, val⟩] ++ xs.drop k := fun ha => by rw [hk] at ha ⊢; exact setP_new ha
  have hfind := fun W (hW : Below w.heap.size w W) => store_find' base gs v xs W key (h.below hW)
  rw [← hk] at hfind
  have hgood := setP_good h.good hz
  have hfew : (setP xs key val).length ≤ 1000000 := by have := setP_length xs key val; omega
  have HGOOD := Lib.hid hgood
  have HFEW := Lib.hid hfew
  have HF := Lib.hid hfind
  have HG1 := Lib.hid hg1
  have H := Lib.hid h
  have HK := Lib.hid (And.intro hks hvs)
  have HSA := Lib.hid hsa
  have HSN := Lib.hid hsn
  have HLT := Lib.hid hlt
  clear hsz hgood hfew hfind hg1 h hz hk hks hvs hsa hsn hlt
  generalize isAt xs k key = b at *
  go_enter Tryd.func37, Tryd.ntmps37
  go_upto_region 2 with (first
    | (go_at_call 97; refine (strings_Clone' key _ HK.out.1).mono ?_; rintro e w2 ⟨rfl, hw2⟩)
    | (go_at_call 97; refine (strings_Clone' val _ HK.out.2).mono ?_; rintro e w3 ⟨rfl, hw3⟩)
    | (refine l_storeS rfl rfl rfl rfl rfl (there_block (heap_alloc_is _ _ _ rfl) 0 2 (Nat.le_refl _)) Tryd.info60 (one2 rfl rfl) ?_))
  refine wp_gen (fun w4 => Below w3.heap.size w3 w4 ∧ w4.heap[w3.heap.size]? = some (.cells #[.string key, .string val] 60 (0, 0))) ?_ ?_
  · exact ⟨below_setCells _ _ _ (below_alloc (Below.refl _ _) _) (Nat.le_refl _), block_set2 (heap_alloc_is _ _ _ rfl) _ _⟩
  rintro w4 ⟨hw4, hx⟩
  have B4 := below_next hw2 (below_next hw3 hw4)
  have hxl : w.heap.size ≤ w3.heap.size := Nat.le_trans hw2.size hw3.size
  generalize w3.heap.size = bx at hx hxl ⊢
  clear hw2 hw3 hw4
  have px : World.at_ w4 ⟨bx, 0, none⟩ [.string key, .string val] := row_at hx
  have hCl : kP.C (w4.alloc (.cells #[.string key, .string val] 60)) (some ⟨w4.heap.size, 0, none⟩) 1 [⟨key, val⟩] := C_block (i := 0) (by decide) rfl (heap_alloc_is _ _ _ rfl) rfl
  have HCL := Lib.hid hCl
  clear hCl
  go_upto_region 4 with (first
    | (refine l_load rfl rfl rfl px Tryd.underlying60 rfl Tryd.info60 ?_)
    | (refine l_lit1K rfl rfl rfl (show _ = 2 from rfl) (by decide) (by decide) (by decide) Tryd.underlying31 Tryd.infoP rfl ?_)
    | (go_at_call 17; refine (proof_GoodB true _ 1 1 [⟨key, val⟩] HG1.out _ (by decide) HCL.out).mono ?_; rintro e w5 ⟨rfl, hw5⟩))
  have B5 := below_next (below_alloc B4 _) hw5
  have hx5 : w5.heap[bx]? = some (.cells #[.string key, .string val] 60 (0, 0)) := block_below (below_next (below_alloc (Below.refl _ _) _) hw5) hx
  clear hw5 px hx
  go_upto_if 25 with (go_at_call 98; refine (HF.out _ B5).mono ?_; rintro e w6 ⟨rfl, hw6⟩; simp only [ptup])
  have B6 := below_next B5 hw6
  have hx6 := block_below hw6 hx5
  have h6 := H.out.below B6
  have H6 := Lib.hid h6
  have q6 := cell_block h6.blk 0 (v := v) rfl
  have hne := h6.ne
  have hrlt : ∀ k, v.ownBlock = some k → k < w.heap.size := Kd.R_lt H.out.row
  have hbxv : some bx ≠ v.ownBlock := fun e => by have := hrlt bx e.symm; omega
  clear hw6 hx5 B5 B4 h6 HF HCL HG1
  cases b
  · have hset := HSN.out rfl
    have HSET := Lib.hid hset
    have e1 : w6.cell? ⟨gs, 0, none⟩ = some v ∧ some (⟨gs, 0, none⟩ : Addr).block ≠ v.ownBlock := ⟨q6, hne⟩
    have e2 : w6.rangeAt bx 0 [.string key, .string val] ∧ some bx ≠ v.ownBlock := ⟨row_range hx6, hbxv⟩
    have i60 := Tryd.info60
    have HNE := Lib.hid hne
    have HRL := Lib.hid hrlt
    have HB := Lib.hid hbxv
    have HX := Lib.hid hx6
    clear hset q6 hx6 hne hrlt hbxv HSN HSA HLT
    go_upto_region 7 with (fail)
    refine wp_num (fun w' => w6.grownBy w' (v.ownBlock)) [0, 1, 2, 3, 4, 5, 6] (.c (0, none, none) (.c (1, none, none) (.c (2, none, none) (.c (3, none, none) (.c (4, none, none) (.c (5, none, none) (.c (6, none, none) (.c (7, some true, none) (.c (8, some true, none) (.c (9, some false, none) (.c (10, some false, none) (.c (11, some false, none) (.nil))))))))))))) (by kernel_rfl) (by kernel_rfl) (by kernel_rfl) (fun _ _ d _ _ h => by cases d <;> exact h) (by kernel_rfl) (grown_below (Below.refl _ _).drew _) ?_
    simp only [selE, nthO]
    apply p_q
    focus (intro w' hb; go_simp <;> rfl)
    simp only [Act.put, List.setIfInBounds_toArray, List.set_cons_zero, List.set_cons_succ, Array.toArray_toList]
    apply p_q
    focus (intro w' hb; go_simp <;> rfl)
    simp only [Act.put, List.setIfInBounds_toArray, List.set_cons_zero, List.set_cons_succ, Array.toArray_toList]
    apply p_q
    focus (intro w' hb; go_simp <;> rfl)
    simp only [Act.put, List.setIfInBounds_toArray, List.set_cons_zero, List.set_cons_succ, Array.toArray_toList]
    apply p_qL (ops0 := #[]) rfl rfl rfl (Nat.le_of_ble_eq_true rfl)
    focus (intro w' hb; go_wp2_with fail; refine ⟨rfl, ?_, rfl⟩; simp only [List.getElem?_toArray, List.getElem?_cons_zero, List.getElem?_cons_succ, Option.some.injEq]; rfl)
    simp only [Act.put, List.setIfInBounds_toArray, List.set_cons_zero, List.set_cons_succ, Array.toArray_toList]
    refine p_load1 rfl rfl (fun w' hb => Gh.cell hb (by assumption)) Tryd.underlying31 rfl ?_
    simp only [Act.put, List.setIfInBounds_toArray, List.set_cons_zero, List.set_cons_succ, Array.toArray_toList]
    apply p_q
    focus (intro w' hb; go_simp <;> rfl)
    simp only [Act.put, List.setIfInBounds_toArray, List.set_cons_zero, List.set_cons_succ, Array.toArray_toList]
    refine p_load rfl rfl (fun w' hb => Gh.range hb (by assumption))  Tryd.underlying60 rfl (by first | assumption | (simp only [*]; done)) ?_
    simp only [Act.put, List.setIfInBounds_toArray, List.set_cons_zero, List.set_cons_succ, Array.toArray_toList]
    refine p_list (ops := #[]) rfl ?_
    refine l_lit1K rfl rfl rfl (show _ = 2 from rfl) (by decide) (by decide) (by decide) Tryd.underlying31 Tryd.infoP rfl ?_
    have S1 : w6.grownBy (w6.drew.alloc (.cells #[.string key, .string val] 60)) v.ownBlock := Gh.alloc (grown_below (Below.refl _ _).drew _) _
    refine ⟨fun _ => S1, ?_⟩
    have hlit : (w6.drew.alloc (.cells #[.string key, .string val] 60)).heap[w6.heap.size]? = some (.cells #[.string key, .string val] 60 (0, 0)) := heap_alloc_is w6.drew _ _ rfl
    have R7 : kP.R 60 (w6.drew.alloc (.cells #[.string key, .string val] 60)) base yes v xs := Kd.R_alloc (Kd.R_drew H6.out.row) _
    have hlv : some w6.heap.size ≠ v.ownBlock := fun e => by have := HRL.out _ e.symm; have := B6.size; omega
    have hb7 : base ≤ (w6.drew.alloc (.cells #[.string key, .string val] 60)).heap.size := Nat.le_trans hbase (Nat.le_trans B6.size S1.size)
    have hgs7 : (w6.drew.alloc (.cells #[.string key, .string val] 60)).heap[gs]? = some (.cells #[v] 136 (0, 0)) := block_below (below_alloc (Below.refl _ _).drew _) H6.out.blk
    refine p_list (ops := #[]) rfl ?_
    go_wp2_with fail
    refine (slices_Insert xs ⟨key, val⟩ k _ rfl hkn v w6.heap.size base _ (by omega) R7 hlit hlv hb7).mono ?_
    rintro e w8 ⟨v8, rfl, R8, G8, O8⟩
    obtain ⟨A8, l8, c8, rfl⟩ : ∃ A l c, v8 = .slice A l c := by
      obtain ⟨A, c, h⟩ := Kd.R_slice R8
      exact ⟨A, _, c, h⟩
    go_wp2_with fail
    have S8 := grown_trans S1 G8
    have b8 : w8.heap[gs]? = some (.cells #[v] 136 (0, 0)) := (G8.block gs (Array.getElem?_eq_some_iff.1 hgs7).1 HNE.out).trans hgs7
    have f8 := cell_block b8 0 (v := v) rfl
    have z8 := frozen_block b8 0
    have hs67 : w6.heap.size ≤ (w6.drew.alloc (.cells #[.string key, .string val] 60)).heap.size := S1.size
    refine ⟨fun _ => S8, ?_⟩
    clear R7 hlit hlv hb7 hgs7 G8
    refine p_list (ops := #[]) rfl ?_
    go_wp2_with fail
    refine ⟨fun h => (by cases h), ?_⟩
    refine p_list (ops := #[]) rfl ?_
    go_wp2_with fail
    refine ⟨fun h => (by cases h), ?_⟩
    refine p_list (ops := #[]) rfl ?_
    go_wp2_with fail
    refine ⟨fun h => (by cases h), ?_⟩
    refine p_end ?_
    go_wp2
    go_ret
    refine ⟨.slice A8 l8 c8, rfl, ⟨H6.out.le, heap_setCell_same w8 gs 0 _ _ _ b8, ?_, HGOOD.out, HFEW.out⟩, ((Chg.of_below B6 gs v.ownBlock).trans (Chg.of_grown S8 gs)).set 0 _, ?_⟩
    · rw [HSET.out]; exact Kd.R_set R8 b8 pairE 0 _
    · rcases O8 with h | ⟨b, h1, h2⟩
      · exact .inl h
      · exact .inr ⟨b, h1, Nat.le_trans B6.size (Nat.le_trans hs67 h2)⟩
  · have hset := HSA.out rfl
    have hkl := HLT.out rfl
    have HSET := Lib.hid hset
    obtain ⟨g, cap, rfl, -, -, -⟩ := Kd.R_form H6.out.row (by omega)
    obtain ⟨hrl, hcap, hC⟩ := Kd.R_reads' H6.out.row
    obtain ⟨ad, had, hat⟩ := kP_get hC k hkl
    obtain rfl : (⟨g, 0, none⟩ : Addr) = ad := by injection had
    have e1 : w6.cell? ⟨gs, 0, none⟩ = some (.slice (some ⟨g, 0, none⟩) xs.length cap) ∧ some (⟨gs, 0, none⟩ : Addr).block ≠ some g := ⟨q6, hne⟩
    have e2 : w6.rangeAt bx 0 [.string key, .string val] ∧ some bx ≠ some g := ⟨row_range hx6, hbxv⟩
    have i60 := Tryd.info60
    have HAT := Lib.hid hat
    have HNN := Lib.hid hrl
    generalize hnn : xs.length = n at *
    have HN := Lib.hid hnn
    have HB6 := Lib.hid B6
    have HLE := Lib.hid (And.intro hgs (And.intro hbase (And.intro hn (And.intro hkn hxl))))
    clear hset hx6 hne hrlt hbxv HSN HSA HLT hrl hC had hat hcap hnn B6 hgs hbase hn hkn hxl HNN q6
    go_upto_region 6 with (fail)
    refine wp_num (fun w' => w6.grownBy w' (some g)) [0, 1, 2, 3, 4, 5, 6] (.c (0, none, none) (.c (1, none, none) (.c (2, none, none) (.c (3, none, none) (.c (4, none, none) (.c (5, none, none) (.c (6, none, none) (.c (7, some false, none) (.nil))))))))) (by kernel_rfl) (by kernel_rfl) (by kernel_rfl) (fun _ _ d _ _ h => by cases d <;> exact h) (by kernel_rfl) (grown_below (Below.refl _ _).drew _) ?_
    simp only [selE, nthO]
    apply p_q
    focus (intro w' hb; go_simp <;> rfl)
    simp only [Act.put, List.setIfInBounds_toArray, List.set_cons_zero, List.set_cons_succ, Array.toArray_toList]
    apply p_q
    focus (intro w' hb; go_simp <;> rfl)
    simp only [Act.put, List.setIfInBounds_toArray, List.set_cons_zero, List.set_cons_succ, Array.toArray_toList]
    apply p_qL (ops0 := #[]) rfl rfl rfl (Nat.le_of_ble_eq_true rfl)
    focus (intro w' hb; go_wp2_with fail; refine ⟨rfl, ?_, rfl⟩; simp only [List.getElem?_toArray, List.getElem?_cons_zero, List.getElem?_cons_succ, Option.some.injEq]; rfl)
    simp only [Act.put, List.setIfInBounds_toArray, List.set_cons_zero, List.set_cons_succ, Array.toArray_toList]
    refine p_load1 rfl rfl (fun w' hb => Gh.cell hb (by assumption)) Tryd.underlying31 rfl ?_
    simp only [Act.put, List.setIfInBounds_toArray, List.set_cons_zero, List.set_cons_succ, Array.toArray_toList]
    apply p_q
    focus (intro w' hb; go_simp <;> rfl)
    simp only [Act.put, List.setIfInBounds_toArray, List.set_cons_zero, List.set_cons_succ, Array.toArray_toList]
    refine p_load rfl rfl (fun w' hb => Gh.range hb (by assumption))  Tryd.underlying60 rfl (by first | assumption | (simp only [*]; done)) ?_
    simp only [Act.put, List.setIfInBounds_toArray, List.set_cons_zero, List.set_cons_succ, Array.toArray_toList]
    apply p_qL (ops0 := #[]) rfl rfl rfl (Nat.le_of_ble_eq_true rfl)
    focus (intro w' hb; go_wp2_with fail; refine ⟨rfl, ?_, rfl⟩; simp only [List.getElem?_toArray, List.getElem?_cons_zero, List.getElem?_cons_succ, Option.some.injEq]; rfl)
    simp only [Act.put, List.setIfInBounds_toArray, List.set_cons_zero, List.set_cons_succ, Array.toArray_toList]
    refine p_list (ops := #[]) rfl ?_
    have hlen : 0 + [Value.string key, Value.string val].length ≤ kP.sz := Nat.le_refl 2
    have hcc : ∀ j u, (pc (xs.getD k dP))[j]? = some u → w6.drew.cell? ⟨g, (k : Int).toNat * kP.sz + j, none⟩ = some u := fun j u hj => by
      have := HAT.out j u hj
      rw [add_plain, add_at] at this
      exact this
    refine Kd.R_store kP (w0 := w6) base rfl rfl 60 _ _ rfl 60 (g := g) (n := n) (cap := cap) (k : Int) 0 xs ⟨key, val⟩ _ [.string key, .string val] (pc (xs.getD k dP)) yes (fun _ => False) rfl (by simp [kP]) rfl rfl i60 (by simp [Value.oneCell']) (Kd.R_drew H6.out.row) (Int.natCast_nonneg _) (by omega) rfl hcc hlen rfl (fun _ h => h.elim) (Below.refl base w6).drew ?_
    intro w7 R7 B7 G7
    go_wp2_with fail
    refine ⟨fun h => (by cases h), ?_⟩
    refine p_end ?_
    go_wp2
    go_ret
    have HB := HB6.out
    have b7 : w7.heap[gs]? = some (.cells #[.slice (some ⟨g, 0, none⟩) n cap] 136 (0, 0)) := (G7.block gs (Array.getElem?_eq_some_iff.1 H6.out.blk).1 e1.2).trans H6.out.blk
    refine ⟨.slice (some ⟨g, 0, none⟩) n cap, rfl, ⟨H6.out.le, b7, ?_, HGOOD.out, HFEW.out⟩, (Chg.of_below HB gs _).trans (Chg.of_grown (grown_trans (grown_below (Below.refl _ _).drew _) G7) gs), .inl rfl⟩
    rw [HSET.out]
    exact R7
end
set_option maxHeartbeats 1000000 in
set_option maxRecDepth 100000 in
/-- a key and a value that may not be -/
theorem store_SetErr (key val : Bs) (hz : sized key val = false) (hks : key.size ≤ 281474976710656) (hvs : val.size ≤ 281474976710656) (gs : Nat) (w : World) :
    Calls Tryd.prog 37 #[.pointer (some ⟨gs, 0, none⟩), .string key, .string val] w fun e w' => e = .returned (.int .i64 1) ∧ Below w.heap.size w w' := by
  have hg1 : good [(⟨key, val⟩ : Pr)] = false := by rw [good_one]; exact hz
  have HG1 := Lib.hid hg1
  have HK := Lib.hid (And.intro hks hvs)
  clear hg1 hz hks hvs
  go_enter Tryd.func37, Tryd.ntmps37
  go_upto_region 2 with (first
    | (go_at_call 97; refine (strings_Clone' key _ HK.out.1).mono ?_; rintro e w2 ⟨rfl, hw2⟩)
    | (go_at_call 97; refine (strings_Clone' val _ HK.out.2).mono ?_; rintro e w3 ⟨rfl, hw3⟩)
    | (refine l_storeS rfl rfl rfl rfl rfl (there_block (heap_alloc_is _ _ _ rfl) 0 2 (Nat.le_refl _)) Tryd.info60 (one2 rfl rfl) ?_))
  refine wp_gen (fun w4 => Below w3.heap.size w3 w4 ∧ w4.heap[w3.heap.size]? = some (.cells #[.string key, .string val] 60 (0, 0))) ?_ ?_
  · exact ⟨below_setCells _ _ _ (below_alloc (Below.refl _ _) _) (Nat.le_refl _), block_set2 (heap_alloc_is _ _ _ rfl) _ _⟩
  rintro w4 ⟨hw4, hx⟩
  have B4 := below_next hw2 (below_next hw3 hw4)
  generalize w3.heap.size = bx at hx ⊢
  clear hw2 hw3 hw4
  have px : World.at_ w4 ⟨bx, 0, none⟩ [.string key, .string val] := row_at hx
  have hCl : kP.C (w4.alloc (.cells #[.string key, .string val] 60)) (some ⟨w4.heap.size, 0, none⟩) 1 [⟨key, val⟩] := C_block (i := 0) (by decide) rfl (heap_alloc_is _ _ _ rfl) rfl
  have HCL := Lib.hid hCl
  clear hCl
  go_wp2_with (first
    | (refine l_load rfl rfl rfl px Tryd.underlying60 rfl Tryd.info60 ?_)
    | (refine l_lit1K rfl rfl rfl (show _ = 2 from rfl) (by decide) (by decide) (by decide) Tryd.underlying31 Tryd.infoP rfl ?_)
    | (go_at_call 17; refine (proof_GoodB false _ 1 1 [⟨key, val⟩] HG1.out _ (by decide) HCL.out).mono ?_; rintro e w5 ⟨rfl, hw5⟩))
  go_ret
  exact ⟨rfl, below_next (below_alloc B4 _) hw5⟩
def setR (xs : List Pr) (key val : Bs) : List Pr := if sized key val = true then setP xs key val else xs
def setN (key val : Bs) : Int := if sized key val = true then 0 else 1
theorem setR_good {xs : List Pr} (hg : good xs = true) (key val : Bs) : good (setR xs key val) = true := by
  unfold setR
  split
  · exact setP_good hg (by assumption)
  · exact hg
theorem setR_length (xs : List Pr) (key val : Bs) : (setR xs key val).length ≤ xs.length + 1 := by
  unfold setR
  split
  · have := setP_length xs key val; omega
  · omega
theorem store_SetAny (base gs : Nat) (v : Value) (xs : List Pr) (w : World) (key val : Bs) (hks : key.size ≤ 281474976710656) (hvs : val.size ≤ 281474976710656) (hn : xs.length + 1 ≤ 1000000) (h : Sto w base gs v xs) :
    Calls Tryd.prog 37 #[.pointer (some ⟨gs, 0, none⟩), .string key, .string val] w (OpPost (setR xs key val) base gs w v (.int .i64 (setN key val))) := by
  cases hz : sized key val
  · refine (store_SetErr key val hz hks hvs gs w).mono ?_
    rintro e w' ⟨rfl, hb⟩
    refine ⟨v, by simp [setN, hz], ?_, Chg.of_below hb gs _, .inl rfl⟩
    simpa [setR, hz] using h.below hb
  · have := store_Set base gs v xs w key val hz hn h
    simpa [setR, setN, hz] using this
theorem form_of {e base : Nat} {ok : Nat → Prop} {w : World} {v : Value} {xs : List Pr} (h : kP.R e w base ok v xs) : ∃ A l c, v = .slice A l c := by
  obtain ⟨A, c, h⟩ := Kd.R_slice h
  exact ⟨A, _, c, h⟩
theorem dropP_length (xs : List Pr) (key : Bs) : (dropP xs key).length ≤ xs.length := by
  unfold dropP
  split
  · rw [List.length_eraseIdx]; split <;> omega
  · omega
section
variable (base gs : Nat) (v : Value) (xs : List Pr) (w : World)
set_option maxHeartbeats 2000000 in
set_option maxRecDepth 100000 in
theorem store_Drop (key : Bs) (h : Sto w base gs v xs) :
    Calls Tryd.prog 40 #[.pointer (some ⟨gs, 0, none⟩), .string key] w (OpPost (dropP xs key) base gs w v (.bool (isAt xs (place xs key) key))) := by
  have hbase : base ≤ w.heap.size := by have := h.le; have := (Array.getElem?_eq_some_iff.1 h.blk).1; omega
  have hgood := dropP_good h.good key
  have hfew : (dropP xs key).length ≤ 1000000 := by have := dropP_length xs key; have := h.few; omega
  have hlt : isAt xs (place xs key) key = true → place xs key < xs.length := fun ha => by simp only [isAt, Bool.and_eq_true, decide_eq_true_eq] at ha; exact ha.1
  have hda : isAt xs (place xs key) key = true → dropP xs key = xs.eraseIdx (place xs key) := fun ha => by unfold dropP; rw [if_pos ha]
  have hdn : isAt xs (place xs key) key = false → dropP xs key = xs := fun ha => by unfold dropP; rw [if_neg (by rw [ha]; decide)]
  have hfind := store_find' base gs v xs w key h
  generalize place xs key = k at *
  generalize isAt xs k key = b at *
  have HGOOD := Lib.hid hgood
  have HFEW := Lib.hid hfew
  have HF := Lib.hid hfind
  have H := Lib.hid h
  have HDA := Lib.hid hda
  have HDN := Lib.hid hdn
  have HLT := Lib.hid hlt
  have HBASE := Lib.hid hbase
  clear hgood hfew hfind h hda hdn hlt hbase
  cases b
  · have he := HDN.out rfl
    have HE := Lib.hid he
    clear he
    go_enter Tryd.func40, Tryd.ntmps40
    go_wp2_with (go_at_call 98; refine HF.out.mono ?_; rintro e w6 ⟨rfl, hw6⟩; simp only [ptup])
    go_ret
    refine ⟨v, rfl, ?_, Chg.of_below hw6 gs _, .inl rfl⟩
    rw [HE.out]; exact H.out.below hw6
  · have hkl := HLT.out rfl
    have hed := HDA.out rfl
    have HE := Lib.hid hed
    clear hed HDA HDN HLT
    go_enter Tryd.func40, Tryd.ntmps40
    go_upto_region 2 with (go_at_call 98; refine HF.out.mono ?_; rintro e w6 ⟨rfl, hw6⟩; simp only [ptup])
    have h6 := H.out.below hw6
    have q6 := cell_block h6.blk 0 (v := v) rfl
    have hfew := h6.few
    obtain ⟨A, c, rfl⟩ : ∃ A c, v = .slice A xs.length c := by
      obtain ⟨A, c, h⟩ := Kd.R_slice h6.row
      exact ⟨A, c, h⟩
    have H6 := Lib.hid h6
    have HW6 := Lib.hid hw6
    generalize hnn : xs.length = n at *
    have HN := Lib.hid hnn
    clear h6 hw6 hnn HF
    have hkn : k + 1 ≤ 1000000 := by omega
    have HFW : Hid (n ≤ 1048576) := Lib.hid (by omega)
    clear hfew
    have hnb : n ≤ 1048576 := HFW.out
    have hcon := slices_Delete xs k n HN.out hkl (.slice A n c) base w6 hnb H6.out.row (Nat.le_trans HBASE.out HW6.out.size)
    have HCON := Lib.hid hcon
    clear hcon hnb
    go_wp2_with (go_at_call 101; refine HCON.out.mono ?_; rintro e w8 ⟨v8, rfl, R8, G8, O8⟩; obtain ⟨A8, l8, c8, rfl⟩ := form_of R8; have b8 : w8.heap[gs]? = some (.cells #[.slice A n c] 136 (0, 0)) := (G8.block gs (Array.getElem?_eq_some_iff.1 H6.out.blk).1 H6.out.ne).trans H6.out.blk; have f8 := cell_block b8 0 (v := .slice A n c) rfl; have z8 := frozen_block b8 0; have HR8 := Lib.hid R8; have HG8 := Lib.hid G8; have HO8 := Lib.hid O8; have HB8 := Lib.hid b8; clear R8 G8 O8 b8)
    go_ret
    refine ⟨.slice A8 l8 c8, rfl, ⟨H6.out.le, heap_setCell_same w8 gs 0 _ _ _ HB8.out, ?_, HGOOD.out, HFEW.out⟩, ((Chg.of_below HW6.out gs _).trans (Chg.of_grown HG8.out gs)).set 0 _, ?_⟩
    · rw [HE.out]; exact Kd.R_set HR8.out HB8.out pairE 0 _
    · rcases HO8.out with h | ⟨b, h1, h2⟩
      · exact .inl h
      · exact .inr ⟨b, h1, Nat.le_trans HW6.out.size h2⟩
end
end Go.Proofs.YtlkjeneffohnkaaDoor
