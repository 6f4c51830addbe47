import Derived.Test.YtlkjeneffohnkaaDoorFst
import Derived.Test.YtlkjeneffohnkaaDoorRs
import Derived.Test.YtlkjeneffohnkaaDoorPf8
set_option linter.unusedVariables false
set_option linter.unusedSimpArgs false
namespace Go.Proofs.YtlkjeneffohnkaaDoor
open Go.RowKit Go.Proofs Go.Proofs.Plan Go.Proofs.YtlkjeneffohnkaaDoorW.PrintWords
theorem proof_ValueV (root : Bs) (r32 : root.size = 32) (p : Pf) (key v : Bs) (n : Int) (m : Nat) (hn : p.count = n) (hm : p.leaves.length = m) (A : Option Addr) (c : Nat) (w : World) (ht : Tab w) (hc : m ≤ c) (h : kLf.C w A m p.leaves) (hval : value root p key = some v) :
    Calls Tryd.prog 23 #[.agg (hv root), .agg #[.int .i64 n, .slice A m c], .string key] w fun e w' => e = .returned (.tuple #[.string v, .bool true]) ∧ Below w.heap.size w w' := by
  subst hn hm
  refine (proof_Value root r32 p key A c w ht hc h).mono fun e w' he => ?_
  rw [hval] at he; exact he
theorem proof_ValueN (root : Bs) (r32 : root.size = 32) (p : Pf) (key : Bs) (n : Int) (m : Nat) (hn : p.count = n) (hm : p.leaves.length = m) (A : Option Addr) (c : Nat) (w : World) (ht : Tab w) (hc : m ≤ c) (h : kLf.C w A m p.leaves) (hval : value root p key = none) :
    Calls Tryd.prog 23 #[.agg (hv root), .agg #[.int .i64 n, .slice A m c], .string key] w fun e w' => e = .returned (.tuple #[.string ByteArray.empty, .bool false]) ∧ Below w.heap.size w w' := by
  subst hn hm
  refine (proof_Value root r32 p key A c w ht hc h).mono fun e w' he => ?_
  rw [hval] at he; exact he
theorem proof_HasB (root : Bs) (r32 : root.size = 32) (p : Pf) (key val : Bs) (n : Int) (m : Nat) (hn : p.count = n) (hm : p.leaves.length = m) (A : Option Addr) (c : Nat) (w : World) (ht : Tab w) (hc : m ≤ c) (h : kLf.C w A m p.leaves) (b : Bool) (hb : has root p key val = b) :
    Calls Tryd.prog 25 #[.agg (hv root), .agg #[.int .i64 n, .slice A m c], .string key, .string val] w fun e w' => e = .returned (.bool b) ∧ Below w.heap.size w w' := by
  subst hn hm hb
  exact proof_Has root r32 p key val A c w ht hc h
theorem proof_LacksB (root : Bs) (r32 : root.size = 32) (p : Pf) (key : Bs) (n : Int) (m : Nat) (hn : p.count = n) (hm : p.leaves.length = m) (A : Option Addr) (c : Nat) (w : World) (ht : Tab w) (hc : m ≤ c) (h : kLf.C w A m p.leaves) (b : Bool) (hb : lacks root p key = b) :
    Calls Tryd.prog 27 #[.agg (hv root), .agg #[.int .i64 n, .slice A m c], .string key] w fun e w' => e = .returned (.bool b) ∧ Below w.heap.size w w' := by
  subst hn hm hb
  exact proof_Lacks root r32 p key A c w ht hc h
theorem proof_MayC (p : Pf) (n : Int) (m : Nat) (hn : p.count = n) (hm : p.leaves.length = m) (A : Option Addr) (c : Nat) (w : World) (hc : m ≤ c) (h : kLf.C w A m p.leaves) (b : Bool) (hb : mayPf p = b) :
    Calls Tryd.prog 30 #[.agg #[.int .i64 n, .slice A m c]] w fun e w' => e = .returned (.bool b) ∧ Below w.heap.size w w' := by
  subst hn hm hb
  exact proof_May p A c w hc h
theorem proof_MakeS (p : Pf) (ys : List Pr) (key : Bs) (hp : make ys key = p) (cnt : Int) (m : Nat) (hcn : p.count = cnt) (hm : p.leaves.length = m) (A : Option Addr) (n c : Nat) (w : World) (ht : Tab w) (hn : n ≤ 1073741824) (hc : n ≤ c) (h : kP.C w A n ys) :
    Calls Tryd.prog 21 #[.slice A n c, .string key] w fun e w' => ∃ A5 c5, e = .returned (.agg #[.int .i64 cnt, .slice A5 m c5]) ∧ m ≤ c5 ∧ kLf.C w' A5 m p.leaves ∧ Below w.heap.size w w' := by
  subst hp hcn hm
  refine (proof_Make key A n c ys w ht hn hc h).mono ?_
  rintro e w' ⟨A5, c5, he, h1, h2, h3, -⟩
  exact ⟨A5, c5, he, h1, h2, h3⟩
theorem keep_RiseS (xs ys : List Pr) (hy : rise xs = ys) (m : Nat) (hm : ys.length = m) (A : Option Addr) (n c : Nat) (w : World) (hn : n ≤ 1073741824) (h : kP.C w A n xs) :
    Calls Tryd.prog 29 #[.slice A n c] w fun e w' => ∃ A5 c5, e = .returned (.slice A5 m c5) ∧ m ≤ c5 ∧ kP.C w' A5 m ys ∧ Below w.heap.size w w' := by
  subst hy hm
  refine (keep_Rise A n c xs w hn h).mono ?_
  rintro e w' ⟨v, rfl, hr, hb⟩
  obtain ⟨A5, c5, rfl, hc5, C5⟩ := Kd.R_reads hr
  exact ⟨A5, c5, rfl, hc5, C5, hb⟩
theorem keep_OwnS (ys : List Pr) (A : Option Addr) (n c : Nat) (w : World) (hn : n ≤ 1073741824) (h : kP.C w A n ys) :
    Calls Tryd.prog 15 #[.slice A n c] w fun e w' => ∃ A5 c5, e = .returned (.slice A5 n c5) ∧ n ≤ c5 ∧ kP.C w' A5 n ys ∧ Below w.heap.size w w' := by
  refine (keep_Own A n c ys w hn h).mono ?_
  rintro e w' ⟨v, rfl, hr, hb⟩
  obtain ⟨A5, c5, rfl, hc5, C5⟩ := Kd.R_reads hr
  rw [h.1] at hc5 C5 ⊢
  exact ⟨A5, c5, rfl, hc5, C5, hb⟩
theorem proof_RootB (root : Bs) (xs : List Pr) (hr : rootOf xs = root) (A : Option Addr) (n c : Nat) (w : World) (hn : n ≤ 1073741824) (hsz : ∀ x ∈ xs, x.key.size ≤ 4294967296 ∧ x.val.size ≤ 4294967296) (ht : Tab w) (h : kP.C w A n xs) :
    Calls Tryd.prog 18 #[.slice A n c] w fun e w' => e = .returned (.agg (hv root)) ∧ Below w.heap.size w w' := by
  subst hr; exact proof_Root A n c xs w hn hsz ht h
/-- what the program says of a proof of a key that is there -/
theorem shows_has {l : List Pr} (hg : good l = true) (hn : l.length ≤ 1073741824) {k : Nat} (hk : k < l.length) :
    value (rootOf l) (make l (l.getD k dP).key) (l.getD k dP).key = some (l.getD k dP).val ∧ has (rootOf l) (make l (l.getD k dP).key) (l.getD k dP).key (l.getD k dP).val = true ∧
      has (rootOf l) (make l (l.getD k dP).key) (l.getD k dP).key ((l.getD k dP).val ++ ⟨#[120]⟩) = false ∧ lacks (rootOf l) (make l (l.getD k dP).key) (l.getD k dP).key = false ∧ mayPf (make l (l.getD k dP).key) = true := by
  have hr := rising_of_good hg
  have hp := place_of_key hr hk
  have hat : isAt l (place l (l.getD k dP).key) (l.getD k dP).key = true := by rw [hp]; simp [isAt, hk]
  obtain ⟨h1, h2⟩ := make_shows hg hn _ hat
  rw [hp] at h1
  refine ⟨h1, by unfold has; rw [h1]; simp, ?_, h2, make_may hg hn _⟩
  unfold has
  rw [h1]
  simp only [decide_eq_false_iff_not]
  intro e
  have := congrArg ByteArray.size e
  rw [ByteArray.size_append] at this
  have : (⟨#[120]⟩ : ByteArray).size = 1 := rfl
  omega
theorem good_sizes {ys : List Pr} (hg : good ys = true) : ∀ x ∈ ys, x.key.size ≤ 4294967296 ∧ x.val.size ≤ 4294967296 := fun x hx => by
  have := sized_of_good hg x hx
  simp only [sized, Bool.and_eq_true, decide_eq_true_eq] at this
  omega
set_option maxHeartbeats 4000000 in
set_option maxRecDepth 100000 in
theorem law_ProofShows (key : Bs) (A : Option Addr) (n c : Nat) (xs : List Pr) (w : World) (ht : Tab w) (hc : n ≤ c) (h : kP.C w A n xs) :
    Calls Tryd.prog 4 #[.slice A n c, .string key] w fun e w' => e = .returned (.bool true) ∧ Below w.heap.size w w' := by
  have HT := Lib.hid ht
  obtain ⟨m, hm⟩ : ∃ m, m = min n 41 := ⟨_, rfl⟩
  have emin : min (n : Int) 41 = (m : Int) := by omega
  have hmn : m ≤ n := by omega
  have hm41 : m ≤ 41 := by omega
  have hC1 := kP_take h hmn
  have ct := cut_take (P := Tryd.prog) 22 46 .i64 2 Tryd.underlying22 Tryd.info46 A n c m (by omega)
  obtain ⟨ys, hys⟩ : ∃ ys, rise (xs.take m) = ys := ⟨_, rfl⟩
  obtain ⟨nn, hnn⟩ : ∃ nn, ys.length = nn := ⟨_, rfl⟩
  have hg : good ys = true := by rw [← hys]; exact rise_good _
  have HX := Lib.hid hC1
  have HY := Lib.hid hys
  have HNN := Lib.hid hnn
  have HG := Lib.hid hg
  clear ht h hm hC1 hys hnn hg
  by_cases hok : light ys = true ∧ 1 ≤ key.size ∧ key.size ≤ 160
  · obtain ⟨hl, hk1, hk2⟩ := hok
    have hn40 : nn ≤ 40 := by
      simp only [light, Bool.and_eq_true, decide_eq_true_eq] at hl
      rw [← HNN.out]; exact hl.1
    have HL := Lib.hid hl
    clear hl
    obtain ⟨root, hroot⟩ : ∃ r, rootOf ys = r := ⟨_, rfl⟩
    have r32 : root.size = 32 := by rw [← hroot]; exact sha_size _
    have HR := Lib.hid hroot
    clear hroot
    go_enter Tryd.func4, Tryd.ntmps4
    go_upto_region 7 with (first
      | (go_at_call 12; refine (law7_first _ HT.out).mono ?_; rintro e w2 ⟨rfl, B2⟩)
      | (go_at_call 29; refine (keep_RiseS _ ys HY.out nn HNN.out A m c _ (by omega) (Kd.C_below HX.out B2)).mono ?_; rintro e w3 ⟨A3, c3, rfl, hc3, C3, hw3⟩; have B3 := below_next B2 hw3; have HC3 := Lib.hid C3; clear C3 hw3)
      | (go_at_call 13; refine (keep_LightPairsB true A3 nn c3 ys HL.out _ HC3.out).mono ?_; rintro e w' ⟨rfl, rfl⟩)
      | (go_at_call 15; refine (keep_OwnS ys A3 nn c3 _ (by omega) HC3.out).mono ?_; rintro e w4 ⟨A4, c4, rfl, hc4, C4, hw4⟩; have B4 := below_next B3 hw4; have HC4 := Lib.hid C4; have HC5 := Lib.hid (Kd.C_below HC3.out hw4); clear C4 HC3 hw4))
    go_upto_region 8 with (first
      | (go_at_call 18; refine (proof_RootB root ys HR.out A4 nn c4 _ (by omega) (good_sizes HG.out) (tab_below B4 HT.out) HC4.out).mono ?_; rintro e w5 ⟨rfl, hw5⟩; have B5 := below_next B4 hw5)
      | (refine l_storeH rfl rfl rfl rfl (there_block (heap_alloc_is _ _ _ rfl) 0 32 (Nat.le_refl _)) r32 Tryd.info24 ?_))
    refine wp_gen (fun w7 => Below w5.heap.size w5 w7 ∧ World.at_ w7 ⟨w5.heap.size, 0, none⟩ (YtlkjeneffohnkaaDoor.hc root)) ?_ ?_
    · exact ⟨below_setCells _ _ _ (below_alloc (Below.refl _ _) _) (Nat.le_refl _), at_range (World.rangeAt_setCells_same _ _ _ _ (by rw [hc_length r32]; exact there_block (heap_alloc_is _ _ _ rfl) 0 32 (Nat.le_refl _)))⟩
    rintro w7 ⟨hw7, rr⟩
    have B7 := below_next B5 hw7
    have D3 := Kd.C_below HC5.out (below_next hw5 hw7)
    have D4 := Kd.C_below HC4.out (below_next hw5 hw7)
    have HD3 := Lib.hid D3
    have HD4 := Lib.hid D4
    generalize w5.heap.size = gr at rr ⊢
    clear D3 D4 HC4 HC5 hw5 hw7 B5 B4 B3 B2
    go_wp2
    go_loopg [7, 8] nn (fun gg th i wr => ∃ k : Nat, k + gg = nn ∧ i = .int .i64 k ∧ th = .bool (anyKey ys key k) ∧ Below w7.heap.size w7 wr)
    case atStart => exact ⟨0, by omega, rfl, by rw [anyKey_zero], Below.refl _ _⟩
    case round =>
      obtain ⟨k, hk, rfl, rfl, hb⟩ := hrel
      by_cases hlt : k < nn
      · obtain ⟨ad, rfl, x0, x1⟩ := kP_at HD3.out k hlt
        have hkl : k < ys.length := by rw [HNN.out]; exact hlt
        obtain ⟨s1, s2, s3, s4, s5⟩ := shows_has HG.out (by rw [HNN.out]; omega) hkl
        have hsx := sized_of_good HG.out _ (getD_mem hkl)
        simp only [sized, Bool.and_eq_true, decide_eq_true_eq] at hsx
        have hany := anyKey_succ ys key hkl
        rw [HR.out] at s1 s2 s3 s4
        obtain ⟨x, hx⟩ : ∃ x, x = ys.getD k dP := ⟨_, rfl⟩
        rw [← hx] at x0 x1 s1 s2 s3 s4 s5 hsx hany
        have hvs : x.val.size ≤ 64 := hsx.2
        obtain ⟨p, hp⟩ : ∃ p, make ys x.key = p := ⟨_, rfl⟩
        have hpc : p.count = (nn : Int) := by rw [← hp, make_count HG.out, HNN.out]
        rw [hp] at s1 s2 s3 s4 s5
        obtain ⟨ml, hml⟩ : ∃ ml, p.leaves.length = ml := ⟨_, rfl⟩
        have e0 := cell_below hb x0
        have HS1 := Lib.hid s1
        have HS2 := Lib.hid s2
        have HS3 := Lib.hid s3
        have HS4 := Lib.hid s4
        have HS5 := Lib.hid s5
        have HP := Lib.hid hp
        have HPC := Lib.hid hpc
        have HML := Lib.hid hml
        have HA := Lib.hid hany
        clear hx s1 s2 s3 s4 s5 hsx hp hpc hml hany hkl
        go_upto_region 13 with (first
          | (go_at_call 21; refine (proof_MakeS p ys x.key HP.out nn ml HPC.out HML.out A4 nn c4 _ (tab_below (below_next B7 hb) HT.out) (by omega) hc4 (Kd.C_below HD4.out hb)).mono ?_; rintro e w8 ⟨A5, c5, rfl, hc5, C5, hw8⟩)
          | (refine l_storeS rfl rfl rfl rfl rfl (there_block (heap_alloc_is _ _ _ rfl) 0 2 (Nat.le_refl _)) Tryd.infoPf (one2 rfl rfl) ?_))
        refine wp_gen (fun w9 => Below w8.heap.size w8 w9 ∧ w9.rangeAt w8.heap.size 0 [.int .i64 nn, .slice A5 ml c5]) ?_ ?_
        · exact ⟨below_setCells _ _ _ (below_alloc (Below.refl _ _) _) (Nat.le_refl _), World.rangeAt_setCells_same _ _ _ _ (there_block (heap_alloc_is _ _ _ rfl) 0 2 (Nat.le_refl _))⟩
        rintro w9 ⟨hw9, q9⟩
        have b9 := below_next hb (below_next hw8 hw9)
        have C9 := Kd.C_below C5 hw9
        have HC9 := Lib.hid C9
        generalize w8.heap.size = gp at q9 ⊢
        clear C5 C9 hw8 hw9 e0
        have e0 := cell_below b9 x0
        have e1 := cell_below b9 x1
        have r9 := at_below b9 rr
        have iPf := Tryd.infoPf
        refine wp_num (fun w' => Below w9.heap.size w9 w') [0, 1, 2, 3, 4, 5, 6, 8, 9, 10, 11, 12] (.c (0, none, none) (.c (1, none, none) (.c (2, none, none) (.c (3, none, none) (.c (4, none, none) (.c (5, none, none) (.c (6, none, none) (.c (7, some true, none) (.c (8, none, none) (.c (9, none, none) (.c (10, none, none) (.c (11, none, none) (.c (12, none, none) (.nil)))))))))))))) (by kernel_rfl) (by kernel_rfl) (by kernel_rfl) (fun _ _ d _ _ h => by cases d <;> exact h) (by kernel_rfl) ((Below.refl _ _).drew) ?_
        simp only [selE, nthO]
        refine p_loadH rfl rfl (fun w' hb => at_below hb (by assumption)) (by assumption) Tryd.underlying24 Tryd.info24 ?_
        simp only [Act.put, List.setIfInBounds_toArray, List.set_cons_zero, List.set_cons_succ, Array.toArray_toList]
        refine p_load rfl rfl (fun w' hb => rangeAt_below hb (by assumption))  Tryd.underlying27 rfl (by first | assumption | (simp only [*]; done)) ?_
        simp only [Act.put, List.setIfInBounds_toArray, List.set_cons_zero, List.set_cons_succ, Array.toArray_toList]
        apply p_q
        focus (intro w' hb; go_simp <;> rfl)
        simp only [Act.put, List.setIfInBounds_toArray, List.set_cons_zero, List.set_cons_succ, Array.toArray_toList]
        apply p_q
        focus (intro w' hb; go_simp <;> rfl)
        simp only [Act.put, List.setIfInBounds_toArray, List.set_cons_zero, List.set_cons_succ, Array.toArray_toList]
        apply p_qL (ops0 := #[]) rfl rfl rfl (Nat.le_of_ble_eq_true rfl)
        focus (intro w' hb; go_wp2_with fail; refine ⟨rfl, ?_, rfl⟩; simp only [List.getElem?_toArray, List.getElem?_cons_zero, List.getElem?_cons_succ, Option.some.injEq]; rfl)
        simp only [Act.put, List.setIfInBounds_toArray, List.set_cons_zero, List.set_cons_succ, Array.toArray_toList]
        apply p_qL (ops0 := #[]) rfl rfl rfl (Nat.le_of_ble_eq_true rfl)
        focus (intro w' hb; go_wp2_with fail; refine ⟨rfl, ?_, rfl⟩; simp only [List.getElem?_toArray, List.getElem?_cons_zero, List.getElem?_cons_succ, Option.some.injEq]; rfl)
        simp only [Act.put, List.setIfInBounds_toArray, List.set_cons_zero, List.set_cons_succ, Array.toArray_toList]
        refine p_load1 rfl rfl (fun w' hb => cell_below hb (by assumption)) Tryd.underlying9 rfl ?_
        simp only [Act.put, List.setIfInBounds_toArray, List.set_cons_zero, List.set_cons_succ, Array.toArray_toList]
        refine p_list (ops := #[]) rfl ?_
        go_wp2_with fail
        refine (proof_ValueV root r32 p x.key x.val nn ml HPC.out HML.out A5 c5 _ (tab_below (below_next B7 (below_next b9 ((Below.refl w9.heap.size w9).drew))) HT.out) hc5 (Kd.C_below HC9.out ((Below.refl w9.heap.size w9).drew)) HS1.out).mono ?_
        rintro e w10 ⟨rfl, hw10⟩
        go_wp2_with fail
        have Bw10 : Below w9.heap.size w9 w10 := below_next ((Below.refl w9.heap.size w9).drew) hw10
        refine ⟨fun _ => Bw10, ?_⟩
        apply p_q
        focus (intro w' hb; go_simp <;> rfl)
        simp only [Act.put, List.setIfInBounds_toArray, List.set_cons_zero, List.set_cons_succ, Array.toArray_toList]
        apply p_q
        focus (intro w' hb; go_simp <;> rfl)
        simp only [Act.put, List.setIfInBounds_toArray, List.set_cons_zero, List.set_cons_succ, Array.toArray_toList]
        apply p_q
        focus (intro w' hb; go_simp <;> rfl)
        simp only [Act.put, List.setIfInBounds_toArray, List.set_cons_zero, List.set_cons_succ, Array.toArray_toList]
        apply p_q
        focus (intro w' hb; go_simp <;> rfl)
        simp only [Act.put, List.setIfInBounds_toArray, List.set_cons_zero, List.set_cons_succ, Array.toArray_toList]
        apply p_q
        focus (intro w' hb; go_simp <;> rfl)
        simp only [Act.put, List.setIfInBounds_toArray, List.set_cons_zero, List.set_cons_succ, Array.toArray_toList]
        refine p_end ?_
        go_upto_region 14 with (fail)
        refine wp_num (fun w' => Below w9.heap.size w9 w') [0, 1, 2, 3, 4, 5, 6, 7, 8, 9, 10, 11, 12, 13, 14, 15, 16, 17, 18, 19, 21, 22, 23, 24, 25, 26, 27, 28, 29, 30, 31, 32, 34, 35, 36, 37, 38, 39, 40, 41, 42, 44, 45, 46, 48, 49] (.c (0, none, none) (.c (1, none, none) (.c (2, none, none) (.c (3, none, some (67, false)) (.c (4, none, some (67, false)) (.c (5, none, some (67, false)) (.c (6, none, some (67, false)) (.c (7, none, some (67, false)) (.c (8, none, some (67, false)) (.c (9, none, some (67, false)) (.c (10, none, none) (.c (11, none, none) (.c (12, none, some (76, false)) (.c (13, none, some (76, false)) (.c (14, none, some (76, false)) (.c (15, none, some (76, false)) (.c (16, none, some (76, false)) (.c (17, none, some (76, false)) (.c (18, none, some (76, false)) (.c (19, none, some (76, false)) (.c (20, some true, some (76, false)) (.c (21, none, some (76, false)) (.c (22, none, none) (.c (23, none, none) (.c (24, none, some (88, false)) (.c (25, none, some (88, false)) (.c (26, none, some (88, false)) (.c (27, none, some (88, false)) (.c (28, none, some (88, false)) (.c (29, none, some (88, false)) (.c (30, none, some (88, false)) (.c (31, none, some (88, false)) (.c (32, none, some (88, false)) (.c (33, some true, some (88, false)) (.c (34, none, none) (.c (35, none, none) (.c (36, none, some (100, false)) (.c (37, none, some (100, false)) (.c (38, none, some (100, false)) (.c (39, none, some (100, false)) (.c (40, none, some (100, false)) (.c (41, none, some (100, false)) (.c (42, none, some (100, false)) (.c (43, some true, some (100, false)) (.c (44, none, none) (.c (45, none, none) (.c (46, none, some (110, false)) (.c (47, some true, some (110, false)) (.c (48, none, some (110, false)) (.c (49, none, none) (.nil))))))))))))))))))))))))))))))))))))))))))))))))))) (by kernel_rfl) (by kernel_rfl) (by kernel_rfl) (fun _ _ d _ _ h => by cases d <;> exact h) (by kernel_rfl) (Bw10.drew) ?_
        simp only [selE, nthO]
        apply p_q
        focus (intro w' hb; go_simp <;> rfl)
        simp only [Act.put, List.setIfInBounds_toArray, List.set_cons_zero, List.set_cons_succ, Array.toArray_toList]
        apply p_qL (ops0 := #[]) rfl rfl rfl (Nat.le_of_ble_eq_true rfl)
        focus (intro w' hb; go_wp2_with fail; refine ⟨rfl, ?_, rfl⟩; simp only [List.getElem?_toArray, List.getElem?_cons_zero, List.getElem?_cons_succ, Option.some.injEq]; rfl)
        simp only [Act.put, List.setIfInBounds_toArray, List.set_cons_zero, List.set_cons_succ, Array.toArray_toList]
        apply p_q
        focus (intro w' hb; go_simp <;> rfl)
        simp only [Act.put, List.setIfInBounds_toArray, List.set_cons_zero, List.set_cons_succ, Array.toArray_toList]
        first
        | refine p_skip rfl ?_
        | (refine p_go rfl ?_; simp only [bare]; apply p_q; focus (intro w' hb; go_simp <;> rfl))
        simp only [Act.put, List.setIfInBounds_toArray, List.set_cons_zero, List.set_cons_succ, Array.toArray_toList]
        first
        | refine p_skip rfl ?_
        | (refine p_go rfl ?_; simp only [bare]; apply p_q; focus (intro w' hb; go_simp <;> rfl))
        simp only [Act.put, List.setIfInBounds_toArray, List.set_cons_zero, List.set_cons_succ, Array.toArray_toList]
        first
        | refine p_skip rfl ?_
        | (refine p_go rfl ?_; simp only [bare]; apply p_q; focus (intro w' hb; go_simp <;> rfl))
        simp only [Act.put, List.setIfInBounds_toArray, List.set_cons_zero, List.set_cons_succ, Array.toArray_toList]
        first
        | refine p_skip rfl ?_
        | (refine p_go rfl ?_; simp only [bare]; apply p_qL (ops0 := #[]) rfl rfl rfl (Nat.le_of_ble_eq_true rfl); focus (intro w' hb; go_wp2_with fail; refine ⟨rfl, ?_, rfl⟩; simp only [List.getElem?_toArray, List.getElem?_cons_zero, List.getElem?_cons_succ, Option.some.injEq]; rfl))
        simp only [Act.put, List.setIfInBounds_toArray, List.set_cons_zero, List.set_cons_succ, Array.toArray_toList]
        first
        | refine p_skip rfl ?_
        | (refine p_go rfl ?_; simp only [bare]; apply p_qL (ops0 := #[]) rfl rfl rfl (Nat.le_of_ble_eq_true rfl); focus (intro w' hb; go_wp2_with fail; refine ⟨rfl, ?_, rfl⟩; simp only [List.getElem?_toArray, List.getElem?_cons_zero, List.getElem?_cons_succ, Option.some.injEq]; rfl))
        simp only [Act.put, List.setIfInBounds_toArray, List.set_cons_zero, List.set_cons_succ, Array.toArray_toList]
        first
        | refine p_skip rfl ?_
        | (refine p_go rfl ?_; simp only [bare]; refine p_load1 rfl rfl (fun w' hb => cell_below hb (by assumption)) Tryd.underlying9 rfl ?_)
        simp only [Act.put, List.setIfInBounds_toArray, List.set_cons_zero, List.set_cons_succ, Array.toArray_toList]
        first
        | refine p_skip rfl ?_
        | (refine p_go rfl ?_; simp only [bare]; apply p_qL (ops0 := #[]) rfl rfl rfl (Nat.le_of_ble_eq_true rfl); focus (intro w' hb; go_wp2_with fail; refine ⟨rfl, ?_, rfl⟩; simp only [List.getElem?_toArray, List.getElem?_cons_zero, List.getElem?_cons_succ, Option.some.injEq]; rfl))
        simp only [Act.put, List.setIfInBounds_toArray, List.set_cons_zero, List.set_cons_succ, Array.toArray_toList]
        apply p_qL (ops0 := #[]) rfl rfl rfl (Nat.le_of_ble_eq_true rfl)
        focus (intro w' hb; go_wp2_with fail; refine ⟨rfl, ?_, rfl⟩; simp only [List.getElem?_toArray, List.getElem?_cons_zero, List.getElem?_cons_succ, Option.some.injEq]; rfl)
        simp only [Act.put, List.setIfInBounds_toArray, List.set_cons_zero, List.set_cons_succ, Array.toArray_toList]
        apply p_q
        focus (intro w' hb; go_simp <;> rfl)
        simp only [Act.put, List.setIfInBounds_toArray, List.set_cons_zero, List.set_cons_succ, Array.toArray_toList]
        first
        | refine p_skip rfl ?_
        | (refine p_go rfl ?_; simp only [bare]; refine p_loadH rfl rfl (fun w' hb => at_below hb (by assumption)) (by assumption) Tryd.underlying24 Tryd.info24 ?_)
        simp only [Act.put, List.setIfInBounds_toArray, List.set_cons_zero, List.set_cons_succ, Array.toArray_toList]
        first
        | refine p_skip rfl ?_
        | (refine p_go rfl ?_; simp only [bare]; refine p_load rfl rfl (fun w' hb => rangeAt_below hb (by assumption))  Tryd.underlying27 rfl (by first | assumption | (simp only [*]; done)) ?_)
        simp only [Act.put, List.setIfInBounds_toArray, List.set_cons_zero, List.set_cons_succ, Array.toArray_toList]
        first
        | refine p_skip rfl ?_
        | (refine p_go rfl ?_; simp only [bare]; apply p_q; focus (intro w' hb; go_simp <;> rfl))
        simp only [Act.put, List.setIfInBounds_toArray, List.set_cons_zero, List.set_cons_succ, Array.toArray_toList]
        first
        | refine p_skip rfl ?_
        | (refine p_go rfl ?_; simp only [bare]; apply p_q; focus (intro w' hb; go_simp <;> rfl))
        simp only [Act.put, List.setIfInBounds_toArray, List.set_cons_zero, List.set_cons_succ, Array.toArray_toList]
        first
        | refine p_skip rfl ?_
        | (refine p_go rfl ?_; simp only [bare]; apply p_qL (ops0 := #[]) rfl rfl rfl (Nat.le_of_ble_eq_true rfl); focus (intro w' hb; go_wp2_with fail; refine ⟨rfl, ?_, rfl⟩; simp only [List.getElem?_toArray, List.getElem?_cons_zero, List.getElem?_cons_succ, Option.some.injEq]; rfl))
        simp only [Act.put, List.setIfInBounds_toArray, List.set_cons_zero, List.set_cons_succ, Array.toArray_toList]
        first
        | refine p_skip rfl ?_
        | (refine p_go rfl ?_; simp only [bare]; apply p_qL (ops0 := #[]) rfl rfl rfl (Nat.le_of_ble_eq_true rfl); focus (intro w' hb; go_wp2_with fail; refine ⟨rfl, ?_, rfl⟩; simp only [List.getElem?_toArray, List.getElem?_cons_zero, List.getElem?_cons_succ, Option.some.injEq]; rfl))
        simp only [Act.put, List.setIfInBounds_toArray, List.set_cons_zero, List.set_cons_succ, Array.toArray_toList]
        first
        | refine p_skip rfl ?_
        | (refine p_go rfl ?_; simp only [bare]; refine p_load1 rfl rfl (fun w' hb => cell_below hb (by assumption)) Tryd.underlying9 rfl ?_)
        simp only [Act.put, List.setIfInBounds_toArray, List.set_cons_zero, List.set_cons_succ, Array.toArray_toList]
        first
        | refine p_skip rfl ?_
        | (refine p_go rfl ?_; simp only [bare]; apply p_q; focus (intro w' hb; go_simp <;> rfl))
        simp only [Act.put, List.setIfInBounds_toArray, List.set_cons_zero, List.set_cons_succ, Array.toArray_toList]
        refine p_go rfl ?_
        simp only [bare]
        refine p_list (ops := #[]) rfl ?_
        go_wp2_with fail
        refine (proof_HasB root r32 p x.key x.val nn ml HPC.out HML.out A5 c5 _ (tab_below (below_next B7 (below_next b9 (Bw10.drew))) HT.out) hc5 (Kd.C_below HC9.out (Bw10.drew)) true HS2.out).mono ?_
        rintro e w11 ⟨rfl, hw11⟩
        go_wp2_with fail
        have Bw11 : Below w9.heap.size w9 w11 := below_next (Bw10.drew) hw11
        refine ⟨fun _ => Bw11, ?_⟩
        first
        | refine p_skip rfl ?_
        | (refine p_go rfl ?_; simp only [bare]; apply p_qL (ops0 := #[]) rfl rfl rfl (Nat.le_of_ble_eq_true rfl); focus (intro w' hb; go_wp2_with fail; refine ⟨rfl, ?_, rfl⟩; simp only [List.getElem?_toArray, List.getElem?_cons_zero, List.getElem?_cons_succ, Option.some.injEq]; rfl))
        simp only [Act.put, List.setIfInBounds_toArray, List.set_cons_zero, List.set_cons_succ, Array.toArray_toList]
        apply p_qL (ops0 := #[]) rfl rfl rfl (Nat.le_of_ble_eq_true rfl)
        focus (intro w' hb; go_wp2_with fail; refine ⟨rfl, ?_, rfl⟩; simp only [List.getElem?_toArray, List.getElem?_cons_zero, List.getElem?_cons_succ, Option.some.injEq]; rfl)
        simp only [Act.put, List.setIfInBounds_toArray, List.set_cons_zero, List.set_cons_succ, Array.toArray_toList]
        apply p_q
        focus (intro w' hb; go_simp <;> rfl)
        simp only [Act.put, List.setIfInBounds_toArray, List.set_cons_zero, List.set_cons_succ, Array.toArray_toList]
        first
        | refine p_skip rfl ?_
        | (refine p_go rfl ?_; simp only [bare]; refine p_loadH rfl rfl (fun w' hb => at_below hb (by assumption)) (by assumption) Tryd.underlying24 Tryd.info24 ?_)
        simp only [Act.put, List.setIfInBounds_toArray, List.set_cons_zero, List.set_cons_succ, Array.toArray_toList]
        first
        | refine p_skip rfl ?_
        | (refine p_go rfl ?_; simp only [bare]; refine p_load rfl rfl (fun w' hb => rangeAt_below hb (by assumption))  Tryd.underlying27 rfl (by first | assumption | (simp only [*]; done)) ?_)
        simp only [Act.put, List.setIfInBounds_toArray, List.set_cons_zero, List.set_cons_succ, Array.toArray_toList]
        first
        | refine p_skip rfl ?_
        | (refine p_go rfl ?_; simp only [bare]; apply p_q; focus (intro w' hb; go_simp <;> rfl))
        simp only [Act.put, List.setIfInBounds_toArray, List.set_cons_zero, List.set_cons_succ, Array.toArray_toList]
        first
        | refine p_skip rfl ?_
        | (refine p_go rfl ?_; simp only [bare]; apply p_q; focus (intro w' hb; go_simp <;> rfl))
        simp only [Act.put, List.setIfInBounds_toArray, List.set_cons_zero, List.set_cons_succ, Array.toArray_toList]
        first
        | refine p_skip rfl ?_
        | (refine p_go rfl ?_; simp only [bare]; apply p_qL (ops0 := #[]) rfl rfl rfl (Nat.le_of_ble_eq_true rfl); focus (intro w' hb; go_wp2_with fail; refine ⟨rfl, ?_, rfl⟩; simp only [List.getElem?_toArray, List.getElem?_cons_zero, List.getElem?_cons_succ, Option.some.injEq]; rfl))
        simp only [Act.put, List.setIfInBounds_toArray, List.set_cons_zero, List.set_cons_succ, Array.toArray_toList]
        first
        | refine p_skip rfl ?_
        | (refine p_go rfl ?_; simp only [bare]; apply p_qL (ops0 := #[]) rfl rfl rfl (Nat.le_of_ble_eq_true rfl); focus (intro w' hb; go_wp2_with fail; refine ⟨rfl, ?_, rfl⟩; simp only [List.getElem?_toArray, List.getElem?_cons_zero, List.getElem?_cons_succ, Option.some.injEq]; rfl))
        simp only [Act.put, List.setIfInBounds_toArray, List.set_cons_zero, List.set_cons_succ, Array.toArray_toList]
        first
        | refine p_skip rfl ?_
        | (refine p_go rfl ?_; simp only [bare]; refine p_load1 rfl rfl (fun w' hb => cell_below hb (by assumption)) Tryd.underlying9 rfl ?_)
        simp only [Act.put, List.setIfInBounds_toArray, List.set_cons_zero, List.set_cons_succ, Array.toArray_toList]
        first
        | refine p_skip rfl ?_
        | (refine p_go rfl ?_; simp only [bare]; apply p_q; focus (intro w' hb; go_simp <;> rfl))
        simp only [Act.put, List.setIfInBounds_toArray, List.set_cons_zero, List.set_cons_succ, Array.toArray_toList]
        first
        | refine p_skip rfl ?_
        | (refine p_go rfl ?_; simp only [bare]; apply p_qL (ops0 := #[]) rfl rfl rfl (Nat.le_of_ble_eq_true rfl); focus (intro w' hb; go_wp2_with fail; refine ⟨rfl, ?_, rfl⟩; simp only [List.getElem?_toArray, List.getElem?_cons_zero, List.getElem?_cons_succ, Option.some.injEq]; rfl))
        simp only [Act.put, List.setIfInBounds_toArray, List.set_cons_zero, List.set_cons_succ, Array.toArray_toList]
        refine p_go rfl ?_
        simp only [bare]
        refine p_list (ops := #[]) rfl ?_
        go_wp2_with fail
        have h3 := HS3.out
        have hcon := proof_HasB root r32 p x.key (x.val ++ ⟨#[120]⟩) nn ml HPC.out HML.out A5 c5 w11 (tab_below (below_next B7 (below_next b9 Bw11)) HT.out) hc5 (Kd.C_below HC9.out Bw11) false h3
        generalize x.val ++ (⟨#[120]⟩ : ByteArray) = vx at hcon ⊢
        refine hcon.mono ?_
        rintro e w12 ⟨rfl, hw12⟩
        clear hcon h3
        go_wp2_with fail
        have Bw12 := below_next Bw11 hw12
        refine ⟨fun _ => Bw12, ?_⟩
        apply p_qL (ops0 := #[]) rfl rfl rfl (Nat.le_of_ble_eq_true rfl)
        focus (intro w' hb; go_wp2_with fail; refine ⟨rfl, ?_, rfl⟩; simp only [List.getElem?_toArray, List.getElem?_cons_zero, List.getElem?_cons_succ, Option.some.injEq]; rfl)
        simp only [Act.put, List.setIfInBounds_toArray, List.set_cons_zero, List.set_cons_succ, Array.toArray_toList]
        apply p_q
        focus (intro w' hb; go_simp <;> rfl)
        simp only [Act.put, List.setIfInBounds_toArray, List.set_cons_zero, List.set_cons_succ, Array.toArray_toList]
        first
        | refine p_skip rfl ?_
        | (refine p_go rfl ?_; simp only [bare]; refine p_loadH rfl rfl (fun w' hb => at_below hb (by assumption)) (by assumption) Tryd.underlying24 Tryd.info24 ?_)
        simp only [Act.put, List.setIfInBounds_toArray, List.set_cons_zero, List.set_cons_succ, Array.toArray_toList]
        first
        | refine p_skip rfl ?_
        | (refine p_go rfl ?_; simp only [bare]; refine p_load rfl rfl (fun w' hb => rangeAt_below hb (by assumption))  Tryd.underlying27 rfl (by first | assumption | (simp only [*]; done)) ?_)
        simp only [Act.put, List.setIfInBounds_toArray, List.set_cons_zero, List.set_cons_succ, Array.toArray_toList]
        first
        | refine p_skip rfl ?_
        | (refine p_go rfl ?_; simp only [bare]; apply p_q; focus (intro w' hb; go_simp <;> rfl))
        simp only [Act.put, List.setIfInBounds_toArray, List.set_cons_zero, List.set_cons_succ, Array.toArray_toList]
        first
        | refine p_skip rfl ?_
        | (refine p_go rfl ?_; simp only [bare]; apply p_q; focus (intro w' hb; go_simp <;> rfl))
        simp only [Act.put, List.setIfInBounds_toArray, List.set_cons_zero, List.set_cons_succ, Array.toArray_toList]
        first
        | refine p_skip rfl ?_
        | (refine p_go rfl ?_; simp only [bare]; apply p_qL (ops0 := #[]) rfl rfl rfl (Nat.le_of_ble_eq_true rfl); focus (intro w' hb; go_wp2_with fail; refine ⟨rfl, ?_, rfl⟩; simp only [List.getElem?_toArray, List.getElem?_cons_zero, List.getElem?_cons_succ, Option.some.injEq]; rfl))
        simp only [Act.put, List.setIfInBounds_toArray, List.set_cons_zero, List.set_cons_succ, Array.toArray_toList]
        first
        | refine p_skip rfl ?_
        | (refine p_go rfl ?_; simp only [bare]; apply p_qL (ops0 := #[]) rfl rfl rfl (Nat.le_of_ble_eq_true rfl); focus (intro w' hb; go_wp2_with fail; refine ⟨rfl, ?_, rfl⟩; simp only [List.getElem?_toArray, List.getElem?_cons_zero, List.getElem?_cons_succ, Option.some.injEq]; rfl))
        simp only [Act.put, List.setIfInBounds_toArray, List.set_cons_zero, List.set_cons_succ, Array.toArray_toList]
        first
        | refine p_skip rfl ?_
        | (refine p_go rfl ?_; simp only [bare]; refine p_load1 rfl rfl (fun w' hb => cell_below hb (by assumption)) Tryd.underlying9 rfl ?_)
        simp only [Act.put, List.setIfInBounds_toArray, List.set_cons_zero, List.set_cons_succ, Array.toArray_toList]
        refine p_go rfl ?_
        simp only [bare]
        refine p_list (ops := #[]) rfl ?_
        go_wp2_with fail
        refine (proof_LacksB root r32 p x.key nn ml HPC.out HML.out A5 c5 _ (tab_below (below_next B7 (below_next b9 (Bw12))) HT.out) hc5 (Kd.C_below HC9.out (Bw12)) false HS4.out).mono ?_
        rintro e w13 ⟨rfl, hw13⟩
        go_wp2_with fail
        have Bw13 : Below w9.heap.size w9 w13 := below_next (Bw12) hw13
        refine ⟨fun _ => Bw13, ?_⟩
        apply p_qL (ops0 := #[]) rfl rfl rfl (Nat.le_of_ble_eq_true rfl)
        focus (intro w' hb; go_wp2_with fail; refine ⟨rfl, ?_, rfl⟩; simp only [List.getElem?_toArray, List.getElem?_cons_zero, List.getElem?_cons_succ, Option.some.injEq]; rfl)
        simp only [Act.put, List.setIfInBounds_toArray, List.set_cons_zero, List.set_cons_succ, Array.toArray_toList]
        apply p_q
        focus (intro w' hb; go_simp <;> rfl)
        simp only [Act.put, List.setIfInBounds_toArray, List.set_cons_zero, List.set_cons_succ, Array.toArray_toList]
        first
        | refine p_skip rfl ?_
        | (refine p_go rfl ?_; simp only [bare]; refine p_load rfl rfl (fun w' hb => rangeAt_below hb (by assumption))  Tryd.underlying27 rfl (by first | assumption | (simp only [*]; done)) ?_)
        simp only [Act.put, List.setIfInBounds_toArray, List.set_cons_zero, List.set_cons_succ, Array.toArray_toList]
        refine p_go rfl ?_
        simp only [bare]
        refine p_list (ops := #[]) rfl ?_
        go_wp2_with fail
        refine (proof_MayC p nn ml HPC.out HML.out A5 c5 _ hc5 (Kd.C_below HC9.out (Bw13)) true HS5.out).mono ?_
        rintro e w14 ⟨rfl, hw14⟩
        go_wp2_with fail
        have Bw14 : Below w9.heap.size w9 w14 := below_next (Bw13) hw14
        refine ⟨fun _ => Bw14, ?_⟩
        first
        | refine p_skip rfl ?_
        | (refine p_go rfl ?_; simp only [bare]; apply p_qL (ops0 := #[]) rfl rfl rfl (Nat.le_of_ble_eq_true rfl); focus (intro w' hb; go_wp2_with fail; refine ⟨rfl, ?_, rfl⟩; simp only [List.getElem?_toArray, List.getElem?_cons_zero, List.getElem?_cons_succ, Option.some.injEq]; rfl))
        simp only [Act.put, List.setIfInBounds_toArray, List.set_cons_zero, List.set_cons_succ, Array.toArray_toList]
        apply p_qL (ops0 := #[]) rfl rfl rfl (Nat.le_of_ble_eq_true rfl)
        focus (intro w' hb; go_wp2_with fail; refine ⟨rfl, ?_, rfl⟩; simp only [List.getElem?_toArray, List.getElem?_cons_zero, List.getElem?_cons_succ, Option.some.injEq]; rfl)
        simp only [Act.put, List.setIfInBounds_toArray, List.set_cons_zero, List.set_cons_succ, Array.toArray_toList]
        refine p_end ?_
        have b14 := below_next b9 Bw14
        have e0' := cell_below b14 x0
        clear e0 e1 r9 q9 iPf
        cases hth : anyKey ys key k <;> cases hkk : (x.key.toList == key.toList)
        all_goals
          have HTH := Lib.hid hth
          have HKK := Lib.hid hkk
          clear hth
          go_wp2
          go_roundg (gk - 1)
          case measure => omega
          case rel => exact ⟨k + 1, by omega, by go_num, by rw [HA.out, HTH.out, ← eq_toList, HKK.out]; rfl, b14⟩
      · have hkn : k = nn := by omega
        subst hkn
        have hat : isAt ys (place ys key) key = anyKey ys key k := by rw [isAt_any (rising_of_good HG.out), HNN.out]
        have hlen : ys.length ≤ 1073741824 := by rw [HNN.out]; omega
        have hmay := make_may HG.out hlen key
        obtain ⟨p, hp⟩ : ∃ p, make ys key = p := ⟨_, rfl⟩
        have hpc : p.count = (k : Int) := by rw [← hp, make_count HG.out, HNN.out]
        rw [hp] at hmay
        obtain ⟨ml, hml⟩ : ∃ ml, p.leaves.length = ml := ⟨_, rfl⟩
        have HP := Lib.hid hp
        have HPC := Lib.hid hpc
        have HML := Lib.hid hml
        have HM5 := Lib.hid hmay
        cases hb2 : anyKey ys key k
        · rw [hb2] at hat
          obtain ⟨v1, v2⟩ := make_lacks HG.out hlen key hat
          rw [HR.out, hp] at v1 v2
          have HV := Lib.hid v1
          have HL2 := Lib.hid v2
          have HB2 := Lib.hid hb2
          clear hat hlen hmay hp hpc hml hb2 v1 v2
          go_upto_region 18 with (first
            | (go_at_call 21; refine (proof_MakeS p ys key HP.out k ml HPC.out HML.out A4 k c4 _ (tab_below (below_next B7 hb) HT.out) (by omega) hc4 (Kd.C_below HD4.out hb)).mono ?_; rintro e w8 ⟨A5, c5, rfl, hc5, C5, hw8⟩)
            | (refine l_storeS rfl rfl rfl rfl rfl (there_block (heap_alloc_is _ _ _ rfl) 0 2 (Nat.le_refl _)) Tryd.infoPf (one2 rfl rfl) ?_))
          refine wp_gen (fun w9 => Below w8.heap.size w8 w9 ∧ World.at_ w9 ⟨w8.heap.size, 0, none⟩ [.int .i64 k, .slice A5 ml c5]) ?_ ?_
          · exact ⟨below_setCells _ _ _ (below_alloc (Below.refl _ _) _) (Nat.le_refl _), at_range (World.rangeAt_setCells_same _ _ _ _ (there_block (heap_alloc_is _ _ _ rfl) 0 2 (Nat.le_refl _)))⟩
          rintro w9 ⟨hw9, p9⟩
          have b9 := below_next hb (below_next hw8 hw9)
          have HC9 := Lib.hid (Kd.C_below C5 hw9)
          generalize w8.heap.size = gp at p9 ⊢
          clear C5 hw8 hw9
          have r9 := at_below b9 rr
          go_wp2_with (first
            | (refine l_loadH rfl rfl rfl r9 r32 Tryd.underlying24 Tryd.info24 ?_)
            | (refine l_load rfl rfl rfl p9 Tryd.underlying27 rfl Tryd.infoPf ?_)
            | (go_at_call 23; refine (proof_ValueN root r32 p key k ml HPC.out HML.out A5 c5 _ (tab_below (below_next B7 b9) HT.out) hc5 HC9.out HV.out).mono ?_; rintro e w10 ⟨rfl, hw10⟩; have r10 := at_below hw10 r9; have p10 := at_below hw10 p9)
            | (refine lg_loadH rfl rfl rfl r10 r32 Tryd.underlying24 Tryd.info24 ?_)
            | (refine lg_load rfl rfl rfl p10 Tryd.underlying27 rfl Tryd.infoPf ?_)
            | (go_at_call 27; refine (proof_LacksB root r32 p key k ml HPC.out HML.out A5 c5 _ (tab_below (below_next B7 (below_next b9 hw10)) HT.out) hc5 (Kd.C_below HC9.out hw10) true HL2.out).mono ?_; rintro e w11 ⟨rfl, hw11⟩; have p11 := at_below hw11 p10; have f11 : w11.cell? ⟨gp, 0, none⟩ = some (.int .i64 k) := at_cell p11 0 rfl)
            | (refine lg_load rfl rfl rfl p11 Tryd.underlying27 rfl Tryd.infoPf ?_)
            | (go_at_call 30; refine (proof_MayC p k ml HPC.out HML.out A5 c5 _ hc5 (Kd.C_below HC9.out (below_next hw10 hw11)) true HM5.out).mono ?_; rintro e w12 ⟨rfl, hw12⟩))
          go_ret
          exact ⟨rfl, below_next B7 (below_next b9 (below_next hw10 (below_next hw11 hw12)))⟩
        · rw [hb2] at hat
          obtain ⟨v1, v2⟩ := make_shows HG.out hlen key hat
          rw [HR.out, hp] at v1 v2
          obtain ⟨v, hv⟩ : ∃ v, v = (ys.getD (place ys key) dP).val := ⟨_, rfl⟩
          rw [← hv] at v1
          have HV := Lib.hid v1
          have HL2 := Lib.hid v2
          have HB2 := Lib.hid hb2
          clear hat hlen hmay hp hpc hml hb2 v1 v2 hv
          go_upto_region 18 with (first
            | (go_at_call 21; refine (proof_MakeS p ys key HP.out k ml HPC.out HML.out A4 k c4 _ (tab_below (below_next B7 hb) HT.out) (by omega) hc4 (Kd.C_below HD4.out hb)).mono ?_; rintro e w8 ⟨A5, c5, rfl, hc5, C5, hw8⟩)
            | (refine l_storeS rfl rfl rfl rfl rfl (there_block (heap_alloc_is _ _ _ rfl) 0 2 (Nat.le_refl _)) Tryd.infoPf (one2 rfl rfl) ?_))
          refine wp_gen (fun w9 => Below w8.heap.size w8 w9 ∧ World.at_ w9 ⟨w8.heap.size, 0, none⟩ [.int .i64 k, .slice A5 ml c5]) ?_ ?_
          · exact ⟨below_setCells _ _ _ (below_alloc (Below.refl _ _) _) (Nat.le_refl _), at_range (World.rangeAt_setCells_same _ _ _ _ (there_block (heap_alloc_is _ _ _ rfl) 0 2 (Nat.le_refl _)))⟩
          rintro w9 ⟨hw9, p9⟩
          have b9 := below_next hb (below_next hw8 hw9)
          have HC9 := Lib.hid (Kd.C_below C5 hw9)
          generalize w8.heap.size = gp at p9 ⊢
          clear C5 hw8 hw9
          have r9 := at_below b9 rr
          go_wp2_with (first
            | (refine l_loadH rfl rfl rfl r9 r32 Tryd.underlying24 Tryd.info24 ?_)
            | (refine l_load rfl rfl rfl p9 Tryd.underlying27 rfl Tryd.infoPf ?_)
            | (go_at_call 23; refine (proof_ValueV root r32 p key v k ml HPC.out HML.out A5 c5 _ (tab_below (below_next B7 b9) HT.out) hc5 HC9.out HV.out).mono ?_; rintro e w10 ⟨rfl, hw10⟩; have r10 := at_below hw10 r9; have p10 := at_below hw10 p9)
            | (refine lg_loadH rfl rfl rfl r10 r32 Tryd.underlying24 Tryd.info24 ?_)
            | (refine lg_load rfl rfl rfl p10 Tryd.underlying27 rfl Tryd.infoPf ?_)
            | (go_at_call 27; refine (proof_LacksB root r32 p key k ml HPC.out HML.out A5 c5 _ (tab_below (below_next B7 (below_next b9 hw10)) HT.out) hc5 (Kd.C_below HC9.out hw10) false HL2.out).mono ?_; rintro e w11 ⟨rfl, hw11⟩; have p11 := at_below hw11 p10; have f11 : w11.cell? ⟨gp, 0, none⟩ = some (.int .i64 k) := at_cell p11 0 rfl)
            | (refine lg_load rfl rfl rfl p11 Tryd.underlying27 rfl Tryd.infoPf ?_)
            | (go_at_call 30; refine (proof_MayC p k ml HPC.out HML.out A5 c5 _ hc5 (Kd.C_below HC9.out (below_next hw10 hw11)) true HM5.out).mono ?_; rintro e w12 ⟨rfl, hw12⟩))
          go_ret
          exact ⟨rfl, below_next B7 (below_next b9 (below_next hw10 (below_next hw11 hw12)))⟩
  · have HO := Lib.hid hok
    clear hok
    cases hl : light ys
    all_goals
      have HL := Lib.hid hl
      clear hl
    · go_enter Tryd.func4, Tryd.ntmps4
      go_upto_region 5 with (first
        | (go_at_call 12; refine (law7_first _ HT.out).mono ?_; rintro e w2 ⟨rfl, B2⟩)
        | (go_at_call 29; refine (keep_RiseS _ ys HY.out nn HNN.out A m c _ (by omega) (Kd.C_below HX.out B2)).mono ?_; rintro e w3 ⟨A3, c3, rfl, hc3, C3, hw3⟩; have B3 := below_next B2 hw3; have HC3 := Lib.hid C3; clear C3 hw3)
        | (go_at_call 13; refine (keep_LightPairsB false A3 nn c3 ys HL.out _ HC3.out).mono ?_; rintro e w' ⟨rfl, rfl⟩))
      go_wp2_with (go_at_call 12; refine (law7_first _ (tab_below B3 HT.out)).mono ?_; rintro e w4 ⟨rfl, B4⟩)
      go_ret
      exact ⟨rfl, below_next B3 B4⟩
    · have hk : key.size < 1 ∨ 160 < key.size := by
        rcases Nat.lt_or_ge key.size 1 with h1 | h1
        · exact .inl h1
        · rcases Nat.lt_or_ge 160 key.size with h2 | h2
          · exact .inr h2
          · exact absurd ⟨HL.out, h1, h2⟩ HO.out
      rcases hk with hk | hk
      all_goals
        go_enter Tryd.func4, Tryd.ntmps4
        go_upto_region 5 with (first
          | (go_at_call 12; refine (law7_first _ HT.out).mono ?_; rintro e w2 ⟨rfl, B2⟩)
          | (go_at_call 29; refine (keep_RiseS _ ys HY.out nn HNN.out A m c _ (by omega) (Kd.C_below HX.out B2)).mono ?_; rintro e w3 ⟨A3, c3, rfl, hc3, C3, hw3⟩; have B3 := below_next B2 hw3; have HC3 := Lib.hid C3; clear C3 hw3)
          | (go_at_call 13; refine (keep_LightPairsB true A3 nn c3 ys HL.out _ HC3.out).mono ?_; rintro e w' ⟨rfl, rfl⟩))
        go_wp2_with (go_at_call 12; refine (law7_first _ (tab_below B3 HT.out)).mono ?_; rintro e w4 ⟨rfl, B4⟩)
        go_ret
        exact ⟨rfl, below_next B3 B4⟩
end Go.Proofs.YtlkjeneffohnkaaDoor
