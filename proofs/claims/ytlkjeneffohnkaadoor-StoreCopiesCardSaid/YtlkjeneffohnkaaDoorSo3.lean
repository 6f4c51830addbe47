import Derived.Test.YtlkjeneffohnkaaDoorSo2
set_option linter.unusedVariables false
set_option linter.unusedSimpArgs false
namespace Go.Proofs.YtlkjeneffohnkaaDoor
open Go.RowKit Go.Proofs Go.Proofs.Plan Go.Proofs.YtlkjeneffohnkaaDoorW.PrintWords
theorem ins_room {cur : List Value} {xs : List Pr} {p : Pr} {i n cap : Nat} (hl : xs.length = n) (hi : i < n) (hcap : n + 1 ≤ cap) (hs : cur.length = cap * 2) (ht : cur.take (n * 2) = flat xs) {c1 c2 : List Value}
    (h1 : c1 = cur.take ((i + 1) * 2) ++ flat (xs.drop i) ++ cur.drop ((i + 1) * 2 + (flat (xs.drop i)).length)) (h2 : c2 = c1.take (i * 2) ++ pc p ++ c1.drop (i * 2 + (pc p).length)) :
    c1.length = cap * 2 ∧ c2.length = cap * 2 ∧ c2.take ((n + 1) * 2) = flat (xs.take i ++ [p] ++ xs.drop i) := by
  have hfd : (flat (xs.drop i)).length = (n - i) * 2 := by rw [flat_length, List.length_drop, hl]
  have hpl : (pc p).length = 2 := rfl
  have t1 : (cur.take ((i + 1) * 2)).length = (i + 1) * 2 := by rw [List.length_take]; omega
  have l1 : c1.length = cap * 2 := by rw [h1]; simp only [List.length_append, t1, hfd, List.length_drop]; omega
  have e1 : c1.take (i * 2) = flat (xs.take i) := by
    rw [h1, List.append_assoc, List.take_append_of_le_length (by rw [t1]; omega), List.take_take, Nat.min_eq_left (by omega), ← flat_take xs i (by omega), ← ht, List.take_take, Nat.min_eq_left (by omega)]
  have e2 : c1.drop (i * 2 + (pc p).length) = flat (xs.drop i) ++ cur.drop ((i + 1) * 2 + (flat (xs.drop i)).length) := by
    rw [hpl, show i * 2 + 2 = (cur.take ((i + 1) * 2)).length by rw [t1]; omega, h1, List.append_assoc, List.drop_left]
  have ft : (flat (xs.take i)).length = i * 2 := by rw [flat_length, List.length_take]; omega
  refine ⟨l1, ?_, ?_⟩
  · rw [h2, e1, e2]; simp only [List.length_append, ft, hpl, hfd, List.length_drop]; omega
  · rw [h2, e1, e2, flat_append, flat_append, ← List.append_assoc]
    have : (flat (xs.take i) ++ pc p ++ flat (xs.drop i)).length = (n + 1) * 2 := by simp only [List.length_append, ft, hpl, hfd]; omega
    rw [← this, List.take_left]
    simp [flat]
theorem ins_grow {rest : List Value} {xs : List Pr} {p : Pr} {i n G : Nat} (hl : xs.length = n) (hi : i < n) (hG : n + 1 ≤ G) {c0 c1 c2 : List Value} (h0 : c0 = flat (xs.take i) ++ rest) (hs : c0.length = G * 2)
    (h1 : c1 = c0.take (i * 2) ++ pc p ++ c0.drop (i * 2 + (pc p).length)) (h2 : c2 = c1.take ((i + 1) * 2) ++ flat (xs.drop i) ++ c1.drop ((i + 1) * 2 + (flat (xs.drop i)).length)) :
    c1.length = G * 2 ∧ c2.length = G * 2 ∧ c2.take ((n + 1) * 2) = flat (xs.take i ++ [p] ++ xs.drop i) := by
  have hfd : (flat (xs.drop i)).length = (n - i) * 2 := by rw [flat_length, List.length_drop, hl]
  have hpl : (pc p).length = 2 := rfl
  have ft : (flat (xs.take i)).length = i * 2 := by rw [flat_length, List.length_take]; omega
  have e0 : c0.take (i * 2) = flat (xs.take i) := by rw [h0, ← ft, List.take_left]
  have l1 : c1.length = G * 2 := by rw [h1]; simp only [List.length_append, e0, ft, hpl, List.length_drop, hs]; omega
  have e1 : c1.take ((i + 1) * 2) = flat (xs.take i) ++ pc p := by
    rw [h1, e0]
    have : (flat (xs.take i) ++ pc p).length = (i + 1) * 2 := by simp only [List.length_append, ft, hpl]; omega
    rw [← this, List.take_left]
  refine ⟨l1, ?_, ?_⟩
  · rw [h2, e1]; simp only [List.length_append, ft, hpl, hfd, List.length_drop, l1]; omega
  · rw [h2, e1, flat_append, flat_append]
    have : (flat (xs.take i) ++ pc p ++ flat (xs.drop i)).length = (n + 1) * 2 := by simp only [List.length_append, ft, hpl, hfd]; omega
    rw [← this, List.take_left]
    simp [flat]
/-- the row that Insert returns -/
def InsPost (xs : List Pr) (base : Nat) (w : World) (v : Value) (e : Ending) (w' : World) : Prop :=
  ∃ v', e = .returned v' ∧ kP.R 60 w' base yes v' xs ∧ w.grownBy w' v.ownBlock ∧ (v'.ownBlock = v.ownBlock ∨ ∃ b, v'.ownBlock = some b ∧ w.heap.size ≤ b)
set_option maxHeartbeats 1000000 in
set_option maxRecDepth 100000 in
theorem Insert_end (xs : List Pr) (p : Pr) (n : Nat) (hl : xs.length = n) (A : Option Addr) (c x base : Nat) (w : World) (hn : n ≤ 1048576) (hR : kP.R 60 w base yes (.slice A n c) xs)
    (hx : w.heap[x]? = some (.cells #[.string p.key, .string p.val] 60 (0, 0))) (hbase : base ≤ w.heap.size) :
    Calls Tryd.prog 99 #[.slice A n c, .int .i64 n, .slice (some ⟨x, 0, none⟩) 1 1] w (InsPost (xs ++ [p]) base w (.slice A n c)) := by
  have hC : kP.C w (some ⟨x, 0, none⟩) 1 [p] := C_block (i := 0) (by decide) rfl hx rfl
  obtain ⟨A2, cd, _⟩ := cut_drop (P := Tryd.prog) 31 60 .i64 2 Tryd.underlying31 Tryd.info60 A n c n (Nat.le_refl _)
  have hs : (xs.length + 1) * 32 ≤ 140737488355328 := by rw [hl]; omega
  have HS := Lib.hid hs
  have HR := Lib.hid hR
  have HC := Lib.hid hC
  have HB := Lib.hid hbase
  clear hs hR hC hl hbase hx
  go_enter Tryd.func99, Tryd.ntmps99
  go_wp2_with (first
    | (refine Kd.R_append_rows kP base rfl _ _ 31 60 _ 32 rfl Tryd.underlying31 Tryd.infoP rfl (by decide) (by decide) (.slice A n c) xs [p] (some ⟨x, 0, none⟩) 1 1 yes (fun k => some k ≠ (Value.slice A n c).ownBlock) rfl rfl HR.out HC.out (fun _ _ h => h) (fun _ hk => ⟨trivial, hk⟩) (fun _ _ => trivial) (Below.refl base w) HB.out HS.out ?_; intro v1 w1 R1 B1 G1 O1))
  go_ret
  exact ⟨v1, rfl, R1, G1, O1⟩
/-- pairs of different blocks do not overlap -/
theorem over_apart {a b : Bs} (g x : Nat) (w : World) (cur : Array Value) (hg : w.heap[g]? = some (.cells cur 60 (0, 0))) (hx : w.heap[x]? = some (.cells #[.string a, .string b] 60 (0, 0))) (hne : x ≠ g) (hc : cur.size ≠ 0) (o lb cb : Nat) :
    (callFunc 136 #[.slice (some ⟨x, 0, none⟩) 1 1, .slice (some ⟨g, o, none⟩) lb cb]).run Tryd.prog w = .ok (.value (.bool false)) w := by
  have hz : ∀ w, (Go.sizeOf 60).run Tryd.prog w = .ok 2 w := fun w => by
    obtain ⟨i0, hi0, hs0⟩ := Option.map_eq_some_iff.1 Tryd.info60
    simp [sizeOf, typeInfo, hi0, hs0, go_sem]
  rw [run_callFunc_extern Tryd.func136 (by kernel_rfl) (by kernel_rfl) (by kernel_rfl) (e := Extern.SlicesOverlaps.overlaps #[31, 31] #[4]) (by kernel_rfl),
    Lib.run_overlaps_apart w 31 4 60 Tryd.underlying31 2 hz ⟨x, 0, none⟩ ⟨g, o, none⟩ 1 1 lb cb hne 60 60 2 cur.size
      (by simp [World.shape?, hx]) (by simp [World.shape?, hg]) hc (frozen_block hx 0) (frozen_block hx 2)]
  rfl
set_option maxHeartbeats 1000000 in
set_option maxRecDepth 100000 in
theorem Insert_room (xs : List Pr) (p : Pr) (i n : Nat) (hl : xs.length = n) (hi : i < n) (g cap x base : Nat) (cur : Array Value) (w : World) (hn : n ≤ 1048576) (hg : w.heap[g]? = some (.cells cur 60 (0, 0))) (hgb : base ≤ g) (hcap : n + 1 ≤ cap) (hcm : cap ≤ maxLen)
    (hs : cur.size = cap * 2) (ht : cur.toList.take (n * 2) = flat xs) (hx : w.heap[x]? = some (.cells #[.string p.key, .string p.val] 60 (0, 0))) (hxg : x ≠ g) :
    Calls Tryd.prog 99 #[.slice (some ⟨g, 0, none⟩) n cap, .int .i64 i, .slice (some ⟨x, 0, none⟩) 1 1] w (InsPost (xs.take i ++ [p] ++ xs.drop i) base w (.slice (some ⟨g, 0, none⟩) n cap)) := by
  have fd : (flat (xs.drop i)).length = (n - i) * 2 := by rw [flat_length, List.length_drop, hl]
  have hfd1 : (i + 1) * 2 + (flat (xs.drop i)).length ≤ cur.size := by rw [fd, hs]; omega
  obtain ⟨c1, hc1⟩ : ∃ c1, c1 = cur.toList.take ((i + 1) * 2) ++ flat (xs.drop i) ++ cur.toList.drop ((i + 1) * 2 + (flat (xs.drop i)).length) := ⟨_, rfl⟩
  obtain ⟨c2, hc2⟩ : ∃ c2, c2 = c1.take (i * 2) ++ pc p ++ c1.drop (i * 2 + (pc p).length) := ⟨_, rfl⟩
  obtain ⟨L1, L2, T2⟩ := ins_room hl hi hcap (by rw [Array.length_toList]; exact hs) ht hc1 hc2
  have ek : ((n + 1 : Nat) : Int) = (n : Int) + 1 := by omega
  have ei : ((i + 1 : Nat) : Int) = (i : Int) + 1 := by omega
  have ct := cut_take (P := Tryd.prog) 31 60 .i64 2 Tryd.underlying31 Tryd.info60 (some ⟨g, 0, none⟩) n cap (n + 1) hcap
  rw [ek] at ct
  have cd0 := cut_row (P := Tryd.prog) 31 60 Tryd.underlying31 Tryd.info60 g n cap i (by omega) (by omega)
  have cd1 := cut_row (P := Tryd.prog) 31 60 Tryd.underlying31 Tryd.info60 g (n + 1) cap (i + 1) (by omega) (by omega)
  have cd2 := cut_row (P := Tryd.prog) 31 60 Tryd.underlying31 Tryd.info60 g (n + 1) cap i (by omega) (by omega)
  rw [ei] at cd1
  have hov := fun o lb cb => over_apart g x w cur hg hx hxg (by rw [hs]; omega) o lb cb
  have s1 : IntKind.i64.wrap ((n : Int) + 1) = (n : Int) + 1 := IntWalk.i64_in _ (by omega)
  have s2 : IntKind.i64.wrap ((i : Int) + 1) = (i : Int) + 1 := IntWalk.i64_in _ (by omega)
  have hcp1 : ∀ ty, (Builtin.copy_ #[31, 31] ty #[.slice (some ⟨g, (i + 1) * 2, none⟩) (n + 1 - (i + 1)) (cap - (i + 1)), .slice (some ⟨g, i * 2, none⟩) (n + 1 - i) (cap - i)]).run Tryd.prog w.drew = .ok (goInt (n - i : Nat)) (w.drew.setRow g c1.toArray) := fun ty => by
    rw [hc1]
    refine run_copyK w.drew _ _ ty 60 2 g ((i + 1) * 2) _ _ ⟨g, i * 2, none⟩ _ _ (n - i) cur 60 (flat (xs.drop i)) Tryd.underlying31 Tryd.info60 hg (by simp only [Nat.min_def]; split <;> omega) fd (fun j v hj => ?_) hfd1 (flat_one _)
    rw [Addr.add_mid]
    show w.cell? _ = _
    rw [cell_of_row _ _ _ _ _ _ hg]
    have hjl : j < (n - i) * 2 := by rw [← fd]; exact (List.getElem?_eq_some_iff.1 hj).1
    rw [← flat_drop xs i (by omega), List.getElem?_drop, ← ht, List.getElem?_take, if_pos (by omega)] at hj
    rw [← hj, Array.getElem?_toList]
  have hcp2 : ∀ ty, (Builtin.copy_ #[31, 31] ty #[.slice (some ⟨g, i * 2, none⟩) (n + 1 - i) (cap - i), .slice (some ⟨x, 0, none⟩) 1 1]).run Tryd.prog (w.drew.setRow g c1.toArray) = .ok (goInt (1 : Nat)) ((w.drew.setRow g c1.toArray).setRow g c2.toArray) := fun ty => by
    have hg1 : (w.drew.setRow g c1.toArray).heap[g]? = some (.cells c1.toArray 60 (0, 0)) := setRow_heap w.drew g cur _ _ _ hg
    have hx1 : (w.drew.setRow g c1.toArray).heap[x]? = some (.cells #[.string p.key, .string p.val] 60 (0, 0)) := (setRow_other w.drew g x _ hxg).trans hx
    rw [hc2]
    refine run_copyK _ _ _ ty 60 2 g (i * 2) _ _ ⟨x, 0, none⟩ _ _ 1 c1.toArray 60 (pc p) Tryd.underlying31 Tryd.info60 hg1 (by simp only [Nat.min_def]; split <;> omega) rfl (fun j v hj => ?_) (by show i * 2 + 2 ≤ c1.length; omega) (fun v hv => flat_one [p] v (by simpa [flat] using hv))
    rw [Addr.add_mid, Nat.zero_add, cell_of_row _ _ _ _ _ _ hx1, ← hj, ← Array.getElem?_toList]
    rfl
  have hfin : ((w.drew.setRow g c1.toArray).setRow g c2.toArray).heap[g]? = some (.cells c2.toArray 60 (0, 0)) := setRow_heap _ g c1.toArray _ _ _ (setRow_heap w.drew g cur _ _ _ hg)
  have hgr : w.grownBy ((w.drew.setRow g c1.toArray).setRow g c2.toArray) (some g) := grown_trans (grown_trans (grown_below (Below.refl _ _).drew _) (grown_setRow _ _ _)) (grown_setRow _ _ _)
  have hS1 : w.grownBy (w.drew.setRow g c1.toArray) (some g) := grown_trans (grown_below (Below.refl _ _).drew _) (grown_setRow _ _ _)
  have hres : kP.R 60 ((w.drew.setRow g c1.toArray).setRow g c2.toArray) base yes (.slice (some ⟨g, 0, none⟩) (n + 1) cap) (xs.take i ++ [p] ++ xs.drop i) :=
    R_mk (by simp only [List.length_append, List.length_take, List.length_drop, List.length_singleton]; omega) hgb hfin hcap hcm (by simpa using L2) (by simpa using T2)
  have HV := Lib.hid hov
  have HC1 := Lib.hid hcp1
  have HC2 := Lib.hid hcp2
  have HG := Lib.hid hgr
  have HS1 := Lib.hid hS1
  have HR := Lib.hid hres
  generalize w.drew.setRow g c1.toArray = W1 at *
  generalize W1.setRow g c2.toArray = W2 at *
  clear hov hcp1 hcp2 hgr hS1 hres hfin hc1 hc2 L1 L2 T2 fd hfd1 ht hs hg hx ek ei
  have hov := HV.out
  have hni : ¬ (i : Int) = (n : Int) := by omega
  generalize n + 1 - (i + 1) = la at *
  generalize (i + 1) * 2 = o1 at *
  generalize cap - (i + 1) = ca at *
  generalize n + 1 - i = lb at *
  generalize cap - i = cb at *
  generalize i * 2 = o0 at *
  go_enter Tryd.func99, Tryd.ntmps99
  go_upto_region 15 with (simp only [hov])
  refine wp_num (fun w' => w.grownBy w' (some g)) [0, 1, 2, 3, 4, 5, 6, 7] (.c (0, none, none) (.c (1, none, none) (.c (2, none, none) (.c (3, none, none) (.c (4, none, none) (.c (5, none, none) (.c (6, none, none) (.c (7, none, none) (.c (8, some true, none) (.nil)))))))))) (by kernel_rfl) (by kernel_rfl) (by kernel_rfl) (fun _ _ d _ _ h => by cases d <;> exact h) (by kernel_rfl) (grown_below (Below.refl _ _).drew _) ?_
  simp only [selE, nthO]
  apply p_q
  focus (intro w' hb; go_simp <;> rfl)
  simp only [Act.put, List.setIfInBounds_toArray, List.set_cons_zero, List.set_cons_succ, Array.toArray_toList]
  apply p_q
  focus (intro w' hb; go_simp <;> rfl)
  simp only [Act.put, List.setIfInBounds_toArray, List.set_cons_zero, List.set_cons_succ, Array.toArray_toList]
  apply p_q
  focus (intro w' hb; go_simp <;> rfl)
  simp only [Act.put, List.setIfInBounds_toArray, List.set_cons_zero, List.set_cons_succ, Array.toArray_toList]
  apply p_qL (ops0 := #[]) rfl rfl rfl (Nat.le_of_ble_eq_true rfl)
  focus (intro w' hb; go_wp2_with fail; refine ⟨rfl, ?_, rfl⟩; simp only [List.getElem?_toArray, List.getElem?_cons_zero, List.getElem?_cons_succ, Option.some.injEq]; rfl)
  simp only [Act.put, List.setIfInBounds_toArray, List.set_cons_zero, List.set_cons_succ, Array.toArray_toList]
  apply p_qL (ops0 := #[]) rfl rfl rfl (Nat.le_of_ble_eq_true rfl)
  focus (intro w' hb; go_wp2_with fail; refine ⟨rfl, ?_, rfl⟩; simp only [List.getElem?_toArray, List.getElem?_cons_zero, List.getElem?_cons_succ, Option.some.injEq]; rfl)
  simp only [Act.put, List.setIfInBounds_toArray, List.set_cons_zero, List.set_cons_succ, Array.toArray_toList]
  apply p_q
  focus (intro w' hb; go_simp <;> rfl)
  simp only [Act.put, List.setIfInBounds_toArray, List.set_cons_zero, List.set_cons_succ, Array.toArray_toList]
  apply p_q
  focus (intro w' hb; go_simp <;> rfl)
  simp only [Act.put, List.setIfInBounds_toArray, List.set_cons_zero, List.set_cons_succ, Array.toArray_toList]
  apply p_qL (ops0 := #[]) rfl rfl rfl (Nat.le_of_ble_eq_true rfl)
  focus (intro w' hb; go_wp2_with fail; refine ⟨rfl, ?_, rfl⟩; simp only [List.getElem?_toArray, List.getElem?_cons_zero, List.getElem?_cons_succ, Option.some.injEq]; rfl)
  simp only [Act.put, List.setIfInBounds_toArray, List.set_cons_zero, List.set_cons_succ, Array.toArray_toList]
  refine p_list (ops := #[]) rfl ?_
  refine l_copy rfl rfl rfl rfl (HC1.out _) ?_
  refine ⟨fun _ => HS1.out, ?_⟩
  refine p_end ?_
  go_wp2_with (first | (refine l_copy rfl rfl rfl rfl (HC2.out _) ?_))
  go_ret
  exact ⟨_, rfl, HR.out, HG.out, .inl rfl⟩
set_option maxHeartbeats 1000000 in
set_option maxRecDepth 100000 in
theorem Insert_grow (xs : List Pr) (p : Pr) (i n : Nat) (hl : xs.length = n) (hi : i < n) (g x base : Nat) (cur : Array Value) (w : World) (hn : n ≤ 1048576) (hg : w.heap[g]? = some (.cells cur 60 (0, 0))) (hbase : base ≤ w.heap.size)
    (hs : cur.size = n * 2) (ht : cur.toList.take (n * 2) = flat xs) (hx : w.heap[x]? = some (.cells #[.string p.key, .string p.val] 60 (0, 0))) :
    Calls Tryd.prog 99 #[.slice (some ⟨g, 0, none⟩) n n, .int .i64 i, .slice (some ⟨x, 0, none⟩) 1 1] w (InsPost (xs.take i ++ [p] ++ xs.drop i) base w (.slice (some ⟨g, 0, none⟩) n n)) := by
  have hgl : g < w.heap.size := (Array.getElem?_eq_some_iff.1 hg).1
  have hxl : x < w.heap.size := (Array.getElem?_eq_some_iff.1 hx).1
  have fd : (flat (xs.drop i)).length = (n - i) * 2 := by rw [flat_length, List.length_drop, hl]
  have ft : (flat (xs.take i)).length = i * 2 := by rw [flat_length, List.length_take, hl]; omega
  obtain ⟨i0, hi0, hzz⟩ := Option.map_eq_some_iff.1 Tryd.infoP
  simp only [Prod.mk.injEq] at hzz
  obtain ⟨hz0, hz1, hz2⟩ := hzz
  obtain ⟨G, hG⟩ : ∃ G, G = grownCap w (i + (n + 1 - i)) n 60 := ⟨_, rfl⟩
  have hG1 : n + 1 ≤ G := by rw [hG]; have := grownCap_ge w (i + (n + 1 - i)) n 60; omega
  have hG2 : G ≤ maxLen := by rw [hG]; exact grownCap_le_maxLen _ _ _ _ (by simp only [maxLen]; omega)
  obtain ⟨Z, hZ⟩ : ∃ Z : Array Value, Z = #[.string ByteArray.empty, .string ByteArray.empty] := ⟨_, rfl⟩
  obtain ⟨rest, hrest⟩ : ∃ rest, rest = (Builtin.zeroCells Z (n + 1 - i) ++ Builtin.zeroCells Z (G - (i + (n + 1 - i)))).toList := ⟨_, rfl⟩
  obtain ⟨c0, hc0⟩ : ∃ c0, c0 = flat (xs.take i) ++ rest := ⟨_, rfl⟩
  have hZs : Z.size = 2 := by rw [hZ]; rfl
  have l0 : c0.length = G * 2 := by
    rw [hc0, hrest, List.length_append, ft, Array.length_toList, Array.size_append, size_zeroCells, size_zeroCells, hZs]; omega
  obtain ⟨c1, hc1⟩ : ∃ c1, c1 = c0.take (i * 2) ++ pc p ++ c0.drop (i * 2 + (pc p).length) := ⟨_, rfl⟩
  obtain ⟨c2, hc2⟩ : ∃ c2, c2 = c1.take ((i + 1) * 2) ++ flat (xs.drop i) ++ c1.drop ((i + 1) * 2 + (flat (xs.drop i)).length) := ⟨_, rfl⟩
  obtain ⟨L1, L2, T2⟩ := ins_grow hl hi hG1 hc0 l0 hc1 hc2
  have ek : ((n + 1 - i : Nat) : Int) = (n : Int) + 1 - (i : Int) := by omega
  have ei : ((i + 1 : Nat) : Int) = (i : Int) + 1 := by omega
  have en : i + (n + 1 - i) = n + 1 := by omega
  have hrz : ∀ ty, (Builtin.append_ #[31, 3] ty #[.slice (some ⟨g, 0, none⟩) i n, .int .i64 ((n : Int) + 1 - (i : Int))]).run Tryd.prog w = .ok (.slice (some ⟨w.heap.size, 0, none⟩) (n + 1) G) (w.drew.alloc (.cells c0.toArray 60)) := fun ty => by
    have hold : (Builtin.firstCells i0.size i (.slice (some ⟨g, 0, none⟩) i n)).run Tryd.prog w.drew = .ok (flat (xs.take i)).toArray w.drew := by
      have hlc := run_loadCells_list (P := Tryd.prog) w.drew ⟨g, 0, none⟩ (flat (xs.take i)) (fun j v hj => by
        rw [Addr.add_mid, Nat.zero_add]
        show w.cell? _ = _
        rw [cell_of_row _ _ _ _ _ _ hg]
        have hjl : j < i * 2 := by rw [← ft]; exact (List.getElem?_eq_some_iff.1 hj).1
        rw [← flat_take xs i (by omega), List.getElem?_take, if_pos hjl, ← ht, List.getElem?_take, if_pos (by omega)] at hj
        rw [← hj, Array.getElem?_toList])
      rw [ft] at hlc
      simp [Builtin.firstCells, hz1, hlc]
    have h := Lib.run_append_grow_zeros w 31 3 ty 60 i0 (.agg Z) .i64 .i64 Tryd.underlying31 Tryd.underlying3 hi0 (by rw [hz0, hZ]) (some ⟨g, 0, none⟩) i n (flat (xs.take i)) hold (n + 1 - i) (by omega) (by omega) (by omega) (by omega) (by rw [hz2]; omega) (by
      rw [hz2]
      exact growslice_fits (by omega) (by omega))
    rw [ek] at h
    rw [h, ← hG, hc0, hrest, en]
    congr 4
    simp [Value.cells, Array.append_assoc]
  obtain ⟨W0, hW0⟩ : ∃ W0, W0 = w.drew.alloc (.cells c0.toArray 60) := ⟨_, rfl⟩
  have hh0 : W0.heap[w.heap.size]? = some (.cells c0.toArray 60 (0, 0)) := by rw [hW0]; exact heap_alloc_is w.drew _ _ rfl
  have hb0 : Below w.heap.size w W0 := by rw [hW0]; exact below_alloc (Below.refl _ _).drew _
  obtain ⟨W1, hW1⟩ : ∃ W1, W1 = W0.setRow w.heap.size c1.toArray := ⟨_, rfl⟩
  have hh1 : W1.heap[w.heap.size]? = some (.cells c1.toArray 60 (0, 0)) := by rw [hW1]; exact setRow_heap _ _ _ _ _ _ hh0
  have hg1 : W1.heap[g]? = some (.cells cur 60 (0, 0)) := by rw [hW1, setRow_other _ _ _ _ (by omega)]; exact block_below hb0 hg
  obtain ⟨W2, hW2⟩ : ∃ W2, W2 = W1.drew.setRow w.heap.size c2.toArray := ⟨_, rfl⟩
  have hh2 : W2.heap[w.heap.size]? = some (.cells c2.toArray 60 (0, 0)) := by rw [hW2]; exact setRow_heap W1.drew _ _ _ _ _ hh1
  have cdA := cut_row (P := Tryd.prog) 31 60 Tryd.underlying31 Tryd.info60 w.heap.size (n + 1) G i (by omega) (by omega)
  have cdB := cut_row (P := Tryd.prog) 31 60 Tryd.underlying31 Tryd.info60 w.heap.size (n + 1) G (i + 1) (by omega) (by omega)
  have cdC := cut_row (P := Tryd.prog) 31 60 Tryd.underlying31 Tryd.info60 g n n i (by omega) (by omega)
  have ct := cut_take (P := Tryd.prog) 31 60 .i64 2 Tryd.underlying31 Tryd.info60 (some ⟨g, 0, none⟩) n n i (by omega)
  rw [ei] at cdB
  have s1 : IntKind.i64.wrap ((n : Int) + 1) = (n : Int) + 1 := IntWalk.i64_in _ (by omega)
  have s2 : IntKind.i64.wrap ((i : Int) + 1) = (i : Int) + 1 := IntWalk.i64_in _ (by omega)
  have hcpA : ∀ ty, (Builtin.copy_ #[31, 31] ty #[.slice (some ⟨w.heap.size, i * 2, none⟩) (n + 1 - i) (G - i), .slice (some ⟨x, 0, none⟩) 1 1]).run Tryd.prog W0 = .ok (goInt (1 : Nat)) W1 := fun ty => by
    have hx1 : W0.heap[x]? = some (.cells #[.string p.key, .string p.val] 60 (0, 0)) := block_below hb0 hx
    rw [hW1, hc1]
    refine run_copyK _ _ _ ty 60 2 w.heap.size (i * 2) _ _ ⟨x, 0, none⟩ _ _ 1 c0.toArray 60 (pc p) Tryd.underlying31 Tryd.info60 hh0 (by simp only [Nat.min_def]; split <;> omega) rfl (fun j v hj => ?_) (by show i * 2 + 2 ≤ c0.length; omega) (fun v hv => flat_one [p] v (by simpa [flat] using hv))
    rw [Addr.add_mid, Nat.zero_add, cell_of_row _ _ _ _ _ _ hx1, ← hj, ← Array.getElem?_toList]
    rfl
  have hcpB : ∀ ty, (Builtin.copy_ #[31, 31] ty #[.slice (some ⟨w.heap.size, (i + 1) * 2, none⟩) (n + 1 - (i + 1)) (G - (i + 1)), .slice (some ⟨g, i * 2, none⟩) (n - i) (n - i)]).run Tryd.prog W1.drew = .ok (goInt (n - i : Nat)) W2 := fun ty => by
    rw [hW2, hc2]
    refine run_copyK W1.drew _ _ ty 60 2 w.heap.size ((i + 1) * 2) _ _ ⟨g, i * 2, none⟩ _ _ (n - i) c1.toArray 60 (flat (xs.drop i)) Tryd.underlying31 Tryd.info60 hh1 (by simp only [Nat.min_def]; split <;> omega) fd (fun j v hj => ?_) (by show (i + 1) * 2 + (flat (xs.drop i)).length ≤ c1.length; omega) (flat_one _)
    rw [Addr.add_mid]
    show W1.cell? _ = _
    rw [cell_of_row _ _ _ _ _ _ hg1]
    have hjl : j < (n - i) * 2 := by rw [← fd]; exact (List.getElem?_eq_some_iff.1 hj).1
    rw [← flat_drop xs i (by omega), List.getElem?_drop, ← ht, List.getElem?_take, if_pos (by omega)] at hj
    rw [← hj, Array.getElem?_toList]
  have hbe : Below w.heap.size w W2 := by
    refine ⟨?_, ?_, ?_, ?_, fun k hk => ?_⟩
    · rw [hW2, hW1]; exact hb0.os
    · rw [hW2, hW1]; exact hb0.tape
    · rw [hW2, hW1]; exact hb0.output
    · rw [hW2, hW1]; simpa [World.setRow] using hb0.size
    · rw [hW2, setRow_other _ _ _ _ (by omega)]
      show W1.heap[k]? = _
      rw [hW1, setRow_other _ _ _ _ (by omega)]; exact hb0.block k hk
  have hres : kP.R 60 W2 base yes (.slice (some ⟨w.heap.size, 0, none⟩) (n + 1) G) (xs.take i ++ [p] ++ xs.drop i) :=
    R_mk (by simp only [List.length_append, List.length_take, List.length_drop, List.length_singleton]; omega) hbase hh2 hG1 hG2 (by simpa using L2) (by simpa using T2)
  have hS1 : W1.grownBy W2 (some w.heap.size) := by rw [hW2]; exact grown_trans (grown_below (Below.refl _ _).drew _) (grown_setRow _ _ _)
  rw [← hW0] at hrz
  have HZ := Lib.hid hrz
  have HA := Lib.hid hcpA
  have HB := Lib.hid hcpB
  have HR := Lib.hid hres
  have HS1 := Lib.hid hS1
  have HE := Lib.hid hbe
  clear hrz hcpA hcpB hres hS1 hbe hh0 hh1 hh2 hg1 hb0 hW0 hW1 hW2 hc0 hc1 hc2 L1 L2 T2 l0 hrest hZ hZs hG fd ft ht hs hg hx ek ei en hz0 hz1 hz2 hi0 hG1 hG2
  have hni : ¬ (i : Int) = (n : Int) := by omega
  generalize n + 1 - (i + 1) = la at *
  generalize (i + 1) * 2 = o1 at *
  generalize G - (i + 1) = ca at *
  generalize n + 1 - i = lb at *
  generalize G - i = cb at *
  generalize n - i = lc at *
  generalize i * 2 = o0 at *
  go_enter Tryd.func99, Tryd.ntmps99
  go_upto_region 10 with (at_builtin; refine Lib.wpList_append_run _ rfl _ _ 31 3 rfl (.slice (some ⟨g, 0, none⟩) i n) (.int .i64 ((n : Int) + 1 - (i : Int))) rfl rfl _ _ (HZ.out _) ?_)
  go_upto_region 11 with (first | (refine l_copy rfl rfl rfl rfl (HA.out _) ?_))
  refine wp_num (fun w' => W1.grownBy w' (some w.heap.size)) [0, 1, 2, 3, 4, 5, 6, 7] (.c (0, none, none) (.c (1, none, none) (.c (2, none, none) (.c (3, none, none) (.c (4, none, none) (.c (5, none, none) (.c (6, none, none) (.c (7, none, none) (.c (8, some true, none) (.nil)))))))))) (by kernel_rfl) (by kernel_rfl) (by kernel_rfl) (fun _ _ d _ _ h => by cases d <;> exact h) (by kernel_rfl) (grown_below (Below.refl _ _).drew _) ?_
  simp only [selE, nthO]
  apply p_q
  focus (intro w' hb; go_simp <;> rfl)
  simp only [Act.put, List.setIfInBounds_toArray, List.set_cons_zero, List.set_cons_succ, Array.toArray_toList]
  apply p_q
  focus (intro w' hb; go_simp <;> rfl)
  simp only [Act.put, List.setIfInBounds_toArray, List.set_cons_zero, List.set_cons_succ, Array.toArray_toList]
  apply p_q
  focus (intro w' hb; go_simp <;> rfl)
  simp only [Act.put, List.setIfInBounds_toArray, List.set_cons_zero, List.set_cons_succ, Array.toArray_toList]
  apply p_qL (ops0 := #[]) rfl rfl rfl (Nat.le_of_ble_eq_true rfl)
  focus (intro w' hb; go_wp2_with fail; refine ⟨rfl, ?_, rfl⟩; simp only [List.getElem?_toArray, List.getElem?_cons_zero, List.getElem?_cons_succ, Option.some.injEq]; rfl)
  simp only [Act.put, List.setIfInBounds_toArray, List.set_cons_zero, List.set_cons_succ, Array.toArray_toList]
  apply p_qL (ops0 := #[]) rfl rfl rfl (Nat.le_of_ble_eq_true rfl)
  focus (intro w' hb; go_wp2_with fail; refine ⟨rfl, ?_, rfl⟩; simp only [List.getElem?_toArray, List.getElem?_cons_zero, List.getElem?_cons_succ, Option.some.injEq]; rfl)
  simp only [Act.put, List.setIfInBounds_toArray, List.set_cons_zero, List.set_cons_succ, Array.toArray_toList]
  apply p_q
  focus (intro w' hb; go_simp <;> rfl)
  simp only [Act.put, List.setIfInBounds_toArray, List.set_cons_zero, List.set_cons_succ, Array.toArray_toList]
  apply p_q
  focus (intro w' hb; go_simp <;> rfl)
  simp only [Act.put, List.setIfInBounds_toArray, List.set_cons_zero, List.set_cons_succ, Array.toArray_toList]
  apply p_qL (ops0 := #[]) rfl rfl rfl (Nat.le_of_ble_eq_true rfl)
  focus (intro w' hb; go_wp2_with fail; refine ⟨rfl, ?_, rfl⟩; simp only [List.getElem?_toArray, List.getElem?_cons_zero, List.getElem?_cons_succ, Option.some.injEq]; rfl)
  simp only [Act.put, List.setIfInBounds_toArray, List.set_cons_zero, List.set_cons_succ, Array.toArray_toList]
  refine p_list (ops := #[]) rfl ?_
  refine l_copy rfl rfl rfl rfl (HB.out _) ?_
  refine ⟨fun _ => HS1.out, ?_⟩
  refine p_end ?_
  go_wp2
  go_ret
  exact ⟨_, rfl, HR.out, grown_below HE.out _, .inr ⟨_, rfl, Nat.le_refl _⟩⟩
/-- slices.Insert of one pair into a row of the call's own -/
theorem slices_Insert (xs : List Pr) (p : Pr) (i n : Nat) (hl : xs.length = n) (hi : i ≤ n) (v : Value) (x base : Nat) (w : World) (hn : n ≤ 1048576) (hR : kP.R 60 w base yes v xs)
    (hx : w.heap[x]? = some (.cells #[.string p.key, .string p.val] 60 (0, 0))) (hxv : some x ≠ v.ownBlock) (hbase : base ≤ w.heap.size) :
    Calls Tryd.prog 99 #[v, .int .i64 i, .slice (some ⟨x, 0, none⟩) 1 1] w (InsPost (xs.take i ++ [p] ++ xs.drop i) base w v) := by
  by_cases he : i = n
  · subst he
    obtain ⟨A, c, rfl⟩ := Kd.R_slice hR
    rw [hl] at hR ⊢
    rw [List.take_of_length_le (by omega), List.drop_eq_nil_of_le (by omega), List.append_nil]
    exact Insert_end xs p i hl A c x base w hn hR hx hbase
  · rcases R_open hR with ⟨rfl, rfl⟩ | ⟨g, cap, cur, rfl, hg, hh, hc, hm, hs, ht⟩
    · simp at hl; omega
    · rw [hl] at hc ht ⊢
      have hxg : x ≠ g := fun h => hxv (by simp [Value.ownBlock, h])
      by_cases hr : n + 1 ≤ cap
      · exact Insert_room xs p i n hl (by omega) g cap x base cur w hn hh hg hr hm hs ht hx hxg
      · obtain rfl : cap = n := by omega
        exact Insert_grow xs p i cap hl (by omega) g x base cur w hn hh hbase hs ht hx
end Go.Proofs.YtlkjeneffohnkaaDoor
