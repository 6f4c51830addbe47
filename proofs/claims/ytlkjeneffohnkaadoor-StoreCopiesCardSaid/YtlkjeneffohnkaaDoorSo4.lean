import Derived.Test.YtlkjeneffohnkaaDoorSo3
set_option linter.unusedVariables false
set_option linter.unusedSimpArgs false
namespace Go.Proofs.YtlkjeneffohnkaaDoor
open Go.RowKit Go.Proofs Go.Proofs.Plan Go.Proofs.YtlkjeneffohnkaaDoorW.PrintWords
theorem cut_dropE {P : Program} (t e : TypeId) (ht : P.underlying t = some (.slice e)) (hi : (P.info? e).map (·.size) = some 2) (A : Option Addr) (n c m : Nat) (hm : m ≤ n) (W : World) :
    (Instr.slice t (.slice A n c) (some (.int .i64 (m : Int))) none none).run P W = .ok (.slice (if c = m then A else A.map (·.add (m * 2))) (n - m) (c - m)) W := by
  obtain ⟨i0, hi0, hs0⟩ := Option.map_eq_some_iff.1 hi
  have hel : P.elem t = e := by simp [Program.elem, ht]
  have hu : P.underlying t = some (.slice (P.elem t)) := by rw [hel]; exact ht
  rw [run_slice_l W t A n c hu .i64 (m : Int) (Int.natCast_nonneg _) (by omega), hel]
  simp [sizeOf, typeInfo, hi0, hs0, sliced, Result.andThen]
theorem cut_lhm {P : Program} (t e : TypeId) (ht : P.underlying t = some (.slice e)) (hi : (P.info? e).map (·.size) = some 2) (A : Option Addr) (n c l h m : Nat) (h1 : l ≤ h) (h2 : h ≤ m) (h3 : m ≤ c) :
    ∃ X : Value, ∀ W : World, (Instr.slice t (.slice A n c) (some (.int .i64 (l : Int))) (some (.int .i64 (h : Int))) (some (.int .i64 (m : Int)))).run P W = .ok X W := by
  obtain ⟨i0, hi0, hs0⟩ := Option.map_eq_some_iff.1 hi
  have hel : P.elem t = e := by simp [Program.elem, ht]
  have hu : P.underlying t = some (.slice (P.elem t)) := by rw [hel]; exact ht
  refine ⟨sliced A l h m 2, fun W => ?_⟩
  rw [run_slice_lhm W t A n c hu .i64 .i64 .i64 (l : Int) (h : Int) (m : Int) (Int.natCast_nonneg _) (by omega) (by omega) (by omega), hel]
  simp [sizeOf, typeInfo, hi0, hs0, Result.andThen]
theorem cut_lh {P : Program} (t e : TypeId) (ht : P.underlying t = some (.slice e)) (hi : (P.info? e).map (·.size) = some 2) (g n c l h : Nat) (h1 : l ≤ h) (h2 : h ≤ c) (hc : l ≠ c) (W : World) :
    (Instr.slice t (.slice (some ⟨g, 0, none⟩) n c) (some (.int .i64 (l : Int))) (some (.int .i64 (h : Int))) none).run P W = .ok (.slice (some ⟨g, l * 2, none⟩) (h - l) (c - l)) W := by
  obtain ⟨i0, hi0, hs0⟩ := Option.map_eq_some_iff.1 hi
  have hel : P.elem t = e := by simp [Program.elem, ht]
  have hu : P.underlying t = some (.slice (P.elem t)) := by rw [hel]; exact ht
  rw [run_slice_lh W t (some ⟨g, 0, none⟩) n c hu .i64 .i64 (l : Int) (h : Int) (Int.natCast_nonneg _) (by omega) (by omega), hel]
  have hne : ¬ c = l := fun h => hc h.symm
  simp [sizeOf, typeInfo, hi0, hs0, sliced, Result.andThen, hne, Addr.add]
  intro h; omega
theorem run_clearK {P : Program} (w : World) (t e ty : TypeId) (z : Value) (sz : Nat) (ht : P.underlying t = some (.slice e)) (hv : (zeroValue e).run P w = .ok z w) (hz : z.cells.size = sz) (h1 : ∀ v ∈ (Builtin.zeroCells z.cells 1).toList, v.oneCell' = true) (g o c : Nat) (cur : Array Value) (tt : TypeId)
    (hg : w.heap[g]? = some (.cells cur tt (0, 0))) (hfit : o + sz ≤ cur.size) :
    (Builtin.clear_ #[t] ty #[.slice (some ⟨g, o, none⟩) 1 c]).run P w = .ok (.tuple #[]) (w.setRow g (cur.toList.take o ++ (Builtin.zeroCells z.cells 1).toList ++ cur.toList.drop (o + (Builtin.zeroCells z.cells 1).toList.length)).toArray) := by
  have hl : (Builtin.zeroCells z.cells 1).toList.length = sz := by rw [Array.length_toList, size_zeroCells, hz]; omega
  have hst := run_storeCells_at P g o tt (Builtin.zeroCells z.cells 1).toList 0 cur w hg (by rw [hl]; simpa using hfit) h1
  simp only [Nat.add_zero] at hst
  simp [Builtin.clear_, run_underlying ht, hv, hst]
theorem zl_eq : (Builtin.zeroCells (Value.agg #[.string ByteArray.empty, .string ByteArray.empty]).cells 1).toList = [.string ByteArray.empty, .string ByteArray.empty] := by
  apply List.ext_getElem
  · simp [Builtin.zeroCells, Value.cells]
  · intro i h1 h2
    simp [Builtin.zeroCells, Value.cells]
    match i with
    | 0 => rfl
    | 1 => rfl
    | i + 2 => simp at h2; omega
theorem l_clear {P : Program} {ops : Array Oper} {rest : List Oper} {o : Oper} {a : Act} {w w' : World} {Q : Exit → Act → World → Prop} (hgd : o.guard = none) {s : Operand} {t : TypeId}
    (ho : o.op = .call { callee := .builtin .clear, args := #[s], argTypes := #[t] }) {u v' : Value} (hs : a.eval s = u)
    (hr : (Builtin.clear_ #[t] o.type #[u]).run P w = .ok v' w') (h : wpList P ops Q rest (a.put o.dst v') w') : wpList P ops Q (o :: rest) a w :=
  wpList_plain hgd fun _ hK => by
    unfold Oper.wp execOp
    simp only [ho, resolve, invoke, builtin, Sem.run_bind, Sem.run_pure, Result.andThen_ok, List.map_toArray, List.map_cons, List.map_nil, hs, hr]
    exact hK _ _ h
set_option maxHeartbeats 1000000 in
set_option maxRecDepth 100000 in
theorem slices_Delete (xs : List Pr) (i n : Nat) (hl : xs.length = n) (hi : i < n) (v : Value) (base : Nat) (w : World) (hn : n ≤ 1048576) (hR : kP.R 60 w base yes v xs) (hbase : base ≤ w.heap.size) :
    Calls Tryd.prog 101 #[v, .int .i64 i, .int .i64 ((i : Int) + 1)] w (InsPost (xs.eraseIdx i) base w v) := by
  rcases R_open hR with ⟨rfl, rfl⟩ | ⟨g, cap, cur, rfl, hg, hh, hc, hm, hs, ht⟩
  · simp at hl; omega
  rw [hl] at hR hc ht ⊢
  obtain ⟨k, rfl⟩ : ∃ k, n = k + 1 := ⟨n - 1, by omega⟩
  have ei : ((i + 1 : Nat) : Int) = (i : Int) + 1 := by omega
  have ek : ((k + 1 : Nat) : Int) = (k : Int) + 1 := by omega
  obtain ⟨X3, cd3⟩ := cut_lhm (P := Tryd.prog) 31 60 Tryd.underlying31 Tryd.info60 (some ⟨g, 0, none⟩) (k + 1) cap i (i + 1) (k + 1) (by omega) (by omega) hc
  rw [ei, ek] at cd3
  have ct := cut_take (P := Tryd.prog) 31 60 .i64 2 Tryd.underlying31 Tryd.info60 (some ⟨g, 0, none⟩) (k + 1) cap i (by omega)
  have cd := cut_dropE (P := Tryd.prog) 31 60 Tryd.underlying31 Tryd.info60 (some ⟨g, 0, none⟩) (k + 1) cap (i + 1) (by omega)
  rw [ei] at cd
  obtain ⟨A2, hA2⟩ : ∃ A2, A2 = if cap = i + 1 then some ⟨g, 0, none⟩ else (some (⟨g, 0, none⟩ : Addr)).map (·.add ((i + 1) * 2)) := ⟨_, rfl⟩
  obtain ⟨la, hla⟩ : ∃ la, la = k + 1 - (i + 1) := ⟨_, rfl⟩
  rw [← hA2, ← hla] at cd
  generalize cap - (i + 1) = ca at cd
  have cd6 := cut_lh (P := Tryd.prog) 31 60 Tryd.underlying31 Tryd.info60 g k cap k (k + 1) (by omega) hc (by omega)
  rw [ek, show k + 1 - k = 1 by omega] at cd6
  have s2 : IntKind.i64.wrap ((i : Int) + 1) = (i : Int) + 1 := IntWalk.i64_in _ (by omega)
  have HR := Lib.hid hR
  have HA2 := Lib.hid hA2
  have HLA := Lib.hid hla
  have HB := Lib.hid hbase
  have hii : ((i : Int) == (i : Int) + 1) = false := by simp; omega
  clear hR hA2 hla ht hs hh ei ek hl
  go_enter Tryd.func101, Tryd.ntmps101
  go_upto_region 5 with (fail)
  refine wp_num (fun w' => w.grownBy w' (some g)) [0, 1, 2, 3, 4, 5, 7] (.c (0, none, none) (.c (1, none, none) (.c (2, none, none) (.c (3, none, none) (.c (4, none, none) (.c (5, none, none) (.c (6, some true, none) (.c (7, none, none) (.nil))))))))) (by kernel_rfl) (by kernel_rfl) (by kernel_rfl) (fun _ _ d _ _ h => by cases d <;> exact h) (by kernel_rfl) (grown_below (Below.refl _ _).drew _) ?_
  simp only [selE, nthO]
  apply p_q
  focus (intro w' hb; go_simp <;> rfl)
  simp only [Act.put, List.setIfInBounds_toArray, List.set_cons_zero, List.set_cons_succ, Array.toArray_toList]
  apply p_q
  focus (intro w' hb; go_simp <;> rfl)
  simp only [Act.put, List.setIfInBounds_toArray, List.set_cons_zero, List.set_cons_succ, Array.toArray_toList]
  apply p_qL (ops0 := #[]) rfl rfl rfl (Nat.le_of_ble_eq_true rfl)
  focus (intro w' hb; go_wp2_with fail; refine ⟨rfl, ?_, rfl⟩; simp only [List.getElem?_toArray, List.getElem?_cons_zero, List.getElem?_cons_succ, Option.some.injEq]; rfl)
  simp only [Act.put, List.setIfInBounds_toArray, List.set_cons_zero, List.set_cons_succ, Array.toArray_toList]
  apply p_q
  focus (intro w' hb; go_simp <;> rfl)
  simp only [Act.put, List.setIfInBounds_toArray, List.set_cons_zero, List.set_cons_succ, Array.toArray_toList]
  apply p_q
  focus (intro w' hb; go_simp <;> rfl)
  simp only [Act.put, List.setIfInBounds_toArray, List.set_cons_zero, List.set_cons_succ, Array.toArray_toList]
  apply p_qL (ops0 := #[]) rfl rfl rfl (Nat.le_of_ble_eq_true rfl)
  focus (intro w' hb; go_wp2_with fail; refine ⟨rfl, ?_, rfl⟩; simp only [List.getElem?_toArray, List.getElem?_cons_zero, List.getElem?_cons_succ, Option.some.injEq]; rfl)
  simp only [Act.put, List.setIfInBounds_toArray, List.set_cons_zero, List.set_cons_succ, Array.toArray_toList]
  refine p_list (ops := #[]) rfl ?_
  refine Kd.R_delete kP (w0 := w) base rfl _ _ 31 60 rfl Tryd.underlying31 Tryd.info60 (g := g) (n := k + 1) (c := cap) (k := i) (m := la) rfl rfl HA2.out HLA.out (Kd.R_drew HR.out) hi (Below.refl base w).drew HB.out ?_
  intro w1 R1 B1 G1
  have GG : w.grownBy w1 (some g) := grown_trans (grown_below (Below.refl _ _).drew _) G1
  refine ⟨fun _ => GG, ?_⟩
  apply p_q
  focus (intro w' hb; go_simp <;> rfl)
  simp only [Act.put, List.setIfInBounds_toArray, List.set_cons_zero, List.set_cons_succ, Array.toArray_toList]
  refine p_end ?_
  rw [Nat.add_sub_cancel] at R1 ⊢
  have hel : (xs.eraseIdx i).length = k := (Kd.R_reads' R1).1.symm
  rcases R_open R1 with ⟨h0, _⟩ | ⟨g', cap', cur', hv', hg', hh', hc', hm', hs', ht'⟩
  · cases h0
  simp only [Value.slice.injEq, Option.some.injEq, Addr.mk.injEq, and_true] at hv'
  obtain ⟨rfl, -, rfl⟩ := hv'
  have hz : (zeroValue 60).run Tryd.prog w1 = .ok (.agg #[.string ByteArray.empty, .string ByteArray.empty]) w1 := Tryd.zeroValue60 w1
  have hcl := fun ty c => run_clearK (P := Tryd.prog) w1 31 60 ty _ 2 Tryd.underlying31 hz rfl (fun v hv => by
    rw [zl_eq] at hv
    simp only [List.mem_cons, List.not_mem_nil, or_false, or_self] at hv
    subst hv; rfl) g (k * 2) c cur' 60 hh' (by rw [hs']; omega)
  have hzl : (Builtin.zeroCells (Value.agg #[.string ByteArray.empty, .string ByteArray.empty]).cells 1).toList.length = 2 := by rw [zl_eq]; rfl
  generalize (Builtin.zeroCells (Value.agg #[.string ByteArray.empty, .string ByteArray.empty]).cells 1).toList = zl at hcl hzl
  obtain ⟨c2, hc2⟩ : ∃ c2, c2 = cur'.toList.take (k * 2) ++ zl ++ cur'.toList.drop (k * 2 + zl.length) := ⟨_, rfl⟩
  rw [← hc2] at hcl
  have hl2 : c2.length = cap * 2 := by
    rw [hc2]; simp only [List.length_append, List.length_take, List.length_drop, Array.length_toList, hzl, hs']; omega
  have ht2 : c2.take (k * 2) = flat (xs.eraseIdx i) := by
    rw [hc2, List.append_assoc, List.take_append_of_le_length (by rw [List.length_take, Array.length_toList, hs']; omega), List.take_take, Nat.min_self, ← ht', hel]
  have hres : kP.R 60 (w1.setRow g c2.toArray) base yes (.slice (some ⟨g, 0, none⟩) k cap) (xs.eraseIdx i) :=
    R_mk hel hg (setRow_heap w1 g cur' _ _ _ hh') (by omega) hm (by simpa using hl2) (by simpa using ht2)
  have HRES := Lib.hid hres
  have HCL := Lib.hid hcl
  have HGG := Lib.hid (grown_trans GG (grown_setRow w1 g c2.toArray))
  clear hres hcl hz hzl hc2 hl2 ht2 hs' ht' hh' hm' hc' R1 G1 GG hel
  go_wp2_with (first | (refine l_clear rfl rfl rfl (HCL.out _ _) ?_))

  go_ret
  exact ⟨_, rfl, HRES.out, HGG.out, .inl rfl⟩
end Go.Proofs.YtlkjeneffohnkaaDoor
