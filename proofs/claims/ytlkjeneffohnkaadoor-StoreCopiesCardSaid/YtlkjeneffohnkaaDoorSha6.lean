import Derived.Test.YtlkjeneffohnkaaDoorSha5
import Derived.Deep.CutRange
set_option linter.unusedVariables false
set_option linter.unusedSimpArgs false
namespace Go.Proofs.YtlkjeneffohnkaaDoor
open Go.RowKit Go.Proofs Go.Proofs.Plan Go.Proofs.YtlkjeneffohnkaaDoorW.PrintWords
def catL (l : List ByteArray) : ByteArray := l.foldl (· ++ ·) ByteArray.empty
theorem foldl_cat (l : List ByteArray) : ∀ a : ByteArray, (l.foldl (· ++ ·) a).data.toList = a.data.toList ++ (l.map (·.data.toList)).flatten := by
  induction l with
  | nil => intro a; simp
  | cons x l ih => intro a; simp [ih]
theorem intercalate_nil (l : List (List UInt8)) : ([] : List UInt8).intercalate l = l.flatten := by
  induction l with
  | nil => rfl
  | cons x l ih => cases l <;> simp_all [List.intercalate]
theorem join_cat (l : List ByteArray) : (⟨(Lib.join (l.map (·.data.toList)) (ByteArray.mk #[]).data.toList).toArray⟩ : ByteArray) = catL l := by
  apply ByteArray.ext
  apply Array.toList_inj.1
  have := foldl_cat l ByteArray.empty
  simp only [catL, this, Lib.join]
  show ([] : List UInt8).intercalate _ = ([] : List UInt8) ++ _
  rw [intercalate_nil]; rfl
theorem join_len (l : List ByteArray) : (Lib.join (l.map (·.data.toList)) (ByteArray.mk #[]).data.toList).length = (catL l).size := by
  rw [← join_cat]; rfl
theorem repeat0 (n : Nat) : (⟨(Lib.repeatL (ByteArray.mk #[0]).data.toList n).toArray⟩ : ByteArray) = ⟨Array.replicate n 0⟩ := by
  apply ByteArray.ext
  apply Array.toList_inj.1
  simp only [Array.toList_replicate]
  show Lib.repeatL [0] n = _
  induction n with
  | zero => rfl
  | succ n ih => simp only [Lib.repeatL, ih, List.replicate_succ]; rfl
theorem isEmpty_of {q : ByteArray} : q.toList.isEmpty = decide (q.size = 0) := by
  rw [Lib.toList_data, Lib.size_eq]
  cases q.data.toList <;> simp
def outp (R : St) (j : Nat) : Array Value := ((hc (outS R)).take j ++ List.replicate (32 - j) (Value.int .u8 0)).toArray
theorem out_get (R : St) (j : Nat) (hj : j < 32) : (hc (outS R))[j]? = some (.int .u8 ((by8 ((sl R).getD (j / 4) 0) (24 - j % 4 * 8)).toNat : Int)) := by
  match j, hj with
  | 0, _ => rfl
  | 1, _ => rfl
  | 2, _ => rfl
  | 3, _ => rfl
  | 4, _ => rfl
  | 5, _ => rfl
  | 6, _ => rfl
  | 7, _ => rfl
  | 8, _ => rfl
  | 9, _ => rfl
  | 10, _ => rfl
  | 11, _ => rfl
  | 12, _ => rfl
  | 13, _ => rfl
  | 14, _ => rfl
  | 15, _ => rfl
  | 16, _ => rfl
  | 17, _ => rfl
  | 18, _ => rfl
  | 19, _ => rfl
  | 20, _ => rfl
  | 21, _ => rfl
  | 22, _ => rfl
  | 23, _ => rfl
  | 24, _ => rfl
  | 25, _ => rfl
  | 26, _ => rfl
  | 27, _ => rfl
  | 28, _ => rfl
  | 29, _ => rfl
  | 30, _ => rfl
  | 31, _ => rfl
  | n + 32, h => omega
theorem by8_num (x : BitVec 32) (n : Nat) : wv x / 2 ^ n % 256 = ((by8 x n).toNat : Int) := by
  have : (by8 x n).toNat = x.toNat / 2 ^ n % 256 := by
    show (UInt8.ofNat (x >>> n).toNat).toNat = _
    rw [UInt8.toNat_ofNat', BitVec.toNat_ushiftRight, Nat.shiftRight_eq_div_pow]
  rw [this, wv, Int.natCast_emod, Int.natCast_ediv, Int.natCast_pow]
  rfl
theorem outp_get (R : St) (j : Nat) (hj : j < 32) : (outp R j)[j]? = some (.int .u8 0) := by
  have hl : (hc (outS R)).length = 32 := hc_length rfl
  simp only [outp, List.getElem?_toArray]
  rw [List.getElem?_append_right (by simp [hl]; omega), List.getElem?_replicate, if_pos (by simp [hl]; omega)]
theorem outp_set (R : St) (j : Nat) (hj : j < 32) : (outp R j).setIfInBounds j (.int .u8 ((by8 ((sl R).getD (j / 4) 0) (24 - j % 4 * 8)).toNat : Int)) = outp R (j + 1) := by
  have hl : (hc (outS R)).length = 32 := hc_length rfl
  have hg := out_get R j hj
  apply Array.toList_inj.1
  have ht : ((hc (outS R)).take j).length = j := by simp [hl]; omega
  simp only [outp, Array.toList_setIfInBounds]
  rw [List.set_append_right _ _ (by omega), ht, Nat.sub_self, show 32 - j = (32 - (j + 1)) + 1 by omega, List.replicate_succ, List.set_cons_zero, List.take_add_one, hg]
  simp
theorem outp_32 (R : St) : outp R 32 = hv (outS R) := by
  have hl : (hc (outS R)).length = 32 := hc_length rfl
  simp [outp, hv, List.take_of_length_le, hl]
set_option maxHeartbeats 4000000 in
set_option maxRecDepth 100000 in
theorem sha_Sum (b c : Nat) (l : List ByteArray) (w : World) (ht : Tab w) (h : w.rangeAt b 0 (l.map Value.string)) (hb : b < w.heap.size) (hc : l.length ≤ c) (hl : l.length ≤ 1000) (hs : (catL l).size ≤ 1099511627776) : Calls Tryd.prog 117 #[.slice (some ⟨b, 0, none⟩) l.length c] w fun e w' => e = .returned (.agg (hv (sha (catL l)))) ∧ Below w.heap.size w w' := by
  go_enter Tryd.func117, Tryd.ntmps117
  go_upto_region 1 with (fail)
  refine wp_res 32 rfl ?_
  intro w1 B1 T1 Z1
  have hj := Tryd.strings_Join b 0 c l ⟨#[]⟩ w1 (fun j x hx => by have := rangeAt_below B1 h j (.string x) (by simp [hx]); exact this) (by omega) (by omega) hc (by rw [join_len]; omega)
  rw [join_cat] at hj
  have HJ := Lib.hid hj
  clear hj
  go_upto_region 2 with (first | (go_at_call 145; refine HJ.out.mono ?_; rintro e w2 ⟨rfl, hw2⟩))
  generalize hS : catL l = s at hs
  have HS := Lib.hid hS
  clear hS HJ h hb hc hl
  have cR := fun w' => Tryd.strings_Repeat ⟨#[0]⟩ ((119 - s.size % 64) % 64) w' (by omega) (by show 1 * _ ≤ _; omega)
  rw [repeat0] at cR
  have HR := Lib.hid cR
  clear cR
  have ez : (119 - (s.size : Int)) % 64 = (((119 - s.size % 64) % 64 : Nat) : Int) := by omega
  have HE := Lib.hid ez
  clear ez
  have h8 := eight_size (s.size * 8)
  have ep : s ++ ((ByteArray.mk #[128]) ++ ⟨Array.replicate ((119 - s.size % 64) % 64) 0⟩ ++ eight (s.size * 8)) = filled s := by simp only [filled, ByteArray.append_assoc]
  have HP := Lib.hid ep
  clear ep
  go_upto_region 4 with (first
    | (go_at_call 146; rw [HE.out]; refine (HR.out _).mono ?_; rintro e w3 ⟨rfl, hw3⟩)
    | (go_at_call 147; refine (sha_length s.size (by omega) _).mono ?_; rintro e w4 ⟨rfl, hw4⟩))
  rw [HP.out]
  have hp64 := filled_size s
  have hps : sha s = outS (stAt (filled s) ((filled s).size / 64)) := sha_is s
  have HPS := Lib.hid hps
  clear hps HR HP HE h8
  generalize filled s = p at hp64 HPS
  clear hs
  have B4 := below_next B1 (below_next hw2 (below_next hw3 hw4))
  have T4 := there_below (below_next hw2 (below_next hw3 hw4)) T1
  have Z4 : w.heap.size < w4.heap.size := Nat.lt_of_lt_of_le (by omega) (below_next hw2 (below_next hw3 hw4)).size
  clear B1 T1 hw2 hw3 hw4 Z1
  have i172 : (Tryd.prog.info? 172).map (·.size) = some 8 := by kernel_rfl
  obtain ⟨E, hE⟩ : ∃ E, E = stc st0 := ⟨_, rfl⟩
  have E8 : E.size = 8 := by rw [hE]; rfl
  have E1 : E.all (·.oneCell') = true := by rw [hE]; exact stc_one _
  have cB := sha_begin w4
  rw [← hE] at cB
  have HB := Lib.hid cB
  have HE := Lib.hid hE
  clear cB hE
  have T5 : ∀ w5 : World, (w5.alloc (Obj.cells #[Value.int IntKind.u32 0, Value.int IntKind.u32 0, Value.int IntKind.u32 0, Value.int IntKind.u32 0, Value.int IntKind.u32 0, Value.int IntKind.u32 0, Value.int IntKind.u32 0, Value.int IntKind.u32 0] 172)).there w5.heap.size 0 8 := fun w5 => there_block (heap_alloc_is _ _ _ rfl) 0 8 (by decide)
  go_wp2_with (first
    | (go_at_call 148; refine HB.out.mono ?_; rintro e w5 ⟨rfl, hw5⟩)
    | (refine l_storeR rfl rfl rfl rfl E8 (T5 _) i172 E1 ?_))
  have Z5 : w.heap.size < w5.heap.size := Nat.lt_of_lt_of_le Z4 hw5.size
  refine wp_gen (fun w6 => Stat w6 w5.heap.size (stAt p 0) ∧ w6.there w.heap.size 0 32 ∧ Below w.heap.size w w6) ?_ ?_
  · rw [HE.out]
    exact ⟨Stat.put (T5 w5) _, World.there_setCells (World.there_alloc (there_below hw5 T4) _) _ _ _, below_setCells _ _ _ ((below_next B4 hw5).alloc (by omega) _) (by omega)⟩
  clear B4 T4 Z4 hw5 HB HE T5 E8 E1
  rintro w6 ⟨S6, T6, B6⟩
  generalize w5.heap.size = g at S6 Z5 ⊢
  go_frame
  go_loopg [3] (p.size / 64) (fun n x wr => ∃ k : Nat, k + n = p.size / 64 ∧ x = .string (p.extract (64 * k) p.size) ∧ Stat wr g (stAt p k) ∧ wr.there w.heap.size 0 32 ∧ Below w.heap.size w wr)
  case atStart => exact ⟨0, by omega, by rw [show 64 * 0 = 0 from rfl, ByteArray.extract_zero_size], S6, T6, B6⟩
  case round =>
    obtain ⟨k, hk, rfl, s1, t1, hb⟩ := hrel
    clear S6 T6 B6
    have q1 : (p.extract (64 * k) p.size).size = p.size - 64 * k := by simp
    have q2 : (p.extract (64 * k) p.size).extract 0 64 = chunk p k := by
      rw [ByteArray.extract_extract]; unfold chunk
      by_cases hlt : k < p.size / 64
      · congr 1; omega
      · apply ByteArray.ext; apply Array.toList_inj.1; simp; omega
    have q3 : (p.extract (64 * k) p.size).extract 64 (p.extract (64 * k) p.size).size = p.extract (64 * (k + 1)) p.size := by
      rw [q1, ByteArray.extract_extract]; congr 1; omega
    generalize p.extract (64 * k) p.size = q at q1 q2 q3
    by_cases hlt : k < p.size / 64
    · have hq : 64 ≤ q.size := by omega
      have he : q.toList.isEmpty = false := by rw [isEmpty_of]; exact decide_eq_false (by omega)
      obtain ⟨E, hE⟩ : ∃ E, E = stc (stAt p k) := ⟨_, rfl⟩
      have E8 : E.size = 8 := by rw [hE]; rfl
      have R1 := s1.1
      rw [← hE] at R1
      have HS1 := Lib.hid s1
      have H2 := Lib.hid q1
      have H3 := Lib.hid q2
      have H4 := Lib.hid q3
      have hmx := sha_mix (stAt p k) (chunk p k) (by rw [chunk]; simp; omega)
      rw [← hE, ← q2] at hmx
      clear s1 q1 q2 q3 hp64
      go_upto_region 7 with (fail)
      have HM := Lib.hid hmx
      have H1 := Lib.hid hE
      clear hE hmx
      have a1 : World.at_ wr ⟨g, 0, none⟩ E.toList := at_range R1
      have htw := tab_below hb ht
      have HTW := Lib.hid htw
      clear htw
      have i172' : (Tryd.prog.info? 172).map (·.size) = some E.toList.length := by rw [Array.length_toList, E8]; exact i172
      go_upto_region 7 with (fail)
      refine wp_num (fun w' => Below wr.heap.size wr w') [0, 1, 2] (.c (0, none, none) (.c (1, none, none) (.c (2, none, none) (.c (3, some true, none) (.c (4, some false, none) (.nil)))))) (by kernel_rfl) (by kernel_rfl) (by kernel_rfl) (fun _ _ d _ _ h => by cases d <;> exact h) (by kernel_rfl) ((Below.refl _ _).drew) ?_
      simp only [selE, nthO]
      refine p_load rfl rfl (fun w' hb => rangeAt_below hb (by assumption)) Tryd.underlying172 rfl (by first | assumption | (simp only [*]; done)) ?_
      simp only [Act.put, List.setIfInBounds_toArray, List.set_cons_zero, List.set_cons_succ, Array.toArray_toList]
      apply p_q
      focus (intro w' hb; go_simp <;> rfl)
      simp only [Act.put, List.setIfInBounds_toArray, List.set_cons_zero, List.set_cons_succ, Array.toArray_toList]
      apply p_qL (ops0 := #[]) rfl rfl rfl (Nat.le_of_ble_eq_true rfl)
      focus (intro w' hb; go_wp2_with fail; refine ⟨rfl, ?_, rfl⟩; simp only [List.getElem?_toArray, List.getElem?_cons_zero, List.getElem?_cons_succ, Option.some.injEq]; rfl)
      simp only [Act.put, List.setIfInBounds_toArray, List.set_cons_zero, List.set_cons_succ, Array.toArray_toList]
      refine p_list (ops := #[]) rfl ?_
      go_wp2_with fail
      refine (HM.out _ (tab_below ((Below.refl wr.heap.size wr).drew) HTW.out)).mono ?_
      rintro e w7 ⟨rfl, hw7⟩
      go_wp2_with fail
      have Bw7 : Below wr.heap.size wr w7 := below_next ((Below.refl wr.heap.size wr).drew) hw7
      refine ⟨fun _ => Bw7, ?_⟩
      obtain ⟨F, hF⟩ : ∃ F, F = stc (mixM (stAt p k) (q.extract 0 64)) := ⟨_, rfl⟩
      have F8 : F.size = 8 := by rw [hF]; rfl
      have F1 : F.all (·.oneCell') = true := by rw [hF]; exact stc_one _
      rw [← hF]
      have S7 := HS1.out.below Bw7
      refine p_store rfl rfl rfl (by rw [F8]; exact S7.2) (by rw [F8]; exact i172) F1 (fun h => by cases h) ?_
      refine p_end ?_
      have HF := Lib.hid hF
      have b7 := below_next hb Bw7
      have t7 := there_below Bw7 t1
      clear hF R1 a1 hw7 Bw7 t1 hb
      go_wp2
      go_roundg (gk - 1)
      case measure => omega
      case rel =>
        refine ⟨k + 1, by omega, by rw [H4.out], ?_, World.there_setCells t7 _ _ _, below_setCells _ _ _ b7 (by omega)⟩
        rw [HF.out, H3.out]
        exact Stat.put S7.2 _
    · have he : q.toList.isEmpty = true := by rw [isEmpty_of]; exact decide_eq_true (by omega)
      obtain rfl : k = p.size / 64 := by omega
      clear hk q1 q2 q3 hlt hp64 ht
      generalize stAt p (p.size / 64) = R at s1 HPS
      have Zg : g < wr.heap.size := by
        have := World.block_lt_of_cell? wr ⟨g, 0, none⟩ s1.cells.1
        exact this
      obtain ⟨o, ho⟩ : ∃ o, o = wr.heap.size := ⟨_, rfl⟩
      go_wp2
      refine wp_gen (fun w7 => Stat w7 g R ∧ w7.heap[o]? = some (.cells (outp R 0) 24 (0, 0)) ∧ w7.there w.heap.size 0 32 ∧ Below w.heap.size w w7) ?_ ?_
      · rw [ho]
        exact ⟨⟨World.rangeAt_alloc s1.1 _, World.there_alloc s1.2 _⟩, heap_alloc_is _ _ _ rfl, World.there_alloc t1 _, hb.alloc (by omega) _⟩
      clear s1 t1 hb
      rw [← ho]
      rw [← ho] at Zg
      clear ho
      rintro w7 ⟨s1, o1, t1, hb⟩
      go_loopg [32] 32 (fun n i wz => ∃ j : Nat, j + n = 32 ∧ i = .int .i64 j ∧ Stat wz g R ∧ wz.heap[o]? = some (.cells (outp R j) 24 (0, 0)) ∧ wz.there w.heap.size 0 32 ∧ Below w.heap.size w wz)
      case atStart => exact ⟨0, by omega, rfl, s1, o1, t1, hb⟩
      case round =>
        clear s1 o1 t1 hb
        obtain ⟨j, hj, rfl, s1, o1, t1, hb⟩ := hrel
        by_cases hlt : j < 32
        · have d1 : wr.cell? ⟨g, j / 4, none⟩ = some (.int .u32 (wv ((sl R).getD (j / 4) 0))) := by have := s1.1 (j / 4) _ (stc_get R (j / 4) (by omega)); rwa [Nat.zero_add] at this
          obtain ⟨x, hx⟩ : ∃ x, x = (sl R).getD (j / 4) 0 := ⟨_, rfl⟩
          rw [← hx] at d1
          have o2 : wr.cell? ⟨o, j, none⟩ = some (.int .u8 0) := by rw [cell_of_row _ _ _ _ _ _ o1]; exact outp_get R j hlt
          have o3 : wr.frozen? ⟨o, j, none⟩ = false := frozen_of_row _ _ _ _ _ o1
          have HB := Lib.hid (And.intro hx (And.intro s1 (And.intro o1 (And.intro t1 hb))))
          clear hx s1 o1 t1 hb
          go_wp2
          obtain ⟨hx, s1, o1, t1, hb⟩ := HB.out
          rw [by8_num]
          go_roundg (gk - 1)
          case measure => omega
          case rel =>
            refine ⟨j + 1, by omega, by go_num, ⟨rangeAt_setCell _ s1.1 (by simp; omega), there_setCell _ s1.2 (by simp; omega)⟩, ?_, there_setCell _ t1 (by simp; omega), hb.setCell (by simp; omega) _⟩
            exact (heap_setCell_same wr _ j _ _ _ o1).trans (by rw [hx, outp_set R j hlt])
        · obtain rfl : j = 32 := by omega
          rw [outp_32] at o1
          clear s1
          have n32 : (outS R).size = 32 := rfl
          have HN := Lib.hid n32
          obtain ⟨O, hO⟩ : ∃ O, O = outS R := ⟨_, rfl⟩
          have HO := Lib.hid hO
          rw [← hO] at o1 n32
          clear hO
          go_wp2_with (first
            | (refine l_loadH rfl rfl rfl (at_block o1) n32 Tryd.underlying24 Tryd.info24 ?_)
            | (refine l_storeH rfl rfl rfl rfl t1 n32 Tryd.info24 ?_))
          exact ret_H rfl rfl t1 n32 Tryd.underlying24 Tryd.info24 rfl ⟨by rw [HO.out, ← HPS.out, HS.out], below_setCells _ _ _ hb (by omega)⟩
end Go.Proofs.YtlkjeneffohnkaaDoor
