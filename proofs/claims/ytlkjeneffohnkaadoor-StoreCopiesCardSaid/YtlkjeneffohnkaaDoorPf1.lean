import Derived.Test.YtlkjeneffohnkaaDoorTree6
import Derived.Test.YtlkjeneffohnkaaDoorPlan2
set_option linter.unusedVariables false
set_option linter.unusedSimpArgs false
namespace Go.Proofs.YtlkjeneffohnkaaDoor
open Go.RowKit Go.Proofs Go.Proofs.Plan Go.Proofs.YtlkjeneffohnkaaDoorW.PrintWords
/-! kinds: a pair; a leaf; a proof -/
def pc (p : Pr) : List Value := [.string p.key, .string p.val]
def kP : Kd Pr where
  sz := 2
  E := []
  K := fun _ p cs => cs = pc p
  M := fun _ _ _ p cs => cs = pc p
  K_len := fun h => by rw [h]; rfl
  K_one := fun h u hu => by
    rw [h] at hu
    simp only [pc, List.mem_cons, List.not_mem_nil, or_false] at hu
    rcases hu with rfl | rfl <;> rfl
  K_below := fun _ h => h
  K_of_M := fun h => h
  M_mono := fun _ h => h
  M_bound := fun h => h
  M_move := fun _ h => h
  M_lower := fun _ h => h
theorem at_cell {w : World} {ad : Addr} {cs : List Value} (h : World.at_ w ad cs) (j : Nat) {v : Value} (hj : cs[j]? = some v) : w.cell? (ad.add j) = some v := h j v hj
/-- element i of a list of pairs -/
theorem kP_get {w : World} {A : Option Addr} {n : Nat} {xs : List Pr} (h : kP.C w A n xs) (i : Nat) (hi : i < n) : ∃ ad, A = some ad ∧ World.at_ w (ad.add (i * 2)) (pc (xs.getD i dP)) := by
  obtain ⟨ad, c, e, hl, hk, hcell⟩ := Kd.C_get h dP (i : Int) (by omega) (by omega)
  rw [Int.toNat_natCast] at hk hcell
  obtain rfl : c = pc (xs.getD i dP) := hk
  exact ⟨ad, e, fun j v hj => by rw [add_add]; exact hcell j v hj⟩
theorem Tryd.info60 : (Tryd.prog.info? 60).map (·.size) = some 2 := by kernel_rfl
theorem zb (x : ByteArray) : x = ByteArray.empty ↔ x.size = 0 := ByteArray.size_eq_zero_iff.symm
set_option maxHeartbeats 1000000 in
set_option maxRecDepth 100000 in
theorem proof_sized (k v : Bs) (w : World) : Calls Tryd.prog 75 #[.string k, .string v] w fun e w' => e = .returned (.bool (sized k v)) ∧ w = w' := by
  have c0 : k.toList.isEmpty = decide (k.size = 0) := isEmpty_of
  have c1 : v.toList.isEmpty = decide (v.size = 0) := isEmpty_of
  unfold sized
  go_enter Tryd.func75, Tryd.ntmps75
  go_wp2
  all_goals simp only [zb] at *
  all_goals go_ret
  all_goals refine ⟨congrArg (fun b => Ending.returned (Value.bool b)) ?_, rfl⟩
  all_goals (rw [Bool.eq_iff_iff]; simp; omega)
theorem proof_sizedB (k v : Bs) (b : Bool) (h : sized k v = b) (w : World) : Calls Tryd.prog 75 #[.string k, .string v] w fun e w' => e = .returned (.bool b) ∧ w = w' := by
  subst h; exact proof_sized k v w
set_option maxHeartbeats 1000000 in
set_option maxRecDepth 100000 in
theorem proof_sums (A : Option Addr) (n c : Nat) (xs : List Pr) (w : World) (hn : n ≤ 1073741824) (hsz : ∀ x ∈ xs, x.key.size ≤ 4294967296 ∧ x.val.size ≤ 4294967296) (ht : Tab w) (h : kP.C w A n xs) :
    Calls Tryd.prog 78 #[.slice A n c] w fun e w' => ∃ v, e = .returned v ∧ kH.R 24 w' w.heap.size yes v (sums xs) ∧ Below w.heap.size w w' := by
  have hl := h.1
  have HT := Lib.hid ht
  have HS := Lib.hid hsz
  have HL := Lib.hid hl
  have HH := Lib.hid h
  clear ht hsz h hl
  go_enter Tryd.func78, Tryd.ntmps78
  go_wp2
  go_loopg [3, 8] n (fun g v i wr => ∃ k : Nat, k + g = n ∧ i = .int .i64 k ∧ kH.R 24 wr w.heap.size yes v (sums (xs.take k)) ∧ Below w.heap.size w wr)
  case atStart => exact ⟨0, by omega, rfl, Kd.R_nil _ _ _ _ _, Below.refl _ _⟩
  case round =>
    obtain ⟨k, hk, rfl, hr, hb⟩ := hrel
    by_cases hlt : k < n
    · obtain ⟨ad, rfl, hat⟩ := kP_get HH.out k hlt
      obtain ⟨x, hx⟩ : ∃ x, x = xs.getD k dP := ⟨_, rfl⟩
      rw [← hx] at hat
      have hat' : World.at_ wr (ad.add (k * 2)) [.string x.key, .string x.val] := at_below hb hat
      have hsx := HS.out x (by rw [hx]; exact getD_mem (by rw [HL.out]; exact hlt))
      have n32 : (leafH x.key x.val).size = 32 := sha_size _
      have HX := Lib.hid hx
      have hsl : (sums (xs.take k)).length ≤ 1073741824 := by rw [sums_length, List.length_take]; omega
      have HSL := Lib.hid hsl
      clear hx hat hsl
      go_wp2_with (first
        | (refine l_load rfl rfl rfl hat' Tryd.underlying60 rfl Tryd.info60 ?_)
        | (go_at_call 122; refine (tree_Leaf x.key x.val hsx.1 hsx.2 _ (tab_below (below_alloc hb _) HT.out)).mono ?_; rintro e w2 ⟨rfl, hw2⟩)
        | (refine l_lit1H rfl rfl rfl n32 Tryd.underlying112 Tryd.zeroH ?_)
        | (refine l_appendH (w0 := w) (base := w.heap.size) rfl rfl Tryd.underlying112 Tryd.zeroH rfl rfl n32 (Kd.R_below (Kd.R_alloc hr _) hw2) (below_next (below_alloc hb _) hw2) (below_next (below_alloc hb _) hw2).size HSL.out ?_; intro v1 w5 R5 B5))
      go_roundg (gk - 1)
      case measure => omega
      case rel =>
        refine ⟨k + 1, by omega, by go_num, ?_, B5⟩
        have e : sums (xs.take (k + 1)) = sums (xs.take k) ++ [leafH x.key x.val] := by
          have hk' : k < xs.length := by rw [HL.out]; exact hlt
          unfold sums
          rw [List.take_add_one, List.getElem?_eq_getElem hk', HX.out, getD_lt xs dP hk', List.map_append]
          rfl
        rw [e]; exact R5
    · obtain rfl : k = n := by omega
      have e : xs.take k = xs := List.take_of_length_le (by rw [HL.out]; exact Nat.le_refl _)
      rw [e] at hr
      go_wp2
      go_ret
      exact ⟨_, rfl, hr, hb⟩
set_option maxHeartbeats 1000000 in
set_option maxRecDepth 100000 in
theorem proof_Root (A : Option Addr) (n c : Nat) (xs : List Pr) (w : World) (hn : n ≤ 1073741824) (hsz : ∀ x ∈ xs, x.key.size ≤ 4294967296 ∧ x.val.size ≤ 4294967296) (ht : Tab w) (h : kP.C w A n xs) :
    Calls Tryd.prog 18 #[.slice A n c] w fun e w' => e = .returned (.agg (hv (rootOf xs))) ∧ Below w.heap.size w w' := by
  have n32 : (rootOf xs).size = 32 := sha_size _
  have ht32 := top_size (sums xs) (sums_32 xs)
  have hro : rootOf xs = rootH n (top (sums xs)) := by rw [← h.1]; rfl
  have HR := Lib.hid hro
  have HT := Lib.hid ht
  have HS := Lib.hid hsz
  have HL := Lib.hid h.1
  have HH := Lib.hid h
  clear hro ht hsz h
  go_enter Tryd.func18, Tryd.ntmps18
  go_upto_region 1 with (fail)
  refine wp_res 32 rfl ?_
  intro w1 B1 T1 Z1
  have HZ := Lib.hid Z1
  clear Z1
  go_wp2_with (first
    | (go_at_call 78; refine (proof_sums A n c xs _ hn HS.out (tab_below B1 HT.out) (Kd.C_below HH.out B1)).mono ?_; rintro e w2 ⟨v, rfl, R2, hw2⟩; obtain ⟨A3, c3, rfl, hc3, C3⟩ := Kd.R_reads R2; rw [sums_length, HL.out] at hc3 C3 ⊢)
    | (go_at_call 77; refine (tree_Top n A3 c3 (sums xs) _ (tab_below (below_next B1 hw2) HT.out) C3 hc3 hn).mono ?_; rintro e w3 ⟨rfl, hw3⟩)
    | (go_at_call 76; refine (tree_Root n hn _ ht32 _ (tab_below (below_next (below_next B1 hw2) hw3) HT.out)).mono ?_; rintro e w4 ⟨rfl, hw4⟩; rw [← HR.out])
    | (refine l_storeH rfl rfl rfl rfl (there_below (below_next hw2 (below_next hw3 hw4)) T1) n32 Tryd.info24 ?_))
  exact ret_H rfl rfl (there_below (below_next hw2 (below_next hw3 hw4)) T1) n32 Tryd.underlying24 Tryd.info24 rfl ⟨rfl, below_setCells _ _ _ (below_next B1 (below_next hw2 (below_next hw3 hw4))) (by omega)⟩
end Go.Proofs.YtlkjeneffohnkaaDoor
