import Derived.Test.YtlkjeneffohnkaaDoorKinds
import Derived.ChangeKeysEq
import Derived.Laws.StructEq
set_option linter.unusedVariables false
set_option linter.unusedSimpArgs false
namespace Go.Proofs.YtlkjeneffohnkaaDoor
open Go.RowKit Go.Proofs Go.Proofs.Plan Go.Proofs.YtlkjeneffohnkaaDoorW.PrintWords
theorem run_items {P : Program} {e : TypeId} (w : World) (he : P.underlying e = some (.int .u8)) (hp : P.plainKey e = true) (hs : P.cellsOf e = 1) (a b : ByteArray) (ha : a.size = 32) (hb : b.size = 32) (d : Nat) :
    ∀ is : List Nat, (∀ i ∈ is, i < 32) → (Op.eqItems (d + 1) e (P.cellsOf e) (hv a) (hv b) is).run P w = .ok (is.all fun i => a.data.toList[i]? == b.data.toList[i]?) w
  | [], _ => by simp [Op.eqItems]
  | i :: is, h => by
    have hi : i < 32 := h i (by simp)
    have la : i < a.data.toList.length := by rw [← Lib.size_eq, ha]; exact hi
    have lb : i < b.data.toList.length := by rw [← Lib.size_eq, hb]; exact hi
    obtain ⟨x, hx⟩ : ∃ x : UInt8, a.data.toList[i]? = some x := ⟨_, List.getElem?_eq_getElem la⟩
    obtain ⟨y, hy⟩ : ∃ y : UInt8, b.data.toList[i]? = some y := ⟨_, List.getElem?_eq_getElem lb⟩
    have hx' : (hc a)[i]? = some (.int .u8 (x.toNat : Int)) := by rw [hc, List.getElem?_map, hx]; rfl
    have hy' : (hc b)[i]? = some (.int .u8 (y.toNat : Int)) := by rw [hc, List.getElem?_map, hy]; rfl
    have px := run_part_plain (P := P) (w := w) hp (xs := hv a) (off := i * P.cellsOf e) (v := .int .u8 (x.toNat : Int)) (by rw [hs, Nat.mul_one]; simpa [hv] using hx')
    have py := run_part_plain (P := P) (w := w) hp (xs := hv b) (off := i * P.cellsOf e) (v := .int .u8 (y.toNat : Int)) (by rw [hs, Nat.mul_one]; simpa [hv] using hy')
    have ih := run_items w he hp hs a b ha hb d is (fun j hj => h j (by simp [hj]))
    simp only [Op.eqItems, Sem.run_bind, px, py, Result.andThen_ok, run_equalIn_int (P := P) (w := w) d e .u8 .u8 _ _ he, List.all_cons, hx, hy]
    by_cases hxy : x = y
    · subst hxy
      simp [ih]
    · have h1 : ((x.toNat : Int) == (y.toNat : Int)) = false := by
        simp only [beq_eq_false_iff_ne, ne_eq]
        intro e; exact hxy (UInt8.toNat_inj.1 (by omega))
      simp [h1, hxy]
theorem run_eqH {P : Program} {t e : TypeId} {i : TypeInfo} (hu : P.underlying t = some (.array 32 e)) (he : P.underlying e = some (.int .u8)) (hp : P.plainKey e = true) (hs : P.cellsOf e = 1) (hi : P.info? e = some i) (a b : ByteArray) (ha : a.size = 32) (hb : b.size = 32) (w : World) :
    (Op.equalIn 10000 t (.agg (hv a)) (.agg (hv b))).run P w = .ok (decide (a = b)) w := by
  rw [run_equalIn_array w 9999 (hv a) (hv b) hu hi, run_items w he hp hs a b ha hb 9998 _ (fun i hi => by simpa using hi)]
  congr 1
  rw [Bool.eq_iff_iff, List.all_eq_true, decide_eq_true_eq]
  constructor
  · intro h
    refine ByteArray.ext (Array.toList_inj.1 (List.ext_getElem? fun i => ?_))
    by_cases hi : i < 32
    · exact beq_iff_eq.1 (h i (by simpa using hi))
    · rw [List.getElem?_eq_none (by rw [← Lib.size_eq]; omega), List.getElem?_eq_none (by rw [← Lib.size_eq]; omega)]
  · rintro rfl i _
    simp
end Go.Proofs.YtlkjeneffohnkaaDoor
