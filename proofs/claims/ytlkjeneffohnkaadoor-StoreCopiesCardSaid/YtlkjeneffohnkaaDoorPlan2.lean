import Derived.Test.YtlkjeneffohnkaaDoorPlan
namespace Go.Proofs.Plan
open Go
variable {P : Program} {ops : Array Oper} {Q : Exit → Act → World → Prop} {S : World → Prop} {r : EP} {a : Act} {w : World} {o : Oper} {b : Bool} {g : Option (Tmp × Bool)}
/-- the operation without its guard -/
def bare (o : Oper) : Oper := { o with guard := none }
theorem exec_bare (ρ : Operand → Value) (o : Oper) : execOp ρ (bare o) = execOp ρ o := rfl
/-- a quiet operation whose guard does not hold -/
theorem p_skip (h0 : gd g a = false) (h : wpP P Q S r (a.put o.dst undef) w) : wpP P Q S (.c (o, none, g) r) a w := by
  simp only [wpP, h0]; exact h
theorem p_skipA (h0 : gd g a = false) (hS : b = true → S w) (h : wpP P Q S r (a.put o.dst undef) w) : wpP P Q S (.c (o, some b, g) r) a w := by
  simp only [wpP, h0]; exact ⟨hS, h⟩
/-- .. whose guard holds -/
theorem p_go {k : Option Bool} (h0 : gd g a = true) (h : wpP P Q S (.c (bare o, k, none) r) a w) : wpP P Q S (.c (o, k, g) r) a w := by
  cases k with
  | none =>
    simp only [wpP, h0, if_true] at h ⊢
    exact h
  | some b =>
    simp only [wpP, h0, if_true] at h ⊢
    exact h
end Go.Proofs.Plan
