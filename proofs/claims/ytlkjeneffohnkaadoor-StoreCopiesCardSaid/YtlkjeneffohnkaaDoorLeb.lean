import Derived.Test.YtlkjeneffohnkaaDoorKinds
import Derived.Test.YtlkjeneffohnkaaDoorMo
import Derived.Handy
set_option linter.unusedVariables false
set_option linter.unusedSimpArgs false
namespace Go.Proofs.YtlkjeneffohnkaaDoor
open Go.RowKit Go.Proofs Go.Proofs.Plan Go.Proofs.YtlkjeneffohnkaaDoorW.PrintWords
theorem leb_may (n : Nat) (h : n ≤ 72057594037927935) (w : World) : Calls Tryd.prog 150 #[.int .i64 n] w fun e w' => e = .returned (.bool true) ∧ w = w' := by
  have h0 : decide (0 ≤ (n : Int)) = true := by simp
  have h1 : decide ((n : Int) ≤ 72057594037927935) = true := by simp; omega
  go_enter Tryd.func150, Tryd.ntmps150
  go_wp2
  go_ret
  exact ⟨rfl, rfl⟩
theorem eight_nums (n : Nat) (h : n ≤ 72057594037927935) : strOfNums [(n : Int) / 72057594037927936, (n : Int) / 281474976710656, (n : Int) / 1099511627776 % 256, (n : Int) / 4294967296 % 256, (n : Int) / 16777216 % 256, (n : Int) / 65536 % 256, (n : Int) / 256 % 256, (n : Int) % 256] = eight n := by
  have t : ∀ (a : Int) (b : Nat), a.toNat % 256 = b % 256 → UInt8.ofNat a.toNat = b.toUInt8 := fun a b e => by
    apply UInt8.toNat_inj.1
    simpa using e
  simp only [strOfNums, List.map_cons, List.map_nil, eight]
  rw [t _ (n / 72057594037927936) (by omega), t _ (n / 281474976710656) (by omega), t _ (n / 1099511627776) (by omega), t _ (n / 4294967296) (by omega), t _ (n / 16777216) (by omega), t _ (n / 65536) (by omega), t _ (n / 256) (by omega), t _ n (by omega)]
set_option maxRecDepth 100000 in
theorem leb_Eight (n : Nat) (h : n ≤ 72057594037927935) (w : World) : Calls Tryd.prog 118 #[.int .i64 n] w fun e w' => e = .returned (.string (eight n)) ∧ Below w.heap.size w w' := by
  have kc := run_convert_new (P := Tryd.prog) 157 5 Tryd.underlying157 Tryd.underlying5 w 188 [(n : Int) / 72057594037927936, (n : Int) / 281474976710656, (n : Int) / 1099511627776 % 256, (n : Int) / 4294967296 % 256, (n : Int) / 16777216 % 256, (n : Int) / 65536 % 256, (n : Int) / 256 % 256, (n : Int) % 256] 8 8 rfl 9 Tryd.underlying9
  rw [eight_nums n h] at kc
  simp only [List.map_cons, List.map_nil] at kc
  go_enter Tryd.func118, Tryd.ntmps118
  go_wp2_with (go_at_call 150; refine (leb_may n h _).mono ?_; rintro e w' ⟨rfl, rfl⟩)
  refine wp_loop_rounds 9 ?_
  iterate 9 (rw [rounds_succ]; go_wp2)
  go_ret
  exact ⟨rfl, (Below.refl _ _).alloc (Nat.le_refl _) _⟩
end Go.Proofs.YtlkjeneffohnkaaDoor
