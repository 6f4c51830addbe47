import Derived.Test.YtlkjeneffohnkaaDoorKinds
import Derived.Handy
set_option linter.unusedVariables false
set_option linter.unusedSimpArgs false
namespace Go.Proofs.YtlkjeneffohnkaaDoor
open Go.RowKit Go.Proofs Go.Proofs.Plan Go.Proofs.YtlkjeneffohnkaaDoorW.PrintWords
/-- a word, as the machine holds it -/
def wv (x : BitVec 32) : Int := (x.toNat : Int)
theorem wv_range (x : BitVec 32) : 0 ≤ wv x ∧ wv x < 4294967296 := by unfold wv; have := x.isLt; omega
theorem wv_of (x : BitVec 32) : BitVec.ofInt 32 (wv x) = x := by simp [wv]
theorem wv_xor (x y : BitVec 32) : bits BinOp.xor IntKind.u32 (wv x) (wv y) = wv (x ^^^ y) := by
  have h := (x ^^^ y).isLt
  have e : bits BinOp.xor IntKind.u32 (wv x) (wv y) = IntKind.u32.wrap (((x ^^^ y).toNat : Nat) : Int) := by
    have h1 := wv_of x
    have h2 := wv_of y
    show IntKind.u32.wrap (((BitVec.ofInt 32 (wv x)) ^^^ (BitVec.ofInt 32 (wv y))).toNat : Int) = _
    rw [h1, h2]
  rw [e, IntKind.wrap_u32]
  unfold wv
  omega
theorem wv_and (x y : BitVec 32) : bits BinOp.and IntKind.u32 (wv x) (wv y) = wv (x &&& y) := by
  have h := (x &&& y).isLt
  have e : bits BinOp.and IntKind.u32 (wv x) (wv y) = IntKind.u32.wrap (((x &&& y).toNat : Nat) : Int) := by
    have h1 := wv_of x
    have h2 := wv_of y
    show IntKind.u32.wrap (((BitVec.ofInt 32 (wv x)) &&& (BitVec.ofInt 32 (wv y))).toNat : Int) = _
    rw [h1, h2]
  rw [e, IntKind.wrap_u32]
  unfold wv
  omega
theorem wv_or (x y : BitVec 32) : bits BinOp.or IntKind.u32 (wv x) (wv y) = wv (x ||| y) := by
  have h := (x ||| y).isLt
  have e : bits BinOp.or IntKind.u32 (wv x) (wv y) = IntKind.u32.wrap (((x ||| y).toNat : Nat) : Int) := by
    have h1 := wv_of x
    have h2 := wv_of y
    show IntKind.u32.wrap (((BitVec.ofInt 32 (wv x)) ||| (BitVec.ofInt 32 (wv y))).toNat : Int) = _
    rw [h1, h2]
  rw [e, IntKind.wrap_u32]
  unfold wv
  omega
theorem wv_add (x y : BitVec 32) : (wv x + wv y) % 4294967296 = wv (x + y) := by
  simp only [wv, BitVec.toNat_add]; omega
theorem wv_addw (x y : BitVec 32) : IntKind.u32.wrap (wv x + wv y) = wv (x + y) := by rw [IntKind.wrap_u32, wv_add]
theorem wv_add4 (x y z u : BitVec 32) : (wv x + wv y + wv z + wv u) % 4294967296 = wv (x + y + z + u) := by
  simp only [wv, BitVec.toNat_add]; omega
theorem wv_shl (x : BitVec 32) (s : Nat) : (wv x * ((2 ^ s : Nat) : Int)) % 4294967296 = wv (x <<< s) := by
  simp only [wv, BitVec.toNat_shiftLeft, Nat.shiftLeft_eq]; omega
theorem wv_shr (x : BitVec 32) (s : Nat) : wv x / ((2 ^ s : Nat) : Int) = wv (x >>> s) := by
  simp only [wv, BitVec.toNat_ushiftRight, Nat.shiftRight_eq_div_pow]; omega
theorem wv_rr2 (x : BitVec 32) : bits BinOp.or IntKind.u32 (wv x * 1073741824 % 4294967296) (wv x / 4) = wv (rr x 2) := by
  have e1 : wv x * (1073741824 : Int) % (4294967296 : Int) = wv (x <<< 30) := wv_shl x 30
  have e2 : wv x / (4 : Int) = wv (x >>> 2) := wv_shr x 2
  rw [e1, e2, wv_or]; rfl
theorem rot2 (x : BitVec 32) (w : World) : Calls Tryd.prog 175 #[.int .u32 (wv x), .int .i64 (-2)] w fun e w' => e = .returned (.int .u32 (wv (rr x 2))) ∧ w = w' := by
  have hb : bits BinOp.and IntKind.u64 (IntKind.u64.wrap (-2)) 31 = 30 := by decide
  obtain ⟨h0, h1⟩ := wv_range x
  go_enter Tryd.func175, Tryd.ntmps175
  go_wp2
  go_ret
  exact ⟨congrArg (fun z => Ending.returned (.int .u32 z)) (wv_rr2 x), rfl⟩
theorem wv_rr6 (x : BitVec 32) : bits BinOp.or IntKind.u32 (wv x * 67108864 % 4294967296) (wv x / 64) = wv (rr x 6) := by
  have e1 : wv x * (67108864 : Int) % (4294967296 : Int) = wv (x <<< 26) := wv_shl x 26
  have e2 : wv x / (64 : Int) = wv (x >>> 6) := wv_shr x 6
  rw [e1, e2, wv_or]; rfl
theorem rot6 (x : BitVec 32) (w : World) : Calls Tryd.prog 175 #[.int .u32 (wv x), .int .i64 (-6)] w fun e w' => e = .returned (.int .u32 (wv (rr x 6))) ∧ w = w' := by
  have hb : bits BinOp.and IntKind.u64 (IntKind.u64.wrap (-6)) 31 = 26 := by decide
  obtain ⟨h0, h1⟩ := wv_range x
  go_enter Tryd.func175, Tryd.ntmps175
  go_wp2
  go_ret
  exact ⟨congrArg (fun z => Ending.returned (.int .u32 z)) (wv_rr6 x), rfl⟩
theorem wv_rr7 (x : BitVec 32) : bits BinOp.or IntKind.u32 (wv x * 33554432 % 4294967296) (wv x / 128) = wv (rr x 7) := by
  have e1 : wv x * (33554432 : Int) % (4294967296 : Int) = wv (x <<< 25) := wv_shl x 25
  have e2 : wv x / (128 : Int) = wv (x >>> 7) := wv_shr x 7
  rw [e1, e2, wv_or]; rfl
theorem rot7 (x : BitVec 32) (w : World) : Calls Tryd.prog 175 #[.int .u32 (wv x), .int .i64 (-7)] w fun e w' => e = .returned (.int .u32 (wv (rr x 7))) ∧ w = w' := by
  have hb : bits BinOp.and IntKind.u64 (IntKind.u64.wrap (-7)) 31 = 25 := by decide
  obtain ⟨h0, h1⟩ := wv_range x
  go_enter Tryd.func175, Tryd.ntmps175
  go_wp2
  go_ret
  exact ⟨congrArg (fun z => Ending.returned (.int .u32 z)) (wv_rr7 x), rfl⟩
theorem wv_rr11 (x : BitVec 32) : bits BinOp.or IntKind.u32 (wv x * 2097152 % 4294967296) (wv x / 2048) = wv (rr x 11) := by
  have e1 : wv x * (2097152 : Int) % (4294967296 : Int) = wv (x <<< 21) := wv_shl x 21
  have e2 : wv x / (2048 : Int) = wv (x >>> 11) := wv_shr x 11
  rw [e1, e2, wv_or]; rfl
theorem rot11 (x : BitVec 32) (w : World) : Calls Tryd.prog 175 #[.int .u32 (wv x), .int .i64 (-11)] w fun e w' => e = .returned (.int .u32 (wv (rr x 11))) ∧ w = w' := by
  have hb : bits BinOp.and IntKind.u64 (IntKind.u64.wrap (-11)) 31 = 21 := by decide
  obtain ⟨h0, h1⟩ := wv_range x
  go_enter Tryd.func175, Tryd.ntmps175
  go_wp2
  go_ret
  exact ⟨congrArg (fun z => Ending.returned (.int .u32 z)) (wv_rr11 x), rfl⟩
theorem wv_rr13 (x : BitVec 32) : bits BinOp.or IntKind.u32 (wv x * 524288 % 4294967296) (wv x / 8192) = wv (rr x 13) := by
  have e1 : wv x * (524288 : Int) % (4294967296 : Int) = wv (x <<< 19) := wv_shl x 19
  have e2 : wv x / (8192 : Int) = wv (x >>> 13) := wv_shr x 13
  rw [e1, e2, wv_or]; rfl
theorem rot13 (x : BitVec 32) (w : World) : Calls Tryd.prog 175 #[.int .u32 (wv x), .int .i64 (-13)] w fun e w' => e = .returned (.int .u32 (wv (rr x 13))) ∧ w = w' := by
  have hb : bits BinOp.and IntKind.u64 (IntKind.u64.wrap (-13)) 31 = 19 := by decide
  obtain ⟨h0, h1⟩ := wv_range x
  go_enter Tryd.func175, Tryd.ntmps175
  go_wp2
  go_ret
  exact ⟨congrArg (fun z => Ending.returned (.int .u32 z)) (wv_rr13 x), rfl⟩
theorem wv_rr17 (x : BitVec 32) : bits BinOp.or IntKind.u32 (wv x * 32768 % 4294967296) (wv x / 131072) = wv (rr x 17) := by
  have e1 : wv x * (32768 : Int) % (4294967296 : Int) = wv (x <<< 15) := wv_shl x 15
  have e2 : wv x / (131072 : Int) = wv (x >>> 17) := wv_shr x 17
  rw [e1, e2, wv_or]; rfl
theorem rot17 (x : BitVec 32) (w : World) : Calls Tryd.prog 175 #[.int .u32 (wv x), .int .i64 (-17)] w fun e w' => e = .returned (.int .u32 (wv (rr x 17))) ∧ w = w' := by
  have hb : bits BinOp.and IntKind.u64 (IntKind.u64.wrap (-17)) 31 = 15 := by decide
  obtain ⟨h0, h1⟩ := wv_range x
  go_enter Tryd.func175, Tryd.ntmps175
  go_wp2
  go_ret
  exact ⟨congrArg (fun z => Ending.returned (.int .u32 z)) (wv_rr17 x), rfl⟩
theorem wv_rr18 (x : BitVec 32) : bits BinOp.or IntKind.u32 (wv x * 16384 % 4294967296) (wv x / 262144) = wv (rr x 18) := by
  have e1 : wv x * (16384 : Int) % (4294967296 : Int) = wv (x <<< 14) := wv_shl x 14
  have e2 : wv x / (262144 : Int) = wv (x >>> 18) := wv_shr x 18
  rw [e1, e2, wv_or]; rfl
theorem rot18 (x : BitVec 32) (w : World) : Calls Tryd.prog 175 #[.int .u32 (wv x), .int .i64 (-18)] w fun e w' => e = .returned (.int .u32 (wv (rr x 18))) ∧ w = w' := by
  have hb : bits BinOp.and IntKind.u64 (IntKind.u64.wrap (-18)) 31 = 14 := by decide
  obtain ⟨h0, h1⟩ := wv_range x
  go_enter Tryd.func175, Tryd.ntmps175
  go_wp2
  go_ret
  exact ⟨congrArg (fun z => Ending.returned (.int .u32 z)) (wv_rr18 x), rfl⟩
theorem wv_rr19 (x : BitVec 32) : bits BinOp.or IntKind.u32 (wv x * 8192 % 4294967296) (wv x / 524288) = wv (rr x 19) := by
  have e1 : wv x * (8192 : Int) % (4294967296 : Int) = wv (x <<< 13) := wv_shl x 13
  have e2 : wv x / (524288 : Int) = wv (x >>> 19) := wv_shr x 19
  rw [e1, e2, wv_or]; rfl
theorem rot19 (x : BitVec 32) (w : World) : Calls Tryd.prog 175 #[.int .u32 (wv x), .int .i64 (-19)] w fun e w' => e = .returned (.int .u32 (wv (rr x 19))) ∧ w = w' := by
  have hb : bits BinOp.and IntKind.u64 (IntKind.u64.wrap (-19)) 31 = 13 := by decide
  obtain ⟨h0, h1⟩ := wv_range x
  go_enter Tryd.func175, Tryd.ntmps175
  go_wp2
  go_ret
  exact ⟨congrArg (fun z => Ending.returned (.int .u32 z)) (wv_rr19 x), rfl⟩
theorem wv_rr22 (x : BitVec 32) : bits BinOp.or IntKind.u32 (wv x * 1024 % 4294967296) (wv x / 4194304) = wv (rr x 22) := by
  have e1 : wv x * (1024 : Int) % (4294967296 : Int) = wv (x <<< 10) := wv_shl x 10
  have e2 : wv x / (4194304 : Int) = wv (x >>> 22) := wv_shr x 22
  rw [e1, e2, wv_or]; rfl
theorem rot22 (x : BitVec 32) (w : World) : Calls Tryd.prog 175 #[.int .u32 (wv x), .int .i64 (-22)] w fun e w' => e = .returned (.int .u32 (wv (rr x 22))) ∧ w = w' := by
  have hb : bits BinOp.and IntKind.u64 (IntKind.u64.wrap (-22)) 31 = 10 := by decide
  obtain ⟨h0, h1⟩ := wv_range x
  go_enter Tryd.func175, Tryd.ntmps175
  go_wp2
  go_ret
  exact ⟨congrArg (fun z => Ending.returned (.int .u32 z)) (wv_rr22 x), rfl⟩
theorem wv_rr25 (x : BitVec 32) : bits BinOp.or IntKind.u32 (wv x * 128 % 4294967296) (wv x / 33554432) = wv (rr x 25) := by
  have e1 : wv x * (128 : Int) % (4294967296 : Int) = wv (x <<< 7) := wv_shl x 7
  have e2 : wv x / (33554432 : Int) = wv (x >>> 25) := wv_shr x 25
  rw [e1, e2, wv_or]; rfl
theorem rot25 (x : BitVec 32) (w : World) : Calls Tryd.prog 175 #[.int .u32 (wv x), .int .i64 (-25)] w fun e w' => e = .returned (.int .u32 (wv (rr x 25))) ∧ w = w' := by
  have hb : bits BinOp.and IntKind.u64 (IntKind.u64.wrap (-25)) 31 = 7 := by decide
  obtain ⟨h0, h1⟩ := wv_range x
  go_enter Tryd.func175, Tryd.ntmps175
  go_wp2
  go_ret
  exact ⟨congrArg (fun z => Ending.returned (.int .u32 z)) (wv_rr25 x), rfl⟩
end Go.Proofs.YtlkjeneffohnkaaDoor
