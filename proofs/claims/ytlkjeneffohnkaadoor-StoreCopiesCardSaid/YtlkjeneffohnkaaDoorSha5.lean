import Derived.Test.YtlkjeneffohnkaaDoorSha4
import Derived.Test.YtlkjeneffohnkaaDoorLeb
import Derived.Test.YtlkjeneffohnkaaDoorShelf
set_option linter.unusedVariables false
set_option linter.unusedSimpArgs false
namespace Go.Proofs.YtlkjeneffohnkaaDoor
open Go.RowKit Go.Proofs Go.Proofs.Plan Go.Proofs.YtlkjeneffohnkaaDoorW.PrintWords
set_option maxRecDepth 100000 in
theorem sha_length (n : Nat) (h : n ≤ 140737488355328) (w : World) : Calls Tryd.prog 147 #[.int .i64 n] w fun e w' => e = .returned (.string (eight (n * 8))) ∧ Below w.heap.size w w' := by
  have kc := run_convert_new (P := Tryd.prog) 157 5 Tryd.underlying157 Tryd.underlying5 w 188 [(n : Int) * 8 / 72057594037927936, (n : Int) * 8 / 281474976710656, (n : Int) * 8 / 1099511627776 % 256, (n : Int) * 8 / 4294967296 % 256, (n : Int) * 8 / 16777216 % 256, (n : Int) * 8 / 65536 % 256, (n : Int) * 8 / 256 % 256, (n : Int) * 8 % 256] 8 8 rfl 9 Tryd.underlying9
  rw [show (n : Int) * 8 = ((n * 8 : Nat) : Int) by omega, eight_nums (n * 8) (by omega), ← show (n : Int) * 8 = ((n * 8 : Nat) : Int) by omega] at kc
  simp only [List.map_cons, List.map_nil] at kc
  go_enter Tryd.func147, Tryd.ntmps147
  go_wp2
  refine wp_loop_rounds 9 ?_
  iterate 9 (rw [rounds_succ]; go_wp2)
  go_ret
  exact ⟨rfl, (Below.refl _ _).alloc (Nat.le_refl _) _⟩
theorem begin_cells : [Value.int .u32 1779033703, .int .u32 3144134277, .int .u32 1013904242, .int .u32 2773480762, .int .u32 1359893119, .int .u32 2600822924, .int .u32 528734635, .int .u32 1541459225] = (stc st0).toList := by kernel_rfl
set_option maxRecDepth 100000 in
theorem sha_begin (w : World) : Calls Tryd.prog 148 #[] w fun e w' => e = .returned (.agg (stc st0)) ∧ Below w.heap.size w w' := by
  have i172 : (Tryd.prog.info? 172).map (·.size) = some 8 := by kernel_rfl
  go_enter Tryd.func148, Tryd.ntmps148
  go_upto_region 1 with (fail)
  refine wp_res 8 rfl ?_
  intro w1 B1 T1 Z1
  refine wp_region_lit ?_
  iterate 3 go_step
  refine l_store rfl rfl rfl rfl ?_ ?_ ?_ ?_
  · exact T1
  · exact i172
  · exact one8 _ _ _ _ _ _ _ _
  rw [begin_cells]
  generalize hE : stc st0 = E
  have E8 : E.size = 8 := by rw [← hE]; rfl
  go_wp2
  exact ret_R rfl rfl T1 E8 Tryd.underlying172 i172 rfl ⟨by rw [← hE], below_setCells _ _ _ B1 (by omega)⟩
end Go.Proofs.YtlkjeneffohnkaaDoor
