import Derived.Test.YtlkjeneffohnkaaDoorKinds
import Derived.Test.YtlkjeneffohnkaaDoorMo
import Derived.Test.YtlkjeneffohnkaaDoorPlan2
set_option linter.unusedVariables false
set_option linter.unusedSimpArgs false
namespace Go.Proofs.YtlkjeneffohnkaaDoor
open Go.RowKit Go.Proofs Go.Proofs.Plan Go.Proofs.YtlkjeneffohnkaaDoorW.PrintWords
set_option maxHeartbeats 1000000 in
set_option maxRecDepth 100000 in
theorem sort_Search (g : Nat) (eg : ∀ args w, (callFunc g args).run Tryd.prog w = .ok (.enter g args) w) (cb : Array Value) (n k : Nat) (p : Nat → Bool) (w : World) (hn : n ≤ 1073741824) (hk : k ≤ n) (h1 : ∀ i, i < k → p i = false) (h2 : ∀ i, k ≤ i → i < n → p i = true)
    (hf : ∀ W, Below w.heap.size w W → ∀ i, i < n → Calls Tryd.prog g (#[.int .i64 i] ++ cb) W fun e w' => e = .returned (.bool (p i)) ∧ Below W.heap.size W w') :
    Calls Tryd.prog 82 #[.int .i64 n, .func (.func g) #[] cb] w fun e w' => e = .returned (.int .i64 k) ∧ Below w.heap.size w w' := by
  have H1 := Lib.hid h1
  have H2 := Lib.hid h2
  have HF := Lib.hid hf
  clear h1 h2 hf
  go_enter Tryd.func82, Tryd.ntmps82
  go_wp2
  go_loopg [5, 6] n (fun kx s5 s6 wr => ∃ lo hi : Nat, s5 = .int .i64 lo ∧ s6 = .int .i64 hi ∧ lo ≤ k ∧ k ≤ hi ∧ hi ≤ n ∧ hi - lo ≤ kx ∧ Below w.heap.size w wr)
  case atStart => exact ⟨0, n, rfl, rfl, Nat.zero_le _, hk, Nat.le_refl _, by omega, Below.refl _ _⟩
  case round =>
    obtain ⟨lo, hi, rfl, rfl, hlo, hhi, hin, hg, hb⟩ := hrel
    by_cases hlt : lo < hi
    · have hc := HF.out wr hb ((lo + hi) / 2) (by omega)
      rw [show (((lo + hi) / 2 : Nat) : Int) = ((lo : Int) + (hi : Int)) / 2 by omega] at hc
      by_cases hm : (lo + hi) / 2 < k
      · rw [H1.out _ hm] at hc
        have HM := Lib.hid hm
        clear hm
        go_wp2_with fail
        refine hc.mono ?_
        rintro e w' ⟨rfl, hw'⟩
        clear hc
        go_wp2_with fail
        go_roundg (hi - ((lo + hi) / 2 + 1))
        case measure => have hm := HM.out; clear HM; omega
        case rel => have hm := HM.out; clear HM; exact ⟨(lo + hi) / 2 + 1, hi, by go_num, rfl, by omega, by omega, by omega, by omega, below_next hb hw'⟩
      · rw [H2.out _ (by omega) (by omega)] at hc
        have HM := Lib.hid hm
        clear hm
        go_wp2_with fail
        refine hc.mono ?_
        rintro e w' ⟨rfl, hw'⟩
        clear hc
        go_wp2_with fail
        go_roundg ((lo + hi) / 2 - lo)
        case measure => have hm := HM.out; clear HM; omega
        case rel => have hm := HM.out; clear HM; exact ⟨lo, (lo + hi) / 2, rfl, by go_num, by omega, by omega, by omega, by omega, below_next hb hw'⟩
    · obtain rfl : lo = hi := by omega
      obtain rfl : lo = k := by omega
      go_wp2
      go_ret
      exact ⟨rfl, hb⟩
end Go.Proofs.YtlkjeneffohnkaaDoor
