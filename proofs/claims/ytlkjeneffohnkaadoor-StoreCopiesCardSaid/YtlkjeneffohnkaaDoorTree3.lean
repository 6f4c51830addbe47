import Derived.Test.YtlkjeneffohnkaaDoorTree2
import Derived.Deep.CutRange
set_option linter.unusedVariables false
set_option linter.unusedSimpArgs false
namespace Go.Proofs.YtlkjeneffohnkaaDoor
open Go.RowKit Go.Proofs Go.Proofs.Plan Go.Proofs.YtlkjeneffohnkaaDoorW.PrintWords
set_option maxHeartbeats 1000000 in
set_option maxRecDepth 100000 in
theorem tree_in (n i : Nat) (hi : i < n) (hn : n ≤ 1073741824) (w : World) : Calls Tryd.prog 128 #[.int .i64 n, .int .i64 i] w fun e w' => e = .returned (.bool true) ∧ w = w' := by
  have c1 : decide ((n : Int) ≤ 1073741824) = true := by simp; omega
  have c2 : decide (0 ≤ (i : Int)) = true := by simp
  have c3 : decide ((i : Int) < (n : Int)) = true := by simp; omega
  go_enter Tryd.func128, Tryd.ntmps128
  go_wp2
  all_goals (go_ret; exact ⟨rfl, rfl⟩)
theorem deep_ge {n i : Nat} (h : 2 ≤ n) : deep n i = (if i < half n then deep (half n) i else deep (n - half n) (i - half n)) + 1 := by
  conv => lhs; rw [deep]
  rw [dif_neg (by omega)]; split <;> rfl
theorem deep_lt {n i : Nat} (h : n < 2) : deep n i = 0 := by rw [deep, dif_pos h]
theorem deep_le (n : Nat) : ∀ i, deep n i ≤ n := by
  induction n using Nat.strongRecOn with
  | _ n ih =>
    intro i
    by_cases h : n < 2
    · rw [deep_lt h]; omega
    · rw [deep_ge (by omega)]
      have h1 := half_lt (n := n) (by omega)
      have h2 := half_pos n
      split
      · have := ih _ h1 i; omega
      · have := ih (n - half n) (by omega) (i - half n); omega
set_option maxHeartbeats 1000000 in
set_option maxRecDepth 100000 in
theorem tree_Deep (n i : Nat) (hi : i < n) (hn : n ≤ 1073741824) (w : World) : Calls Tryd.prog 88 #[.int .i64 n, .int .i64 i] w fun e w' => e = .returned (.int .i64 ((deep n i : Nat) : Int)) ∧ w = w' := by
  go_enter Tryd.func88, Tryd.ntmps88
  go_wp2
  go_loopg [0, 1, 5] n (fun g x y z wr => wr = w ∧ ∃ n' i' d : Nat, x = .int .i64 n' ∧ y = .int .i64 i' ∧ z = .int .i64 d ∧ i' < n' ∧ n' ≤ g ∧ n' ≤ n ∧ d + deep n' i' = deep n i)
  case atStart => exact ⟨rfl, n, i, 0, rfl, rfl, rfl, hi, Nat.le_refl _, Nat.le_refl _, by omega⟩
  case round =>
    obtain ⟨rfl, n', i', d, rfl, rfl, rfl, h1, h2, h3, h4⟩ := hrel
    have hd : d ≤ n := by have := deep_le n i; omega
    by_cases hg : 2 ≤ n'
    · have c1 : (1 < (n' : Int)) = True := by simp; omega
      have hp := half_pos n'
      have hl := half_lt hg
      have H4 := Lib.hid h4
      clear h4
      go_wp2_with (first
        | (go_at_call 128; refine (tree_in n' i' h1 (by omega) _).mono ?_; rintro e w2 ⟨rfl, rfl⟩)
        | (go_at_call 120; refine (tree_HalfP n' hg (by omega) _).mono ?_; rintro e w2 ⟨rfl, rfl⟩))
      · have hlt : i' < half n' := by omega
        go_roundg (half n')
        case measure => omega
        case rel => exact ⟨rfl, half n', i', d + 1, rfl, rfl, by go_num, hlt, Nat.le_refl _, by omega, by have := H4.out; rw [deep_ge hg, if_pos hlt] at this; omega⟩
      · have hge : ¬ i' < half n' := by omega
        go_roundg (n' - half n')
        case measure => omega
        case rel => exact ⟨rfl, n' - half n', i' - half n', d + 1, by go_num, by go_num, by go_num, by omega, Nat.le_refl _, by omega, by have := H4.out; rw [deep_ge hg, if_neg hge] at this; omega⟩
    · have c1 : (1 < (n' : Int)) = False := by simp; omega
      rw [deep_lt (by omega)] at h4
      have H4 := Lib.hid h4
      clear h4
      go_wp2_with (first
        | (go_at_call 128; refine (tree_in n' i' h1 (by omega) _).mono ?_; rintro e w2 ⟨rfl, rfl⟩))
      go_ret
      exact ⟨by rw [← H4.out]; rfl, rfl⟩
end Go.Proofs.YtlkjeneffohnkaaDoor
