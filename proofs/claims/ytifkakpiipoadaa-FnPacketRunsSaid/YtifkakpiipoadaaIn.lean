/-
  The two tests of bounds, impl.in and spec.l1In, return whether a number is within bounds; nothing turns.
-/
import Derived.Test.YtifkakpiipoadaaRows
import Derived.Test.YtifkakpiipoadaaPlain0
namespace Go.Proofs.Ytifkakpiipoadaa
set_option linter.unusedVariables false
set_option linter.unusedSimpArgs false
set_option linter.unnecessarySimpa false
open Go.RowKit

set_option maxHeartbeats 400000 in
theorem in_any (n a b : Int) (w : World) :
    Calls Try.prog 84 #[.int .i64 n, .int .i64 a, .int .i64 b] w fun e w' => e = .returned (.bool (inB n a b)) ∧ w = w' := by
  by_cases h1 : a ≤ n
  · go_enter Try.func84, Try.ntmps84
    go_wp2
    all_goals
      go_ret
      exact ⟨by simp [inB, *] <;> omega, rfl⟩
  · go_enter Try.func84, Try.ntmps84
    go_wp2
    all_goals
      go_ret
      exact ⟨by simp [inB, *] <;> omega, rfl⟩

set_option maxHeartbeats 400000 in
theorem l1In_any (n a b : Int) (w : World) :
    Calls Try.prog 82 #[.int .i64 n, .int .i64 a, .int .i64 b] w fun e w' => e = .returned (.bool (inB n a b)) ∧ w = w' := by
  by_cases h1 : a ≤ n
  · go_enter Try.func82, Try.ntmps82
    go_wp2
    all_goals
      go_ret
      exact ⟨by simp [inB, *] <;> omega, rfl⟩
  · go_enter Try.func82, Try.ntmps82
    go_wp2
    all_goals
      go_ret
      exact ⟨by simp [inB, *] <;> omega, rfl⟩
end Go.Proofs.Ytifkakpiipoadaa
