/-
  The two tests of bounds, impl.in and spec.l1In, return whether a number is within bounds; nothing turns.
-/
import Derived.Test.YtlinjkfbcekepaaRows
import Derived.Test.YtlinjkfbcekepaaPlain0
namespace Go.Proofs.Ytlinjkfbcekepaa
set_option linter.unusedVariables false
set_option linter.unusedSimpArgs false
set_option linter.unnecessarySimpa false
open Go.RowKit

set_option maxHeartbeats 400000 in
theorem in_any (n a b : Int) (w : World) :
    Calls Try.prog 71 #[.int .i64 n, .int .i64 a, .int .i64 b] w fun e w' => e = .returned (.bool (inB n a b)) ∧ w = w' := by
  by_cases h1 : a ≤ n
  · go_enter Try.func71, Try.ntmps71
    go_wp2
    all_goals
      go_ret
      exact ⟨by simp [inB, *] <;> omega, rfl⟩
  · go_enter Try.func71, Try.ntmps71
    go_wp2
    all_goals
      go_ret
      exact ⟨by simp [inB, *] <;> omega, rfl⟩

set_option maxHeartbeats 400000 in
theorem l1In_any (n a b : Int) (w : World) :
    Calls Try.prog 76 #[.int .i64 n, .int .i64 a, .int .i64 b] w fun e w' => e = .returned (.bool (inB n a b)) ∧ w = w' := by
  by_cases h1 : a ≤ n
  · go_enter Try.func76, Try.ntmps76
    go_wp2
    all_goals
      go_ret
      exact ⟨by simp [inB, *] <;> omega, rfl⟩
  · go_enter Try.func76, Try.ntmps76
    go_wp2
    all_goals
      go_ret
      exact ⟨by simp [inB, *] <;> omega, rfl⟩
end Go.Proofs.Ytlinjkfbcekepaa
