/-
  Rows of ints as a map.
-/
import Derived.Test.YtldhlmjfpnpamaaInts0
namespace Go.Proofs.Ytldhlmjfpnpamaa
open Go.RowKit
theorem flatI (l : List Int) : l.flatMap encI = l.map (Value.int .i64) := by
  induction l with
  | nil => rfl
  | cons n l ih => rw [List.flatMap_cons, ih]; rfl
end Go.Proofs.Ytldhlmjfpnpamaa
