/-
  Predicates over Quakes: what a function value that only makes memory answers.
-/
import Derived.Test.YtlinjkfbcekepaaQu0
import Derived.Test.YtlinjkfbcekepaaInts0
import Derived.Shelf.Abstract
namespace Go.Proofs.Ytlinjkfbcekepaa
set_option linter.unusedVariables false
set_option linter.unusedSimpArgs false
set_option linter.unnecessarySimpa false
open Go.RowKit

def aggQu (m : Qu) : Value := .agg #[.int .i64 m.tk, .int .i64 m.x, .int .i64 m.y, .int .i64 m.sz]
/-- The function value g with captured caps answers p at the elements of l, in whatever world is made out of W. -/
def PredQu (g : Nat) (caps : Array Value) (p : Qu → Bool) (l : List Qu) (W : World) : Prop :=
  ∀ w, Below W.heap.size W w → ∀ m, m ∈ l → Calls Try.prog g (#[.agg #[.int .i64 m.tk, .int .i64 m.x, .int .i64 m.y, .int .i64 m.sz]] ++ caps) w fun e w' => e = .returned (.bool (p m)) ∧ Below w.heap.size w w'

end Go.Proofs.Ytlinjkfbcekepaa
