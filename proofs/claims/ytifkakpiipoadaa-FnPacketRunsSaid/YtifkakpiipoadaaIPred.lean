/-
  Predicates over ints: what a function value that only makes memory answers.
-/
import Derived.Test.YtifkakpiipoadaaInts1
import Derived.Shelf.Abstract
namespace Go.Proofs.Ytifkakpiipoadaa
set_option linter.unusedVariables false
set_option linter.unusedSimpArgs false
set_option linter.unnecessarySimpa false
open Go.RowKit

def aggI (m : Int) : Value := .int .i64 m
/-- The function value g with captured caps answers p at the elements of l, in whatever world is made out of W. -/
def PredI (g : Nat) (caps : Array Value) (p : Int → Bool) (l : List Int) (W : World) : Prop :=
  ∀ w, Below W.heap.size W w → ∀ m, m ∈ l → Calls Try.prog g (#[.int .i64 m] ++ caps) w fun e w' => e = .returned (.bool (p m)) ∧ Below w.heap.size w w'

end Go.Proofs.Ytifkakpiipoadaa
