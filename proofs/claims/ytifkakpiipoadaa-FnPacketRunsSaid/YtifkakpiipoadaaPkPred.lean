/-
  Predicates over Packets: what a function value that only makes memory answers.
-/
import Derived.Test.YtifkakpiipoadaaPk0
import Derived.Test.YtifkakpiipoadaaInts0
import Derived.Shelf.Abstract
namespace Go.Proofs.Ytifkakpiipoadaa
set_option linter.unusedVariables false
set_option linter.unusedSimpArgs false
set_option linter.unnecessarySimpa false
open Go.RowKit

def aggPk (m : Pk) : Value := .agg #[.int .i64 m.no, .slice m.A m.sm.length m.c]
/-- The function value g with captured caps answers p at the elements of l, in whatever world is made out of W. -/
def PredPk (g : Nat) (caps : Array Value) (p : Pk → Bool) (l : List Pk) (W : World) : Prop :=
  ∀ w, Below W.heap.size W w → ∀ m, m ∈ l → Calls Try.prog g (#[.agg #[.int .i64 m.no, .slice m.A m.sm.length m.c]] ++ caps) w fun e w' => e = .returned (.bool (p m)) ∧ Below w.heap.size w w'

end Go.Proofs.Ytifkakpiipoadaa
