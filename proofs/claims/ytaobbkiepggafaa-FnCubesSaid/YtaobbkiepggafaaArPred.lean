/-
  Predicates over Arrivals: what a function value that only makes memory answers.
-/
import Derived.Test.YtaobbkiepggafaaAr0
import Derived.Test.YtaobbkiepggafaaInts0
import Derived.Shelf.Abstract
namespace Go.Proofs.Ytaobbkiepggafaa
set_option linter.unusedVariables false
set_option linter.unusedSimpArgs false
set_option linter.unnecessarySimpa false
open Go.RowKit

def aggAr (m : Ar) : Value := .agg #[.int .i64 m.id, .int .i64 m.x, .int .i64 m.y, .int .i64 m.tk, .int .i64 m.er]
/-- The function value g with captured caps answers p at the elements of l, in whatever world is made out of W. -/
def PredAr (g : Nat) (caps : Array Value) (p : Ar → Bool) (l : List Ar) (W : World) : Prop :=
  ∀ w, Below W.heap.size W w → ∀ m, m ∈ l → Calls Try.prog g (#[.agg #[.int .i64 m.id, .int .i64 m.x, .int .i64 m.y, .int .i64 m.tk, .int .i64 m.er]] ++ caps) w fun e w' => e = .returned (.bool (p m)) ∧ Below w.heap.size w w'

end Go.Proofs.Ytaobbkiepggafaa
