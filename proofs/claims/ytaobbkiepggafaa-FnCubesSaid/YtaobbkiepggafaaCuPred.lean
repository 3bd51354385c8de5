/-
  Predicates over Cubes: what a function value that only makes memory answers.
-/
import Derived.Test.YtaobbkiepggafaaCu0
import Derived.Test.YtaobbkiepggafaaInts0
import Derived.Shelf.Abstract
namespace Go.Proofs.Ytaobbkiepggafaa
set_option linter.unusedVariables false
set_option linter.unusedSimpArgs false
set_option linter.unnecessarySimpa false
open Go.RowKit

def aggCu (m : Cu) : Value := .agg #[.int .i64 m.ws, .int .i64 m.so, .int .i64 m.sd, .int .i64 m.fr, .int .i64 m.to_]
/-- The function value g with captured caps answers p at the elements of l, in whatever world is made out of W. -/
def PredCu (g : Nat) (caps : Array Value) (p : Cu → Bool) (l : List Cu) (W : World) : Prop :=
  ∀ w, Below W.heap.size W w → ∀ m, m ∈ l → Calls Try.prog g (#[.agg #[.int .i64 m.ws, .int .i64 m.so, .int .i64 m.sd, .int .i64 m.fr, .int .i64 m.to_]] ++ caps) w fun e w' => e = .returned (.bool (p m)) ∧ Below w.heap.size w w'

end Go.Proofs.Ytaobbkiepggafaa
