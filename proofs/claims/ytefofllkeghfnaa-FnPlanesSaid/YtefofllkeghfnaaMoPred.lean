/-
  Predicates over Motions: what a function value that only makes memory answers.
-/
import Derived.Test.YtefofllkeghfnaaMo0
import Derived.Test.YtefofllkeghfnaaInts0
import Derived.Shelf.Abstract
namespace Go.Proofs.Ytefofllkeghfnaa
open Go.RowKit

def aggMo (m : Mo) : Value := .agg #[.int .i64 m.st, .int .i64 m.x, .int .i64 m.y, .int .i64 m.sg]
/-- The function value g with captured caps answers p at the elements of l, in whatever world is made out of W. -/
def PredMo (g : Nat) (caps : Array Value) (p : Mo → Bool) (l : List Mo) (W : World) : Prop :=
  ∀ w, Below W.heap.size W w → ∀ m, m ∈ l → Calls Try.prog g (#[.agg #[.int .i64 m.st, .int .i64 m.x, .int .i64 m.y, .int .i64 m.sg]] ++ caps) w fun e w' => e = .returned (.bool (p m)) ∧ Below w.heap.size w w'

end Go.Proofs.Ytefofllkeghfnaa
