/-
  Predicates over Felts: what a function value that only makes memory answers.
-/
import Derived.Test.YtjjinblahmcplaaFe0
import Derived.Test.YtjjinblahmcplaaInts0
import Derived.Shelf.Abstract
namespace Go.Proofs.Ytjjinblahmcplaa
open Go.RowKit

def aggFe (m : Fe) : Value := .agg #[.int .i64 m.id, .int .i64 m.x, .int .i64 m.y, .int .i64 m.lv, .int .i64 m.pp]
/-- The function value g with captured caps answers p at the elements of l, in whatever world is made out of W. -/
def PredFe (g : Nat) (caps : Array Value) (p : Fe → Bool) (l : List Fe) (W : World) : Prop :=
  ∀ w, Below W.heap.size W w → ∀ m, m ∈ l → Calls Try.prog g (#[.agg #[.int .i64 m.id, .int .i64 m.x, .int .i64 m.y, .int .i64 m.lv, .int .i64 m.pp]] ++ caps) w fun e w' => e = .returned (.bool (p m)) ∧ Below w.heap.size w w'

end Go.Proofs.Ytjjinblahmcplaa
