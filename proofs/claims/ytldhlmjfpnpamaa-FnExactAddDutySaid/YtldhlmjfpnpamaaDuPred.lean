/-
  Predicates over Dutys: what a function value that only makes memory answers.
-/
import Derived.Test.YtldhlmjfpnpamaaDu0
import Derived.Test.YtldhlmjfpnpamaaInts0
import Derived.Shelf.Abstract
namespace Go.Proofs.Ytldhlmjfpnpamaa
open Go.RowKit

def aggDu (m : Du) : Value := .agg #[.int .i64 m.who, .int .i64 m.bg, .int .i64 m.en, .bool m.ch]
/-- The function value g with captured caps answers p at the elements of l, in whatever world is made out of W. -/
def PredDu (g : Nat) (caps : Array Value) (p : Du → Bool) (l : List Du) (W : World) : Prop :=
  ∀ w, Below W.heap.size W w → ∀ m, m ∈ l → Calls Try.prog g (#[.agg #[.int .i64 m.who, .int .i64 m.bg, .int .i64 m.en, .bool m.ch]] ++ caps) w fun e w' => e = .returned (.bool (p m)) ∧ Below w.heap.size w w'

end Go.Proofs.Ytldhlmjfpnpamaa
