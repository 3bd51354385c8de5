/-
  Slices of a call's own: nil or a block.
-/
import Derived.Test.YtaobbkiepggafaaGreatBase
import Derived.Test.YtaobbkiepggafaaGreatKit
import Derived.Deep.RegionHeld3
namespace Go.Proofs.YtaobbkiepggafaaGreat
set_option linter.unusedVariables false
set_option linter.unusedSimpArgs false
set_option linter.unnecessarySimpa false
open Go.RowKit

def AF (A : Option Addr) (n c : Nat) : Prop := (A = none ∧ n = 0 ∧ c = 0) ∨ ∃ b off, A = some ⟨b, off, none⟩
theorem af_own {w : World} {base E K n c : Nat} {A : Option Addr} {xs : List Value} (h : w.ownsRow base E K (.slice A n c) n xs) : AF A n c := by
  rcases own_form h with h | ⟨g, rfl⟩
  · exact .inl h
  · exact .inr ⟨g, 0, rfl⟩
end Go.Proofs.YtaobbkiepggafaaGreat
