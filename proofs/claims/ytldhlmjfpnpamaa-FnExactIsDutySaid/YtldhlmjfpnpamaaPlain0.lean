/-
  Small words shared by the proofs of this seat: a test of bounds as a Bool; no program is named here.
-/
import Derived.WalkKit
import Derived.WalkSpells
import Derived.WalkLawsBesides
import Derived.Lib.Hide
import Derived.Deep.QuietTactic
import Derived.BigQuiet
namespace Go.Proofs.Ytldhlmjfpnpamaa
open Go.RowKit

/-- 'low ≤ n ≤ high' as a Bool, closed to the walk. -/
def inB (n a b : Int) : Bool := decide (a ≤ n) && decide (n ≤ b)
theorem inB_true {n a b : Int} (h : inB n a b = true) : a ≤ n ∧ n ≤ b := by simpa [inB] using h
theorem inB_false {n a b : Int} (h : inB n a b = false) : n < a ∨ b < n := by
  simp [inB] at h
  by_cases k : a ≤ n
  · exact .inr (by have := h k; omega)
  · exact .inl (by omega)
theorem inB_eq (n a b : Int) : inB n a b = decide (a ≤ n ∧ n ≤ b) := by simp [inB, Bool.decide_and]

section
variable {a W w1 : World}
theorem bref (a : World) : Below a.heap.size a a := Below.refl _ _
theorem bstep (h : Below a.heap.size a W) (h1 : Below W.heap.size W w1) : Below a.heap.size a w1 := h.trans (h1.mono h.size)
theorem balloc (h : Below a.heap.size a W) (o : Obj) : Below a.heap.size a (W.alloc o) := h.alloc h.size o
theorem bdrew (h : Below a.heap.size a W) : Below a.heap.size a W.drew := h.drew
theorem bdrewN (h : Below a.heap.size a W) (n : Nat) : Below a.heap.size a (W.drewN n) := ⟨h.os, h.tape, h.output, h.size, h.block⟩
theorem bset (h : Below a.heap.size a W) {p : Addr} (hp : a.heap.size ≤ p.block) (u : Value) : Below a.heap.size a (W.setCell p u) := h.setCell hp u
theorem bgrown {row : Option Nat} (h : Below a.heap.size a W) (hg : W.grownBy w1 row) (hr : ∀ k, row = some k → a.heap.size ≤ k) : Below a.heap.size a w1 := h.grown hg h.size hr
/-- What a call that only makes memory leaves: cells and marks below B read as before, in the walk's own spelling. -/
theorem bcell {B : Nat} (hB : B ≤ W.heap.size) (hb : Below W.heap.size W w1) : (∀ b o, b < B → w1.cell? ⟨b, o, none⟩ = W.cell? ⟨b, o, none⟩) ∧ (∀ b o, b < B → w1.frozen? ⟨b, o, none⟩ = W.frozen? ⟨b, o, none⟩) ∧ B ≤ w1.heap.size :=
  ⟨fun b o h => hb.cell (p := ⟨b, o, none⟩) (show b < W.heap.size by omega), fun b o h => hb.frozen (p := ⟨b, o, none⟩) (show b < W.heap.size by omega), Nat.le_trans hB hb.size⟩
end
end Go.Proofs.Ytldhlmjfpnpamaa
