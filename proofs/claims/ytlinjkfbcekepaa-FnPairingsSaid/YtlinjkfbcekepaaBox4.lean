/-
  A struct of four cells in a block of its own, through draws and stores.
-/
import Derived.Test.YtlinjkfbcekepaaCurD
namespace Go.Proofs.Ytlinjkfbcekepaa
set_option linter.unusedVariables false
set_option linter.unusedSimpArgs false
set_option linter.unnecessarySimpa false
open Go.RowKit
attribute [local go_sem] ext_cell ext_frozen

def Box4 (w : World) (g : Nat) (a b c d : Value) : Prop :=
  g < w.heap.size ∧ (w.cell? ⟨g, 0, none⟩ = some a ∧ w.cell? ⟨g, 1, none⟩ = some b ∧ w.cell? ⟨g, 2, none⟩ = some c ∧ w.cell? ⟨g, 3, none⟩ = some d) ∧ w.frozen? ⟨g, 0, none⟩ = false ∧ w.frozen? ⟨g, 1, none⟩ = false ∧ w.frozen? ⟨g, 2, none⟩ = false ∧ w.frozen? ⟨g, 3, none⟩ = false
theorem box4_of {w : World} {g : Nat} {a b c d : Value} {E : TypeId} (h : w.heap[g]? = some (.cells #[a, b, c, d] E (0, 0))) : Box4 w g a b c d :=
  ⟨(Array.getElem?_eq_some_iff.1 h).1, ⟨by rw [cell_of_row w g _ _ E (0, 0) h]; rfl, by rw [cell_of_row w g _ _ E (0, 0) h]; rfl, by rw [cell_of_row w g _ _ E (0, 0) h]; rfl, by rw [cell_of_row w g _ _ E (0, 0) h]; rfl⟩, by simp [World.frozen?, h], by simp [World.frozen?, h], by simp [World.frozen?, h], by simp [World.frozen?, h]⟩
theorem box4_new (w : World) (a b c d : Value) (E : TypeId) : Box4 (w.alloc (.cells #[a, b, c, d] E)) w.heap.size a b c d := box4_of (heap_new1 w _)
theorem Box4.moved {w W : World} {g p : Nat} {a b c d : Value} (h : Box4 w g a b c d) (hg : w.grownBy W (some p)) (hne : g ≠ p) : Box4 W g a b c d := by
  obtain ⟨h0, ⟨c0, c1, c2, c3⟩, f0, f1, f2, f3⟩ := h
  have hb := hg.block g h0 (by simpa using hne)
  exact ⟨Nat.lt_of_lt_of_le h0 hg.size, ⟨(World.cell?_of_block (a := ⟨g, 0, none⟩) hb).trans c0, (World.cell?_of_block (a := ⟨g, 1, none⟩) hb).trans c1, (World.cell?_of_block (a := ⟨g, 2, none⟩) hb).trans c2, (World.cell?_of_block (a := ⟨g, 3, none⟩) hb).trans c3⟩, (World.frozen?_of_block (a := ⟨g, 0, none⟩) hb).trans f0, (World.frozen?_of_block (a := ⟨g, 1, none⟩) hb).trans f1, (World.frozen?_of_block (a := ⟨g, 2, none⟩) hb).trans f2, (World.frozen?_of_block (a := ⟨g, 3, none⟩) hb).trans f3⟩
theorem Box4.set0 {w : World} {g : Nat} {a b c d : Value} (h : Box4 w g a b c d) (v : Value) : Box4 (w.setCell ⟨g, 0, none⟩ v) g v b c d := by
  obtain ⟨h0, ⟨c0, c1, c2, c3⟩, f0, f1, f2, f3⟩ := h
  refine ⟨by simpa [World.setCell] using h0, ⟨World.cell?_setCell_same _ _ _ c0, ?_, ?_, ?_⟩, by simpa using f0, by simpa using f1, by simpa using f2, by simpa using f3⟩
  · rw [World.cell?_setCell_other, c1]; simp
  · rw [World.cell?_setCell_other, c2]; simp
  · rw [World.cell?_setCell_other, c3]; simp
theorem Box4.set1 {w : World} {g : Nat} {a b c d : Value} (h : Box4 w g a b c d) (v : Value) : Box4 (w.setCell ⟨g, 1, none⟩ v) g a v c d := by
  obtain ⟨h0, ⟨c0, c1, c2, c3⟩, f0, f1, f2, f3⟩ := h
  refine ⟨by simpa [World.setCell] using h0, ⟨?_, World.cell?_setCell_same _ _ _ c1, ?_, ?_⟩, by simpa using f0, by simpa using f1, by simpa using f2, by simpa using f3⟩
  · rw [World.cell?_setCell_other, c0]; simp
  · rw [World.cell?_setCell_other, c2]; simp
  · rw [World.cell?_setCell_other, c3]; simp
theorem Box4.set3 {w : World} {g : Nat} {a b c d : Value} (h : Box4 w g a b c d) (v : Value) : Box4 (w.setCell ⟨g, 3, none⟩ v) g a b c v := by
  obtain ⟨h0, ⟨c0, c1, c2, c3⟩, f0, f1, f2, f3⟩ := h
  refine ⟨by simpa [World.setCell] using h0, ⟨?_, ?_, ?_, World.cell?_setCell_same _ _ _ c3⟩, by simpa using f0, by simpa using f1, by simpa using f2, by simpa using f3⟩
  · rw [World.cell?_setCell_other, c0]; simp
  · rw [World.cell?_setCell_other, c1]; simp
  · rw [World.cell?_setCell_other, c2]; simp
end Go.Proofs.Ytlinjkfbcekepaa
