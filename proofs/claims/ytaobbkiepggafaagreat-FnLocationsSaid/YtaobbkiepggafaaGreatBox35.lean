/-
  Structs of three and of five cells through draws and stores.
-/
import Derived.Test.YtaobbkiepggafaaGreatCurs
import Derived.Test.YtaobbkiepggafaaGreatApp
namespace Go.Proofs.YtaobbkiepggafaaGreat
set_option linter.unusedVariables false
set_option linter.unusedSimpArgs false
set_option linter.unnecessarySimpa false
open Go.RowKit

def Box3 (w : World) (g : Nat) (a b c : Value) : Prop :=
  g < w.heap.size ∧ (w.cell? ⟨g, 0, none⟩ = some a ∧ w.cell? ⟨g, 1, none⟩ = some b ∧ w.cell? ⟨g, 2, none⟩ = some c) ∧ w.frozen? ⟨g, 0, none⟩ = false ∧ w.frozen? ⟨g, 1, none⟩ = false ∧ w.frozen? ⟨g, 2, none⟩ = false
theorem box3_of {w : World} {g : Nat} {a b c : Value} {E : TypeId} (h : w.heap[g]? = some (.cells #[a, b, c] E (0, 0))) : Box3 w g a b c :=
  ⟨(Array.getElem?_eq_some_iff.1 h).1, ⟨by rw [cell_of_row w g _ _ E (0, 0) h]; rfl, by rw [cell_of_row w g _ _ E (0, 0) h]; rfl, by rw [cell_of_row w g _ _ E (0, 0) h]; rfl⟩, by simp [World.frozen?, h], by simp [World.frozen?, h], by simp [World.frozen?, h]⟩
theorem box3_new (w : World) (a b c : Value) (E : TypeId) : Box3 (w.alloc (.cells #[a, b, c] E)) w.heap.size a b c := box3_of (heap_new1 w _)
theorem Box3.moved {w W : World} {g p : Nat} {a b c : Value} (h : Box3 w g a b c) (hg : w.grownBy W (some p)) (hne : g ≠ p) : Box3 W g a b c := by
  obtain ⟨h0, ⟨c0, c1, c2⟩, f0, f1, f2⟩ := h
  have hb := hg.block g h0 (by simpa using hne)
  exact ⟨Nat.lt_of_lt_of_le h0 hg.size, ⟨(World.cell?_of_block (a := ⟨g, 0, none⟩) hb).trans c0, (World.cell?_of_block (a := ⟨g, 1, none⟩) hb).trans c1, (World.cell?_of_block (a := ⟨g, 2, none⟩) hb).trans c2⟩, (World.frozen?_of_block (a := ⟨g, 0, none⟩) hb).trans f0, (World.frozen?_of_block (a := ⟨g, 1, none⟩) hb).trans f1, (World.frozen?_of_block (a := ⟨g, 2, none⟩) hb).trans f2⟩
theorem Box3.below {w W : World} {g : Nat} {a b c : Value} (h : Box3 w g a b c) (hb : Below w.heap.size w W) : Box3 W g a b c := by
  obtain ⟨h0, ⟨c0, c1, c2⟩, f0, f1, f2⟩ := h
  exact ⟨Nat.lt_of_lt_of_le h0 hb.size, ⟨(hb.cell (p := ⟨g, 0, none⟩) h0).trans c0, (hb.cell (p := ⟨g, 1, none⟩) h0).trans c1, (hb.cell (p := ⟨g, 2, none⟩) h0).trans c2⟩, (hb.frozen (p := ⟨g, 0, none⟩) h0).trans f0, (hb.frozen (p := ⟨g, 1, none⟩) h0).trans f1, (hb.frozen (p := ⟨g, 2, none⟩) h0).trans f2⟩
theorem Box3.far {w : World} {g : Nat} {a b c : Value} (h : Box3 w g a b c) {g' o : Nat} (hne : g ≠ g') (v : Value) : Box3 (w.setCell ⟨g', o, none⟩ v) g a b c := by
  obtain ⟨h0, ⟨c0, c1, c2⟩, f0, f1, f2⟩ := h
  exact ⟨by simpa [World.setCell] using h0, ⟨set_far c0 hne, set_far c1 hne, set_far c2 hne⟩, by simpa using f0, by simpa using f1, by simpa using f2⟩
theorem Box3.set0 {w : World} {g : Nat} {a b c : Value} (h : Box3 w g a b c) (v : Value) : Box3 (w.setCell ⟨g, 0, none⟩ v) g v b c := by
  obtain ⟨h0, ⟨c0, c1, c2⟩, f0, f1, f2⟩ := h
  refine ⟨by simpa [World.setCell] using h0, ⟨World.cell?_setCell_same _ _ _ c0, ?_, ?_⟩, by simpa using f0, by simpa using f1, by simpa using f2⟩
  · rw [World.cell?_setCell_other, c1]; simp
  · rw [World.cell?_setCell_other, c2]; simp
theorem Box3.set1 {w : World} {g : Nat} {a b c : Value} (h : Box3 w g a b c) (v : Value) : Box3 (w.setCell ⟨g, 1, none⟩ v) g a v c := by
  obtain ⟨h0, ⟨c0, c1, c2⟩, f0, f1, f2⟩ := h
  refine ⟨by simpa [World.setCell] using h0, ⟨?_, World.cell?_setCell_same _ _ _ c1, ?_⟩, by simpa using f0, by simpa using f1, by simpa using f2⟩
  · rw [World.cell?_setCell_other, c0]; simp
  · rw [World.cell?_setCell_other, c2]; simp
theorem Box3.set2 {w : World} {g : Nat} {a b c : Value} (h : Box3 w g a b c) (v : Value) : Box3 (w.setCell ⟨g, 2, none⟩ v) g a b v := by
  obtain ⟨h0, ⟨c0, c1, c2⟩, f0, f1, f2⟩ := h
  refine ⟨by simpa [World.setCell] using h0, ⟨?_, ?_, World.cell?_setCell_same _ _ _ c2⟩, by simpa using f0, by simpa using f1, by simpa using f2⟩
  · rw [World.cell?_setCell_other, c0]; simp
  · rw [World.cell?_setCell_other, c1]; simp
theorem Box3.all {w : World} {g : Nat} {a b c : Value} (h : Box3 w g a b c) (a' b' c' : Value) : Box3 (((w.setCell ⟨g, 0, none⟩ (a')).setCell ⟨g, 1, none⟩ (b')).setCell ⟨g, 2, none⟩ (c')) g a' b' c' := (((h.set0 a').set1 b').set2 c')
def Box5 (w : World) (g : Nat) (a b c d e : Value) : Prop :=
  g < w.heap.size ∧ (w.cell? ⟨g, 0, none⟩ = some a ∧ w.cell? ⟨g, 1, none⟩ = some b ∧ w.cell? ⟨g, 2, none⟩ = some c ∧ w.cell? ⟨g, 3, none⟩ = some d ∧ w.cell? ⟨g, 4, none⟩ = some e) ∧ w.frozen? ⟨g, 0, none⟩ = false ∧ w.frozen? ⟨g, 1, none⟩ = false ∧ w.frozen? ⟨g, 2, none⟩ = false ∧ w.frozen? ⟨g, 3, none⟩ = false ∧ w.frozen? ⟨g, 4, none⟩ = false
theorem box5_of {w : World} {g : Nat} {a b c d e : Value} {E : TypeId} (h : w.heap[g]? = some (.cells #[a, b, c, d, e] E (0, 0))) : Box5 w g a b c d e :=
  ⟨(Array.getElem?_eq_some_iff.1 h).1, ⟨by rw [cell_of_row w g _ _ E (0, 0) h]; rfl, by rw [cell_of_row w g _ _ E (0, 0) h]; rfl, by rw [cell_of_row w g _ _ E (0, 0) h]; rfl, by rw [cell_of_row w g _ _ E (0, 0) h]; rfl, by rw [cell_of_row w g _ _ E (0, 0) h]; rfl⟩, by simp [World.frozen?, h], by simp [World.frozen?, h], by simp [World.frozen?, h], by simp [World.frozen?, h], by simp [World.frozen?, h]⟩
theorem box5_new (w : World) (a b c d e : Value) (E : TypeId) : Box5 (w.alloc (.cells #[a, b, c, d, e] E)) w.heap.size a b c d e := box5_of (heap_new1 w _)
theorem Box5.moved {w W : World} {g p : Nat} {a b c d e : Value} (h : Box5 w g a b c d e) (hg : w.grownBy W (some p)) (hne : g ≠ p) : Box5 W g a b c d e := by
  obtain ⟨h0, ⟨c0, c1, c2, c3, c4⟩, f0, f1, f2, f3, f4⟩ := h
  have hb := hg.block g h0 (by simpa using hne)
  exact ⟨Nat.lt_of_lt_of_le h0 hg.size, ⟨(World.cell?_of_block (a := ⟨g, 0, none⟩) hb).trans c0, (World.cell?_of_block (a := ⟨g, 1, none⟩) hb).trans c1, (World.cell?_of_block (a := ⟨g, 2, none⟩) hb).trans c2, (World.cell?_of_block (a := ⟨g, 3, none⟩) hb).trans c3, (World.cell?_of_block (a := ⟨g, 4, none⟩) hb).trans c4⟩, (World.frozen?_of_block (a := ⟨g, 0, none⟩) hb).trans f0, (World.frozen?_of_block (a := ⟨g, 1, none⟩) hb).trans f1, (World.frozen?_of_block (a := ⟨g, 2, none⟩) hb).trans f2, (World.frozen?_of_block (a := ⟨g, 3, none⟩) hb).trans f3, (World.frozen?_of_block (a := ⟨g, 4, none⟩) hb).trans f4⟩
theorem Box5.below {w W : World} {g : Nat} {a b c d e : Value} (h : Box5 w g a b c d e) (hb : Below w.heap.size w W) : Box5 W g a b c d e := by
  obtain ⟨h0, ⟨c0, c1, c2, c3, c4⟩, f0, f1, f2, f3, f4⟩ := h
  exact ⟨Nat.lt_of_lt_of_le h0 hb.size, ⟨(hb.cell (p := ⟨g, 0, none⟩) h0).trans c0, (hb.cell (p := ⟨g, 1, none⟩) h0).trans c1, (hb.cell (p := ⟨g, 2, none⟩) h0).trans c2, (hb.cell (p := ⟨g, 3, none⟩) h0).trans c3, (hb.cell (p := ⟨g, 4, none⟩) h0).trans c4⟩, (hb.frozen (p := ⟨g, 0, none⟩) h0).trans f0, (hb.frozen (p := ⟨g, 1, none⟩) h0).trans f1, (hb.frozen (p := ⟨g, 2, none⟩) h0).trans f2, (hb.frozen (p := ⟨g, 3, none⟩) h0).trans f3, (hb.frozen (p := ⟨g, 4, none⟩) h0).trans f4⟩
theorem Box5.far {w : World} {g : Nat} {a b c d e : Value} (h : Box5 w g a b c d e) {g' o : Nat} (hne : g ≠ g') (v : Value) : Box5 (w.setCell ⟨g', o, none⟩ v) g a b c d e := by
  obtain ⟨h0, ⟨c0, c1, c2, c3, c4⟩, f0, f1, f2, f3, f4⟩ := h
  exact ⟨by simpa [World.setCell] using h0, ⟨set_far c0 hne, set_far c1 hne, set_far c2 hne, set_far c3 hne, set_far c4 hne⟩, by simpa using f0, by simpa using f1, by simpa using f2, by simpa using f3, by simpa using f4⟩
theorem Box5.set0 {w : World} {g : Nat} {a b c d e : Value} (h : Box5 w g a b c d e) (v : Value) : Box5 (w.setCell ⟨g, 0, none⟩ v) g v b c d e := by
  obtain ⟨h0, ⟨c0, c1, c2, c3, c4⟩, f0, f1, f2, f3, f4⟩ := h
  refine ⟨by simpa [World.setCell] using h0, ⟨World.cell?_setCell_same _ _ _ c0, ?_, ?_, ?_, ?_⟩, by simpa using f0, by simpa using f1, by simpa using f2, by simpa using f3, by simpa using f4⟩
  · rw [World.cell?_setCell_other, c1]; simp
  · rw [World.cell?_setCell_other, c2]; simp
  · rw [World.cell?_setCell_other, c3]; simp
  · rw [World.cell?_setCell_other, c4]; simp
theorem Box5.set1 {w : World} {g : Nat} {a b c d e : Value} (h : Box5 w g a b c d e) (v : Value) : Box5 (w.setCell ⟨g, 1, none⟩ v) g a v c d e := by
  obtain ⟨h0, ⟨c0, c1, c2, c3, c4⟩, f0, f1, f2, f3, f4⟩ := h
  refine ⟨by simpa [World.setCell] using h0, ⟨?_, World.cell?_setCell_same _ _ _ c1, ?_, ?_, ?_⟩, by simpa using f0, by simpa using f1, by simpa using f2, by simpa using f3, by simpa using f4⟩
  · rw [World.cell?_setCell_other, c0]; simp
  · rw [World.cell?_setCell_other, c2]; simp
  · rw [World.cell?_setCell_other, c3]; simp
  · rw [World.cell?_setCell_other, c4]; simp
theorem Box5.set2 {w : World} {g : Nat} {a b c d e : Value} (h : Box5 w g a b c d e) (v : Value) : Box5 (w.setCell ⟨g, 2, none⟩ v) g a b v d e := by
  obtain ⟨h0, ⟨c0, c1, c2, c3, c4⟩, f0, f1, f2, f3, f4⟩ := h
  refine ⟨by simpa [World.setCell] using h0, ⟨?_, ?_, World.cell?_setCell_same _ _ _ c2, ?_, ?_⟩, by simpa using f0, by simpa using f1, by simpa using f2, by simpa using f3, by simpa using f4⟩
  · rw [World.cell?_setCell_other, c0]; simp
  · rw [World.cell?_setCell_other, c1]; simp
  · rw [World.cell?_setCell_other, c3]; simp
  · rw [World.cell?_setCell_other, c4]; simp
theorem Box5.set3 {w : World} {g : Nat} {a b c d e : Value} (h : Box5 w g a b c d e) (v : Value) : Box5 (w.setCell ⟨g, 3, none⟩ v) g a b c v e := by
  obtain ⟨h0, ⟨c0, c1, c2, c3, c4⟩, f0, f1, f2, f3, f4⟩ := h
  refine ⟨by simpa [World.setCell] using h0, ⟨?_, ?_, ?_, World.cell?_setCell_same _ _ _ c3, ?_⟩, by simpa using f0, by simpa using f1, by simpa using f2, by simpa using f3, by simpa using f4⟩
  · rw [World.cell?_setCell_other, c0]; simp
  · rw [World.cell?_setCell_other, c1]; simp
  · rw [World.cell?_setCell_other, c2]; simp
  · rw [World.cell?_setCell_other, c4]; simp
theorem Box5.set4 {w : World} {g : Nat} {a b c d e : Value} (h : Box5 w g a b c d e) (v : Value) : Box5 (w.setCell ⟨g, 4, none⟩ v) g a b c d v := by
  obtain ⟨h0, ⟨c0, c1, c2, c3, c4⟩, f0, f1, f2, f3, f4⟩ := h
  refine ⟨by simpa [World.setCell] using h0, ⟨?_, ?_, ?_, ?_, World.cell?_setCell_same _ _ _ c4⟩, by simpa using f0, by simpa using f1, by simpa using f2, by simpa using f3, by simpa using f4⟩
  · rw [World.cell?_setCell_other, c0]; simp
  · rw [World.cell?_setCell_other, c1]; simp
  · rw [World.cell?_setCell_other, c2]; simp
  · rw [World.cell?_setCell_other, c3]; simp
theorem Box5.all {w : World} {g : Nat} {a b c d e : Value} (h : Box5 w g a b c d e) (a' b' c' d' e' : Value) : Box5 (((((w.setCell ⟨g, 0, none⟩ (a')).setCell ⟨g, 1, none⟩ (b')).setCell ⟨g, 2, none⟩ (c')).setCell ⟨g, 3, none⟩ (d')).setCell ⟨g, 4, none⟩ (e')) g a' b' c' d' e' := (((((h.set0 a').set1 b').set2 c').set3 d').set4 e')
/-- What lies in a row lies in its beginning. -/
theorem row_front {w : World} {g : Nat} {l : List Int} (m : Nat) (h : RowAt 1 encI w (some ⟨g, 0, none⟩) l) : RowAt 1 encI w (some ⟨g, 0, none⟩) (l.take m) := h.takeR m
end Go.Proofs.YtaobbkiepggafaaGreat
