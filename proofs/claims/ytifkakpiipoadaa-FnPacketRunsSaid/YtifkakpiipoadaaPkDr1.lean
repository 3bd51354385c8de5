/-
  The draws of module packets: one packet.
-/
import Derived.Test.YtifkakpiipoadaaPkRes
import Derived.Test.YtifkakpiipoadaaDrK
import Derived.Deep.CutRange
import Derived.Deep.RegionHeld3
namespace Go.Proofs.Ytifkakpiipoadaa
set_option linter.unusedVariables false
set_option linter.unusedSimpArgs false
set_option linter.unnecessarySimpa false
open Go.RowKit
attribute [local go_sem] ext_cell ext_frozen

def Box2 (w : World) (g : Nat) (a b : Value) : Prop :=
  g < w.heap.size ∧ (w.cell? ⟨g, 0, none⟩ = some a ∧ w.cell? ⟨g, 1, none⟩ = some b) ∧ w.frozen? ⟨g, 0, none⟩ = false ∧ w.frozen? ⟨g, 1, none⟩ = false
theorem box2_of {w : World} {g : Nat} {a b : Value} {E : TypeId} (h : w.heap[g]? = some (.cells #[a, b] E (0, 0))) : Box2 w g a b :=
  ⟨(Array.getElem?_eq_some_iff.1 h).1, ⟨by rw [cell_of_row w g _ _ E (0, 0) h]; rfl, by rw [cell_of_row w g _ _ E (0, 0) h]; rfl⟩, by simp [World.frozen?, h], by simp [World.frozen?, h]⟩
theorem box2_new (w : World) (a b : Value) (E : TypeId) : Box2 (w.alloc (.cells #[a, b] E)) w.heap.size a b := box2_of (heap_new1 w _)
theorem Box2.moved {w W : World} {g : Nat} {r : Option Nat} {a b : Value} (h : Box2 w g a b) (hg : w.grownBy W r) (hne : some g ≠ r) : Box2 W g a b := by
  obtain ⟨h0, ⟨c0, c1⟩, f0, f1⟩ := h
  have hb := hg.block g h0 hne
  exact ⟨Nat.lt_of_lt_of_le h0 hg.size, ⟨(World.cell?_of_block (a := ⟨g, 0, none⟩) hb).trans c0, (World.cell?_of_block (a := ⟨g, 1, none⟩) hb).trans c1⟩, (World.frozen?_of_block (a := ⟨g, 0, none⟩) hb).trans f0, (World.frozen?_of_block (a := ⟨g, 1, none⟩) hb).trans f1⟩
theorem Box2.set0 {w : World} {g : Nat} {a b : Value} (h : Box2 w g a b) (v : Value) : Box2 (w.setCell ⟨g, 0, none⟩ v) g v b := by
  obtain ⟨h0, ⟨c0, c1⟩, f0, f1⟩ := h
  refine ⟨by simpa [World.setCell] using h0, ⟨World.cell?_setCell_same _ _ _ c0, ?_⟩, by simpa using f0, by simpa using f1⟩
  rw [World.cell?_setCell_other, c1]; simp
theorem Box2.set1 {w : World} {g : Nat} {a b : Value} (h : Box2 w g a b) (v : Value) : Box2 (w.setCell ⟨g, 1, none⟩ v) g a v := by
  obtain ⟨h0, ⟨c0, c1⟩, f0, f1⟩ := h
  refine ⟨by simpa [World.setCell] using h0, ⟨?_, World.cell?_setCell_same _ _ _ c1⟩, by simpa using f0, by simpa using f1⟩
  rw [World.cell?_setCell_other, c0]; simp

/-- The packet that is being drawn: its struct lies in block q, the result's in the first new block. -/
structure PkSt (w0 w wr : World) (p : Nat) (A : Option Addr) (n c K q : Nat) (no : Int) (sm : List Int) (g cb : Nat) : Prop where
  dr : Dr w0 wr p A n c K
  only : w.grownBy wr (some p)
  res : Box2 wr w.heap.size (.int .i64 0) (.slice none 0 0)
  box : Box2 wr q (.int .i64 no) (.slice (some ⟨g, 0, none⟩) sm.length cb)
  row : wr.ownsRow (w.heap.size + 1) 3 1 (.slice (some ⟨g, 0, none⟩) sm.length cb) sm.length (sm.flatMap encI)
  far : g ≠ q ∧ w.heap.size < q
section
variable {w0 w wr W : World} {p : Nat} {A : Option Addr} {n c K K' K0 q : Nat} {no : Int} {sm : List Int} {g cb : Nat}
theorem PkSt.draw (h : PkSt w0 w wr p A n c K q no sm g cb) (hd : Dr w0 W p A n c K') (hg : wr.grownBy W (some p)) (hp : p < w.heap.size) : PkSt w0 w W p A n c K' q no sm g cb :=
  ⟨hd, only_two h.only hg, h.res.moved hg (by simp; omega), h.box.moved hg (by have := h.far.2; simp; omega), own_dr h.row hg (by omega), h.far⟩
theorem PkSt.below (h : PkSt w0 w wr p A n c K q no sm g cb) (hb : Below wr.heap.size wr W) : PkSt w0 w W p A n c K q no sm g cb :=
  ⟨h.dr.below hb, only_two h.only (only_of_below hb _), h.res.moved (only_of_below hb none) (by simp), h.box.moved (only_of_below hb none) (by simp), own_below h.row hb, h.far⟩
theorem PkSt.more (h : PkSt w0 w wr p A n c K q no sm g cb) (hK : K ≤ K') : PkSt w0 w wr p A n c K' q no sm g cb := ⟨h.dr.more hK, h.only, h.res, h.box, h.row, h.far⟩
/-- One sample more. -/
theorem PkSt.push {g4 c4 : Nat} {w2 w4 : World} {x : Int} (h : PkSt w0 w w2 p A n c K q no sm g cb) (h0 : Dr w0 w p A n c K0) (ho : w4.ownsRow (w.heap.size + 1) 3 1 (.slice (some ⟨g4, 0, none⟩) (sm.length + 1) c4) (sm.length + 1) (sm.flatMap encI ++ encI x))
    (hg : w2.grownBy w4 (some g)) (hl : g = g4 ∨ w2.heap.size ≤ g4) : PkSt w0 w (w4.setCell ⟨q, 1, none⟩ (.slice (some ⟨g4, 0, none⟩) (sm.length + 1) c4)) p A n c K q no (sm ++ [x]) g4 c4 := by
  have hgl := (h.row.lt g rfl)
  have hql := h.box.1
  have hf : g4 ≠ q := by
    rcases hl with r | r
    · exact r ▸ h.far.1
    · omega
  have hb1 : Below w.heap.size w2 w4 := (Below.refl _ _).grown hg (Nat.le_trans h.only.size (Nat.le_refl _)) (fun k hk => by cases hk; omega)
  have hb : Below w.heap.size w2 (w4.setCell ⟨q, 1, none⟩ (.slice (some ⟨g4, 0, none⟩) (sm.length + 1) c4)) := hb1.setCell (p := ⟨q, 1, none⟩) (Nat.le_of_lt h.far.2) _
  have hst : w4.grownBy (w4.setCell ⟨q, 1, none⟩ (.slice (some ⟨g4, 0, none⟩) (sm.length + 1) c4)) (some q) := only_setCell (World.grownBy.refl w4 (some q)) (.inl rfl) _
  have hlen : (sm ++ [x]).length = sm.length + 1 := by simp
  refine ⟨h0.above h.dr hb, only_above h.only hb, (h.res.moved hg (by simp; omega)).moved hst (by have := h.far.2; simp; omega), ?_, ?_, ⟨hf, h.far.2⟩⟩
  · rw [hlen]
    exact (h.box.moved hg (by have := h.far.1; simp; omega)).set1 _
  · rw [hlen]
    refine World.ownsRow.kept (by simpa using ho) hst (.inr ?_)
    simp [Value.ownBlock]
    omega
theorem PkSt.number (h : PkSt w0 w wr p A n c K q no sm g cb) (h0 : Dr w0 w p A n c K0) (v : Int) : PkSt w0 w (wr.setCell ⟨q, 0, none⟩ (.int .i64 v)) p A n c K q v sm g cb := by
  have hb : Below w.heap.size wr (wr.setCell ⟨q, 0, none⟩ (.int .i64 v)) := (Below.refl _ _).setCell (p := ⟨q, 0, none⟩) (Nat.le_of_lt h.far.2) _
  have hst : wr.grownBy (wr.setCell ⟨q, 0, none⟩ (.int .i64 v)) (some q) := only_setCell (World.grownBy.refl wr (some q)) (.inl rfl) _
  refine ⟨h0.above h.dr hb, only_above h.only hb, h.res.moved hst (by have := h.far.2; simp; omega), h.box.set0 _, World.ownsRow.kept h.row hst (.inr ?_), h.far⟩
  have := h.far.1
  simp [Value.ownBlock]
  omega
theorem PkSt.clear_ {E : TypeId} (h : PkSt w0 w wr p A n c K q no sm g cb) (h0 : Dr w0 w p A n c K0) (hE : E = 3) : PkSt w0 w ((wr.alloc (.cells #[] E)).setCell ⟨q, 1, none⟩ (.slice (some ⟨wr.heap.size, 0, none⟩) 0 0)) p A n c K q no [] wr.heap.size 0 := by
  subst hE
  have ha := h.below (balloc (bref wr) (.cells #[] 3))
  have hb : Below w.heap.size (wr.alloc (.cells #[] 3)) ((wr.alloc (.cells #[] 3)).setCell ⟨q, 1, none⟩ (.slice (some ⟨wr.heap.size, 0, none⟩) 0 0)) := (Below.refl _ _).setCell (p := ⟨q, 1, none⟩) (Nat.le_of_lt h.far.2) _
  have hst : (wr.alloc (.cells #[] 3)).grownBy ((wr.alloc (.cells #[] 3)).setCell ⟨q, 1, none⟩ (.slice (some ⟨wr.heap.size, 0, none⟩) 0 0)) (some q) := only_setCell (World.grownBy.refl _ (some q)) (.inl rfl) _
  have hql := h.box.1
  have hwl := h.res.1
  refine ⟨h0.above ha.dr hb, only_above ha.only hb, ha.res.moved hst (by have := h.far.2; simp; omega), ha.box.set1 _, World.ownsRow.kept (own_empty (heap_new1 wr (.cells #[] 3)) (by omega)) hst (.inr ?_), ⟨by omega, h.far.2⟩⟩
  simp [Value.ownBlock]
  omega
theorem PkSt.fin (h : PkSt w0 w wr p A n c K q no sm g cb) (h0 : Dr w0 w p A n c K0) : (((wr.setCell ⟨w.heap.size, 0, none⟩ (.int .i64 no)).setCell ⟨w.heap.size, 1, none⟩ (.slice (some ⟨g, 0, none⟩) sm.length cb)).cell? ⟨w.heap.size, 0, none⟩ = some (.int .i64 no) ∧ ((wr.setCell ⟨w.heap.size, 0, none⟩ (.int .i64 no)).setCell ⟨w.heap.size, 1, none⟩ (.slice (some ⟨g, 0, none⟩) sm.length cb)).cell? ⟨w.heap.size, 1, none⟩ = some (.slice (some ⟨g, 0, none⟩) sm.length cb)) ∧
    ((wr.setCell ⟨w.heap.size, 0, none⟩ (.int .i64 no)).setCell ⟨w.heap.size, 1, none⟩ (.slice (some ⟨g, 0, none⟩) sm.length cb)).ownsRow w.heap.size 3 1 (.slice (some ⟨g, 0, none⟩) sm.length cb) sm.length (sm.flatMap encI) ∧ Dr w0 ((wr.setCell ⟨w.heap.size, 0, none⟩ (.int .i64 no)).setCell ⟨w.heap.size, 1, none⟩ (.slice (some ⟨g, 0, none⟩) sm.length cb)) p A n c K ∧ w.grownBy ((wr.setCell ⟨w.heap.size, 0, none⟩ (.int .i64 no)).setCell ⟨w.heap.size, 1, none⟩ (.slice (some ⟨g, 0, none⟩) sm.length cb)) (some p) := by
  have hb : Below w.heap.size wr ((wr.setCell ⟨w.heap.size, 0, none⟩ (.int .i64 no)).setCell ⟨w.heap.size, 1, none⟩ (.slice (some ⟨g, 0, none⟩) sm.length cb)) := ((Below.refl _ _).setCell (p := ⟨w.heap.size, 0, none⟩) (Nat.le_refl _) _).setCell (p := ⟨w.heap.size, 1, none⟩) (Nat.le_refl _) _
  have hst : wr.grownBy ((wr.setCell ⟨w.heap.size, 0, none⟩ (.int .i64 no)).setCell ⟨w.heap.size, 1, none⟩ (.slice (some ⟨g, 0, none⟩) sm.length cb)) (some w.heap.size) := only_setCell (p := ⟨w.heap.size, 1, none⟩) (only_setCell (p := ⟨w.heap.size, 0, none⟩) (World.grownBy.refl wr (some w.heap.size)) (.inl rfl) _) (.inl rfl) _
  have hgl := (h.row.lt g rfl)
  exact ⟨((h.res.set0 _).set1 _).2.1, own_base (World.ownsRow.kept h.row hst (.inr (by simp [Value.ownBlock]; omega))) (by omega), h0.above h.dr hb, only_above h.only hb⟩
/-- What a world's packet still lacks. -/
def smLeft (wr : World) (q : Nat) : Nat := match wr.cell? ⟨q, 1, none⟩ with
  | some v => 8 - slLen v
  | none => 0
theorem PkSt.left (h : PkSt w0 w wr p A n c K q no sm g cb) : smLeft wr q = 8 - sm.length := by
  unfold smLeft
  rw [h.box.2.1.2]
  rfl
end
end Go.Proofs.Ytifkakpiipoadaa
