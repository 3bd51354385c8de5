/-
  The draws, shared by the modules: blocks of four cells, rows that stay, a cursor just made.
-/
import Derived.Test.YtifkakpiipoadaaCurD
namespace Go.Proofs.Ytifkakpiipoadaa
set_option linter.unusedVariables false
set_option linter.unusedSimpArgs false
set_option linter.unnecessarySimpa false
open Go.RowKit
attribute [local go_sem] ext_cell ext_frozen

theorem cells4 {w : World} {g : Nat} {a b c d : Value} {E : TypeId} (h : w.heap[g]? = some (.cells #[a, b, c, d] E (0, 0))) :
    w.cell? ⟨g, 0, none⟩ = some a ∧ w.cell? ⟨g, 1, none⟩ = some b ∧ w.cell? ⟨g, 2, none⟩ = some c ∧ w.cell? ⟨g, 3, none⟩ = some d ∧ w.frozen? ⟨g, 0, none⟩ = false ∧ w.frozen? ⟨g, 1, none⟩ = false ∧ w.frozen? ⟨g, 2, none⟩ = false ∧ w.frozen? ⟨g, 3, none⟩ = false :=
  ⟨by rw [cell_of_row w g _ _ E (0, 0) h]; rfl, by rw [cell_of_row w g _ _ E (0, 0) h]; rfl, by rw [cell_of_row w g _ _ E (0, 0) h]; rfl, by rw [cell_of_row w g _ _ E (0, 0) h]; rfl, by simp [World.frozen?, h], by simp [World.frozen?, h], by simp [World.frozen?, h], by simp [World.frozen?, h]⟩
theorem blk_kept {w w' : World} {g : Nat} {o : Obj} {row : Option Nat} (h : w.heap[g]? = some o) (hg : w.grownBy w' row) (hne : some g ≠ row) : w'.heap[g]? = some o :=
  (hg.block g (Array.getElem?_eq_some_iff.1 h).1 hne).trans h
theorem blk_alloc {w : World} {g : Nat} {o : Obj} (h : w.heap[g]? = some o) (o2 : Obj) : (w.alloc o2).heap[g]? = some o :=
  blk_kept h (only_alloc (World.grownBy.refl w none) o2) (by simp)
theorem only_above {w w6 W : World} {r : Option Nat} (h : w.grownBy w6 r) (hb : Below w.heap.size w6 W) : w.grownBy W r :=
  ⟨hb.os.trans h.os, hb.tape.trans h.tape, hb.output.trans h.output, Nat.le_trans h.size hb.size, fun i hi hne => (hb.block i hi).trans (h.block i hi hne)⟩
theorem Dr.above {w0 w w6 W : World} {p : Nat} {A : Option Addr} {n c K K' : Nat} (h : Dr w0 w p A n c K) (h6 : Dr w0 w6 p A n c K') (hb : Below w.heap.size w6 W) : Dr w0 W p A n c K' := by
  obtain ⟨⟨k, h1, s, h2⟩, h3⟩ := h6
  obtain ⟨⟨k0, _, s0, hp0, _, _, _, _, _, hc0, _⟩, h03⟩ := h
  obtain ⟨hp, x0, x1, x2, f1, f2, hc, hne⟩ := h2
  refine ⟨⟨k, h1, s, Nat.lt_of_lt_of_le hp hb.size, (hb.cell (p := ⟨p, 0, none⟩) hp0).trans x0, (hb.cell (p := ⟨p, 1, none⟩) hp0).trans x1, (hb.cell (p := ⟨p, 2, none⟩) hp0).trans x2, (hb.frozen (p := ⟨p, 1, none⟩) hp0).trans f1, (hb.frozen (p := ⟨p, 2, none⟩) hp0).trans f2, fun j hj => ?_, hne⟩, only_above h3 (hb.mono h03.size)⟩
  obtain ⟨b, off, v, e, hb1, hcc, h0⟩ := hc j hj
  obtain ⟨b', off', v', e', hb', _⟩ := hc0 j hj
  rw [e] at e'
  cases e'
  exact ⟨b, off, v, e, Nat.lt_of_lt_of_le hb1 hb.size, (hb.cell (p := ⟨b, off + j, none⟩) hb').trans hcc, h0⟩
theorem set4 {w : World} {g : Nat} {a b c d : Value} (a' b' c' d' : Value) (h0 : w.cell? ⟨g, 0, none⟩ = some a) (h1 : w.cell? ⟨g, 1, none⟩ = some b) (h2 : w.cell? ⟨g, 2, none⟩ = some c) (h3 : w.cell? ⟨g, 3, none⟩ = some d) :
    ((((w.setCell ⟨g, 0, none⟩ a').setCell ⟨g, 1, none⟩ b').setCell ⟨g, 2, none⟩ c').setCell ⟨g, 3, none⟩ d').cell? ⟨g, 0, none⟩ = some a' ∧ ((((w.setCell ⟨g, 0, none⟩ a').setCell ⟨g, 1, none⟩ b').setCell ⟨g, 2, none⟩ c').setCell ⟨g, 3, none⟩ d').cell? ⟨g, 1, none⟩ = some b' ∧ ((((w.setCell ⟨g, 0, none⟩ a').setCell ⟨g, 1, none⟩ b').setCell ⟨g, 2, none⟩ c').setCell ⟨g, 3, none⟩ d').cell? ⟨g, 2, none⟩ = some c' ∧ ((((w.setCell ⟨g, 0, none⟩ a').setCell ⟨g, 1, none⟩ b').setCell ⟨g, 2, none⟩ c').setCell ⟨g, 3, none⟩ d').cell? ⟨g, 3, none⟩ = some d' := by
  refine ⟨?_, ?_, ?_, ?_⟩
  · rw [World.cell?_setCell_other, World.cell?_setCell_other, World.cell?_setCell_other, World.cell?_setCell_same _ _ _ h0] <;> simp
  · rw [World.cell?_setCell_other, World.cell?_setCell_other, World.cell?_setCell_same _ _ _ (show (w.setCell ⟨g, 0, none⟩ a').cell? ⟨g, 1, none⟩ = some b by rw [World.cell?_setCell_other, h1]; simp)] <;> simp
  · rw [World.cell?_setCell_other, World.cell?_setCell_same _ _ _ (show ((w.setCell ⟨g, 0, none⟩ a').setCell ⟨g, 1, none⟩ b').cell? ⟨g, 2, none⟩ = some c by rw [World.cell?_setCell_other, World.cell?_setCell_other, h2] <;> simp)]; simp
  · rw [World.cell?_setCell_same _ _ _ (show (((w.setCell ⟨g, 0, none⟩ a').setCell ⟨g, 1, none⟩ b').setCell ⟨g, 2, none⟩ c').cell? ⟨g, 3, none⟩ = some d by rw [World.cell?_setCell_other, World.cell?_setCell_other, World.cell?_setCell_other, h3] <;> simp)]
theorem set_far {w : World} {g g' o o' : Nat} {a v : Value} (h : w.cell? ⟨g, o, none⟩ = some a) (hne : g ≠ g') : (w.setCell ⟨g', o', none⟩ v).cell? ⟨g, o, none⟩ = some a := by
  rw [World.cell?_setCell_other, h]
  intro e; simp only [Addr.mk.injEq] at e; exact hne e.1.symm
theorem Dr.more {w0 w : World} {p : Nat} {A : Option Addr} {n c K K' : Nat} (h : Dr w0 w p A n c K) (hK : K ≤ K') : Dr w0 w p A n c K' := by
  obtain ⟨⟨k, h1, h2⟩, h3⟩ := h
  exact ⟨⟨k, Nat.le_trans h1 hK, h2⟩, h3⟩

theorem own_dr {w w' : World} {p base E K n c : Nat} {A : Option Addr} {xs : List Value} (h : w.ownsRow base E K (.slice A n c) n xs) (hg : w.grownBy w' (some p)) (hp : p < base) : w'.ownsRow base E K (.slice A n c) n xs := by
  refine h.kept hg ?_
  cases e : (Value.slice A n c).ownBlock with
  | none => exact .inl rfl
  | some q =>
    right
    intro e2
    have h1 := h.lt q e
    cases e2
    omega

def slLen : Value → Nat
  | .slice _ n _ => n
  | _ => 0
/-- A cursor that was just made. -/
theorem dr_new {w : World} {A : Option Addr} {n c : Nat} {E : TypeId} (h : CodeAt w A n) :
    Dr (w.alloc (.cells #[.slice A n c, .int .i64 0, .int .u64 0] E)) (w.alloc (.cells #[.slice A n c, .int .i64 0, .int .u64 0] E)) w.heap.size A n c 0 := by
  have hb := heap_new1 w (.cells #[.slice A n c, .int .i64 0, .int .u64 0] E)
  have hB := balloc (bref w) (.cells #[.slice A n c, .int .i64 0, .int .u64 0] E)
  have hs : w.heap.size < (w.alloc (.cells #[.slice A n c, .int .i64 0, .int .u64 0] E)).heap.size := by simp
  generalize w.alloc (.cells #[.slice A n c, .int .i64 0, .int .u64 0] E) = w1 at hb hB hs ⊢
  refine ⟨⟨0, Nat.le_refl _, 0, hs, ?_, ?_, ?_, ?_, ?_, h.grown (only_of_below hB none) (fun _ _ _ e => by cases e), fun h0 b off e => ?_⟩, World.grownBy.refl _ _⟩
  · rw [cell_of_row w1 _ _ _ E (0, 0) hb]; rfl
  · rw [cell_of_row w1 _ _ _ E (0, 0) hb]; rfl
  · rw [cell_of_row w1 _ _ _ E (0, 0) hb]; rfl
  · simp [World.frozen?, hb]
  · simp [World.frozen?, hb]
  · obtain ⟨b', off', v, e', hb', _⟩ := h 0 h0
    rw [e'] at e
    cases e
    omega
/-- What was changed in a new block only was changed in no old one. -/
theorem below_new {w w' : World} {o : Obj} (h : (w.alloc o).grownBy w' (some w.heap.size)) : Below w.heap.size w w' :=
  bgrown (balloc (bref w) o) h (fun k hk => by cases hk; exact Nat.le_refl _)
end Go.Proofs.Ytifkakpiipoadaa
