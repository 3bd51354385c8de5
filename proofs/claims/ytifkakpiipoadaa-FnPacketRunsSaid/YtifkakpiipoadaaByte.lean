/-
  An argument that is a slice of bytes, opened to what the draws read.
-/
import Derived.Test.YtifkakpiipoadaaDrK
namespace Go.Proofs.Ytifkakpiipoadaa
set_option linter.unusedVariables false
set_option linter.unusedSimpArgs false
set_option linter.unnecessarySimpa false
open Go.RowKit Go.WideShapes Go.ChangeShapes Go.ChangeAt

set_option maxRecDepth 100000 in
theorem rowU8 {H : Type} {enc : TypeId × Value → H} {W : World} {base : Nat} {v : Value} {d : DataW H} {p : List MemPlace} (hok : Value.okWide Try.prog W .any base 52 v)
    (h : DataW.Trod enc Try.prog W 0 (fun _ => true) true 52 v d p) : ∃ (A : Option Addr) (n c : Nat), v = .slice A n c ∧ CodeAt W A n ∧ n ≤ 9223372036854775807 := by
  have hI : Try.prog.cellsOf 5 = 1 := by kernel_rfl
  obtain ⟨a0, len, cap, rfl⟩ := okWide_slice Try.underlying52 hok
  obtain ⟨fuel, hf⟩ := h
  rcases Go.Deep.open_slice Try.underlying52 hf with ⟨hcs, hx⟩ | ⟨a, len', cap', m, n, D, Pl, hcs, _, hl, hm, hmm, hx, hi⟩
  · simp [Value.cells] at hcs
    obtain ⟨rfl, rfl, rfl⟩ := hcs
    exact ⟨none, 0, 0, rfl, fun k hk => absurd hk (by omega), by simp⟩
  · simp [Value.cells] at hcs
    obtain ⟨rfl, rfl, rfl⟩ := hcs
    rw [if_pos rfl] at hmm
    refine ⟨some a, len, cap, rfl, fun k hk => ?_, by unfold maxLen at hm; omega⟩
    obtain ⟨cs0, hc0, _⟩ := hi 0 (by omega)
    rw [hI] at hc0
    obtain ⟨_, hcl0, hat0⟩ := World.cells?_some hc0
    obtain ⟨cs', hc, ht⟩ := hi k (by omega)
    rw [hI] at hc
    obtain ⟨_, hcl, hat⟩ := World.cells?_some hc
    match cs', hcl, cs0, hcl0 with
    | [c0], _, [c00], _ =>
      obtain ⟨x0, e0, _, w0⟩ := DataW.trod_int Try.underlying5 ht
      simp only [List.cons.injEq, and_true] at e0
      have k0 := hat 0 (by omega)
      rw [Go.Deep.add_add] at k0
      have k1 : W.cell? (a.add (k * 1 + 0)) = some (.int .u8 x0) := by rw [k0, e0]; rfl
      have z0 := hat0 0 (by omega)
      rw [Go.Deep.add_add] at z0
      have z1 : W.cell? (a.add (0 * 1 + 0)) = some c00 := by rw [z0]; rfl
      have b0 : 0 ≤ x0 ∧ x0 ≤ 255 := by
        simp [Lit.wf, IntKind.min, IntKind.max, IntKind.signed, IntKind.bits] at w0
        omega
      obtain ⟨b, off, spot⟩ := a
      have hspot : spot = none := by simpa [Addr.add] using World.cell?_spot z1
      subst hspot
      rw [Addr.add_lit] at k1
      refine ⟨b, off, x0, rfl, World.block_lt_of_cell? W ⟨b, off + (k * 1 + 0), none⟩ k1, ?_, b0⟩
      simpa using k1
theorem CodeAt.below {w w' : World} {A : Option Addr} {n : Nat} (h : CodeAt w A n) (hb : Below w.heap.size w w') : CodeAt w' A n := h.grown (only_of_below hb none) (fun _ _ _ e => by cases e)
end Go.Proofs.Ytifkakpiipoadaa
