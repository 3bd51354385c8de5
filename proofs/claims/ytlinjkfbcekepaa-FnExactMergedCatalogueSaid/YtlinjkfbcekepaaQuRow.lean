/-
  An argument that is a slice of laws.Quake, opened to a list of plain data.
-/
import Derived.Test.YtlinjkfbcekepaaQu0
import Derived.Test.YtlinjkfbcekepaaKit
namespace Go.Proofs.Ytlinjkfbcekepaa
set_option linter.unusedVariables false
set_option linter.unusedSimpArgs false
set_option linter.unnecessarySimpa false
open Go.RowKit Go.WideShapes Go.ChangeShapes Go.ChangeAt

set_option maxRecDepth 100000 in
theorem rowQu {H : Type} {enc : TypeId × Value → H} {W : World} {base : Nat} {v : Value} {d : DataW H} {p : List MemPlace} (hok : Value.okWide Try.prog W .any base 46 v)
    (h : DataW.Trod enc Try.prog W 0 (fun _ => true) true 46 v d p) : ∃ (l : List Qu) (A : Option Addr) (c : Nat), v = .slice A l.length c ∧ RowAt 4 encQu W A l ∧ l.length ≤ 9223372036854775807 := by
  obtain ⟨a0, len, cap, rfl⟩ := okWide_slice Try.underlying46 hok
  obtain ⟨fuel, hf⟩ := h
  rcases open_slice_fields Try.underlying46 Try.underlying23 (by kernel_rfl) (by kernel_rfl) hf with ⟨hcs, hx⟩ | ⟨a, len', cap', m, D, Pl, hcs, _, hl, hm, hmm, hx, hi⟩
  · simp [Value.cells] at hcs
    obtain ⟨rfl, rfl, rfl⟩ := hcs
    exact ⟨[], none, 0, rfl, RowAt.nil_, by simp⟩
  · simp [Value.cells] at hcs
    obtain ⟨rfl, rfl, rfl⟩ := hcs
    rw [if_pos rfl] at hmm
    obtain ⟨l, rfl, hr⟩ := row_of (K := 4) (enc := encQu) (w := W) (a := a) (len := len) (by omega) encQu_len (fun i hlt => by
      obtain ⟨ys, n, _, _, _, hf⟩ := hi i (by omega)
      obtain ⟨v0, y0, k0, _, t0⟩ := hf 0 _ rfl
      obtain ⟨a0, e0, _, _⟩ := DataW.trod_int Try.underlying3 t0
      simp only [List.cons.injEq, and_true] at e0
      rw [e0] at k0
      obtain ⟨v1, y1, k1, _, t1⟩ := hf 1 _ rfl
      obtain ⟨a1, e1, _, _⟩ := DataW.trod_int Try.underlying3 t1
      simp only [List.cons.injEq, and_true] at e1
      rw [e1] at k1
      obtain ⟨v2, y2, k2, _, t2⟩ := hf 2 _ rfl
      obtain ⟨a2, e2, _, _⟩ := DataW.trod_int Try.underlying3 t2
      simp only [List.cons.injEq, and_true] at e2
      rw [e2] at k2
      obtain ⟨v3, y3, k3, _, t3⟩ := hf 3 _ rfl
      obtain ⟨a3, e3, _, _⟩ := DataW.trod_int Try.underlying3 t3
      simp only [List.cons.injEq, and_true] at e3
      rw [e3] at k3
      refine ⟨⟨a0, a1, a2, a3⟩, fun j u hj => ?_⟩
      match j, hj with
      | 0, hj => simp [encQu] at hj; subst hj; exact k0
      | 1, hj => simp [encQu] at hj; subst hj; exact k1
      | 2, hj => simp [encQu] at hj; subst hj; exact k2
      | 3, hj => simp [encQu] at hj; subst hj; exact k3
      | j + 4, hj => simp [encQu] at hj)
    exact ⟨l, some a, cap, rfl, hr, by unfold maxLen at hm; omega⟩
end Go.Proofs.Ytlinjkfbcekepaa
