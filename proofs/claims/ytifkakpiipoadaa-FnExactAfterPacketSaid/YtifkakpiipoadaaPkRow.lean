/-
  An argument that is a slice of laws.Packet, opened to a list of plain data.
-/
import Derived.Test.YtifkakpiipoadaaPk0
import Derived.Test.YtifkakpiipoadaaKit
namespace Go.Proofs.Ytifkakpiipoadaa
open Go.RowKit Go.WideShapes Go.ChangeShapes Go.ChangeAt

/-- The ints that a slice of ints reads as. -/
theorem rowI_trod {H : Type} {enc : TypeId × Value → H} {W : World} {base : Nat} {fuel : Nat} {v : Value} {x : DataW H × List MemPlace}
    (h : DataW.trod enc Try.prog W base (fun _ => true) true fuel 29 [v] = some x) : ∃ (l : List Int) (A : Option Addr) (c : Nat), v = .slice A l.length c ∧ RowAt 1 encI W A l ∧ l.length ≤ 9223372036854775807 := by
  have hI : Try.prog.cellsOf 3 = 1 := by kernel_rfl
  rcases Go.Deep.open_slice Try.underlying29 h with ⟨hcs, hx⟩ | ⟨a, len, cap, m, n, D, Pl, hcs, _, hl, hm, hmm, hx, hi⟩
  · simp only [List.cons.injEq, and_true] at hcs
    exact ⟨[], none, 0, hcs, RowAt.nil_, by simp⟩
  · simp only [List.cons.injEq, and_true] at hcs
    rw [if_pos rfl] at hmm
    obtain ⟨l, rfl, hr⟩ := row_of (K := 1) (enc := encI) (w := W) (a := a) (len := len) (by omega) encI_len (fun i hlt => by
      obtain ⟨cs', hc, ht⟩ := hi i (by omega)
      rw [hI] at hc
      obtain ⟨_, hcl, hat⟩ := World.cells?_some hc
      match cs', hcl with
      | [c0], _ =>
        obtain ⟨x0, e0, _, _⟩ := DataW.trod_int Try.underlying3 ht
        simp only [List.cons.injEq, and_true] at e0
        have k0 := hat 0 (by omega)
        rw [Go.Deep.add_add] at k0
        refine ⟨x0, fun j u hj => ?_⟩
        match j, hj with
        | 0, hj => simp [encI] at hj; subst hj; rw [k0, e0]; rfl
        | j + 1, hj => simp [encI] at hj)
    exact ⟨l, some a, cap, hcs, hr, by unfold maxLen at hm; omega⟩

set_option maxRecDepth 100000 in
theorem rowPk {H : Type} {enc : TypeId × Value → H} {W : World} {base : Nat} {v : Value} {d : DataW H} {p : List MemPlace} (hok : Value.okWide Try.prog W .any base 22 v)
    (h : DataW.Trod enc Try.prog W 0 (fun _ => true) true 22 v d p) : ∃ (l : List Pk) (A : Option Addr) (c : Nat), v = .slice A l.length c ∧ PkAt W A l ∧ (l.length ≤ 9223372036854775807 ∧ ∀ p ∈ l, p.sm.length ≤ 9223372036854775807) := by
  obtain ⟨a0, len, cap, rfl⟩ := okWide_slice Try.underlying22 hok
  obtain ⟨fuel, hf⟩ := h
  rcases open_slice_fields Try.underlying22 Try.underlying36 (by kernel_rfl) (by kernel_rfl) hf with ⟨hcs, hx⟩ | ⟨a, len', cap', m, D, Pl, hcs, _, hl, hm, hmm, hx, hi⟩
  · simp [Value.cells] at hcs
    obtain ⟨rfl, rfl, rfl⟩ := hcs
    exact ⟨[], none, 0, rfl, ⟨RowAt.nil_, fun p hp => by simp at hp⟩, by simp, fun p hp => by simp at hp⟩
  · simp [Value.cells] at hcs
    obtain ⟨rfl, rfl, rfl⟩ := hcs
    rw [if_pos rfl] at hmm
    obtain ⟨l, hll, hp⟩ := list_of (p := fun i (q : Pk) => (∀ j u, (encPk q)[j]? = some u → W.cell? (a.add (i * 2 + j)) = some u) ∧ RowAt 1 encI W q.A q.sm ∧ q.sm.length ≤ 9223372036854775807) len (fun i hlt => by
      obtain ⟨ys, n, _, _, _, hf⟩ := hi i (by omega)
      obtain ⟨v0, y0, k0, _, t0⟩ := hf 0 _ rfl
      obtain ⟨x0, e0, _, _⟩ := DataW.trod_int Try.underlying3 t0
      simp only [List.cons.injEq, and_true] at e0
      rw [e0] at k0
      obtain ⟨v1, y1, k1, _, t1⟩ := hf 1 _ rfl
      obtain ⟨sm, A1, c1, e1, hr1, hl1⟩ := rowI_trod t1
      rw [e1] at k1
      refine ⟨⟨x0, sm, A1, c1⟩, fun j u hj => ?_, hr1, hl1⟩
      match j, hj with
      | 0, hj => simp [encPk] at hj; subst hj; exact k0
      | 1, hj => simp [encPk] at hj; subst hj; exact k1
      | j + 2, hj => simp [encPk] at hj)
    refine ⟨l, some a, cap, by rw [hll], ⟨fun hne => ?_, fun p hpm => ?_⟩, by unfold maxLen at hm; omega, fun p hpm => ?_⟩
    · match l, hne with
      | q :: l', _ =>
        obtain ⟨b, off, spot⟩ := a
        have h1 := (hp 0 q rfl).1 0 _ rfl
        have hspot : spot = none := by simpa [Addr.add] using World.cell?_spot h1
        subst hspot
        refine ⟨b, off, rfl, World.block_lt_of_cell? W ⟨b, off, none⟩ (by simpa [Addr.add] using h1), fun i x hx j u hj => ?_⟩
        rw [← Addr.add_lit]
        exact (hp i x hx).1 j u hj
    · obtain ⟨i, hi2⟩ := List.mem_iff_getElem?.1 hpm
      exact (hp i p hi2).2.1
    · obtain ⟨i, hi2⟩ := List.mem_iff_getElem?.1 hpm
      exact (hp i p hi2).2.2
end Go.Proofs.Ytifkakpiipoadaa
