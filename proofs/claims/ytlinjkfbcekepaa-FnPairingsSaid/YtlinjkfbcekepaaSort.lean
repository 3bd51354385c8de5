/-
  slices.SortFunc over a row of the call's own: the shelf's words turned to this seat's (ownsRow, grownBy).
-/
import Derived.Test.YtlinjkfbcekepaaInts0
import Derived.Shelf.SlSortCmp.NoneTotal
namespace Go.Proofs.Ytlinjkfbcekepaa
set_option linter.unusedVariables false
set_option linter.unusedSimpArgs false
set_option linter.unnecessarySimpa false
open Go.RowKit

/-- A call that only makes memory, and draws onward. -/
def Lays (w w' : World) : Prop := Below w.heap.size w w' ∧ w.drawn ≤ w'.drawn
section
variable {w W w1 : World}
theorem lref (w : World) : Lays w w := ⟨bref w, Nat.le_refl _⟩
theorem lalloc (h : Lays w W) (o : Obj) : Lays w (W.alloc o) := ⟨balloc h.1 o, h.2⟩
theorem ldrew (h : Lays w W) : Lays w W.drew := ⟨bdrew h.1, Nat.le_trans h.2 (Nat.le_succ _)⟩
theorem ldrewN (h : Lays w W) (n : Nat) : Lays w (W.drewN n) := ⟨bdrewN h.1 n, Nat.le_trans h.2 (Nat.le_add_right _ _)⟩
theorem lset (h : Lays w W) {p : Addr} (hp : w.heap.size ≤ p.block) (u : Value) : Lays w (W.setCell p u) := ⟨bset h.1 hp u, h.2⟩
theorem lstep (h : Lays w W) (h1 : Lays W w1) : Lays w w1 := ⟨bstep h.1 h1.1, Nat.le_trans h.2 h1.2⟩
theorem Lays.grow (h : Lays w w1) : ∃ (q : Nat) (os : Array Obj), w1 = Go.Sort.grow (w.drewN q) os := by
  obtain ⟨h, hd⟩ := h
  refine ⟨w1.drawn - w.drawn, w1.heap.extract w.heap.size w1.heap.size, ?_⟩
  have e : w.heap ++ w1.heap.extract w.heap.size w1.heap.size = w1.heap := by
    apply Array.ext_getElem?
    intro k
    have hs := h.size
    by_cases hk : k < w.heap.size
    · rw [Array.getElem?_append_left hk, ← h.block k hk]
    · rw [Array.getElem?_append_right (by omega), Array.getElem?_extract, Nat.min_self]
      by_cases hk2 : k < w1.heap.size
      · rw [if_pos (by omega)]; congr 1; omega
      · rw [if_neg (by omega), Array.getElem?_eq_none (by omega)]
  obtain ⟨hp, tp, dr, o, ou⟩ := w1
  have h1 := h.os
  have h2 := h.tape
  have h3 := h.output
  dsimp only at *
  subst h1 h2 h3
  simp only [Go.Sort.grow, World.drewN, e, World.mk.injEq, true_and, and_true]
  omega
end

section
variable {α : Type} [Inhabited α] {enc : α → List Value} {K : Nat} {w : World} {base E n c g : Nat}
theorem getB {d : Array α} {i : Nat} (h : i < d.size) : d.toList[i]? = some d[i]! := by
  rw [List.getElem?_eq_getElem (by simpa using h)]
  simp [getElem!_pos d i h]
theorem flatK_flat (hK : ∀ x, (enc x).length = K) (d : Array α) {j : Nat} (hj : j < d.size * K) : (d.toList.flatMap enc)[j]? = some (Go.Sort.flatK enc K d)[j]! := by
  have h0 : 0 < K := by
    rcases Nat.eq_zero_or_pos K with h | h
    · subst h; simp at hj
    · exact h
  have hi : j / K < d.size := Nat.div_lt_of_lt_mul (by rw [Nat.mul_comm]; exact hj)
  have hr : j % K < (enc d[j / K]!).length := by rw [hK]; exact Nat.mod_lt _ h0
  have hf := flat_get hK d.toList _ _ (getB hi) _ _ (List.getElem?_eq_getElem hr)
  rw [show j / K * K + j % K = j by rw [Nat.mul_comm]; exact Nat.div_add_mod _ _] at hf
  rw [hf, Go.Sort.get_flatK _ _ _ _ hj]
  exact congrArg some (getElem!_pos (enc d[j / K]!) (j % K) hr).symm
theorem own_holdsK (hK : ∀ x, (enc x).length = K) {l : List α} (hl : l.length = n) (h : w.ownsRow base E K (.slice (some ⟨g, 0, none⟩) n c) n (l.flatMap enc)) : Go.Sort.HoldsK enc K w g 0 l.toArray := fun j hj => by
  rw [Go.Sort.size_flatK] at hj
  have hj' : j < n * K := by simpa [hl] using hj
  have hc := h.cellAt j hj'
  have hf := flatK_flat hK l.toArray hj
  refine ⟨?_, by rw [Nat.zero_add]; exact h.frozenAt j⟩
  rw [Nat.zero_add, hc]
  simpa using hf
theorem sort_own (hK : ∀ x, (enc x).length = K) {xs : List Value} (h : w.ownsRow base E K (.slice (some ⟨g, 0, none⟩) n c) n xs) {d : Array α} (hd : d.size = n) (m : Nat) (os : Array Obj) :
    (sortWorldK enc K w g 0 m d os).ownsRow base E K (.slice (some ⟨g, 0, none⟩) n c) n (d.toList.flatMap enc) ∧ w.grownBy (sortWorldK enc K w g 0 m d os) (some g) := by
  rcases h.2 with ⟨hv, _⟩ | ⟨g', cap, cur, hv, hg, hh, hnc, hcm, hcs, ht⟩
  · simp at hv
  · simp only [Value.slice.injEq, Option.some.injEq, Addr.mk.injEq, and_true, true_and] at hv
    obtain ⟨rfl, rfl⟩ := hv
    have hlt : g < w.heap.size := (Array.getElem?_eq_some_iff.1 hh).1
    have hFs : (Go.Sort.flatK enc K d).size = n * K := by rw [Go.Sort.size_flatK, hd]
    have hle : n * K ≤ cur.size := by rw [hcs]; exact Nat.mul_le_mul_right _ hnc
    refine ⟨⟨by rw [flat_len hK]; simp [hd], .inr ⟨g, c, Go.Sort.putCells id 0 (Go.Sort.flatK enc K d) cur, rfl, hg, ?_, hnc, hcm, by simp [Go.Sort.putCells, hcs], ?_⟩⟩, rfl, rfl, rfl, ?_, fun k hk hne => ?_⟩
    · unfold sortWorldK
      rw [Go.Sort.heap_grow_old _ _ (by simpa [Go.Sort.putRowK] using hlt)]
      simp [Go.Sort.putRowK, Go.Sort.putRow, Go.Sort.mapBlock, Array.getElem?_modify, hh, Go.Sort.onCells]
    · apply List.ext_getElem?
      intro j
      by_cases hj : j < n * K
      · rw [flatK_flat hK d (by rw [hd]; exact hj), List.getElem?_take, if_pos hj]
        simp [Go.Sort.putCells, hFs, hj, show j < cur.size by omega]
      · rw [List.getElem?_eq_none (by simp; omega), List.getElem?_eq_none (by rw [flat_len hK]; simp [hd]; omega)]
    · unfold sortWorldK
      simp [Go.Sort.putRowK]
    · unfold sortWorldK
      rw [Go.Sort.heap_grow_old _ _ (by simpa [Go.Sort.putRowK] using hk)]
      have : g ≠ k := fun e => hne (by rw [e])
      simp [Go.Sort.putRowK, Go.Sort.putRow, Go.Sort.mapBlock, Array.getElem?_modify, this]
omit [Inhabited α] in
theorem cmpLays_of [Inhabited α] {P : Program} {f : Nat} {cb : Array Value} {cf : α → α → Int} {blk off size : Nat} {w : World}
    (h : ∀ x y W, Calls P f (#[.agg (enc x).toArray, .agg (enc y).toArray] ++ cb) W fun e w' => e = .returned (.int .i64 (cf x y)) ∧ Lays W w') : CmpLays P f cb enc K cf blk off size w :=
  fun m os dk _ x y => (h x y _).mono fun _ _ ⟨he, hl⟩ => ⟨he, hl.grow⟩
end
section
variable {α : Type} [Inhabited α]
theorem permIn_list {d d' : Array α} (h : Go.Sort.PermIn 0 d.size d d') : d'.toList.Perm d.toList := by
  obtain ⟨hsz, _, hp⟩ := h
  have e1 : d'.extract 0 d.size = d' := by rw [← hsz]; exact Array.extract_size
  rw [e1, Array.extract_size] at hp
  exact hp
theorem sortedIn_list {lt : α → α → Bool} {d' : Array α} {n : Nat} (hn : d'.size = n) (h : Go.Sort.SortedIn lt 0 n d') : d'.toList.Pairwise (fun x y => lt y x = false) := by
  rw [List.pairwise_iff_getElem]
  intro i j hi hj hij
  have hi' : i < d'.size := by simpa using hi
  have hj' : j < d'.size := by simpa using hj
  have := h i j (Nat.zero_le _) hij (by omega)
  rw [getElem!_pos d' j hj', getElem!_pos d' i hi'] at this
  simpa using this
end
end Go.Proofs.Ytlinjkfbcekepaa
