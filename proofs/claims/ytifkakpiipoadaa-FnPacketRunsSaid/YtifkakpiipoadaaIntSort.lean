/-
  slices.Sort and slices.Compact at []int, over a row of the call's own.
-/
import Derived.Test.YtifkakpiipoadaaShelf
import Derived.Test.YtifkakpiipoadaaAsc
import Derived.Test.YtifkakpiipoadaaCntI
import Derived.Test.YtifkakpiipoadaaKit
namespace Go.Proofs.Ytifkakpiipoadaa
set_option linter.unusedVariables false
set_option linter.unusedSimpArgs false
set_option linter.unnecessarySimpa false
open Go.RowKit

section
variable {α : Type} [Inhabited α] {enc : α → Value} {w : World} {base E n c g : Nat}
theorem own_holds1 {l : List α} (hl : l.length = n) (h : w.ownsRow base E 1 (.slice (some ⟨g, 0, none⟩) n c) n (l.map enc)) : Go.Sort.Holds enc w g 0 l.toArray := fun j hj => by
  have hj' : j < l.length := by simpa using hj
  have hc := h.cellAt j (by omega)
  refine ⟨?_, by rw [Nat.zero_add]; exact h.frozenAt j⟩
  rw [Nat.zero_add, hc]
  simp [hj', getElem!_pos]
theorem putRow_own {xs : List Value} (h : w.ownsRow base E 1 (.slice (some ⟨g, 0, none⟩) n c) n xs) {d : Array α} (hd : d.size = n) (m : Nat) (os : Array Obj) :
    (Go.Sort.grow (Go.Sort.putRow enc (Go.Sort.ahead w m) g 0 d) os).ownsRow base E 1 (.slice (some ⟨g, 0, none⟩) n c) n (d.toList.map enc) ∧ w.grownBy (Go.Sort.grow (Go.Sort.putRow enc (Go.Sort.ahead w m) g 0 d) os) (some g) := by
  rcases h.2 with ⟨hv, _⟩ | ⟨g', cap, cur, hv, hg, hh, hnc, hcm, hcs, ht⟩
  · simp at hv
  · simp only [Value.slice.injEq, Option.some.injEq, Addr.mk.injEq, and_true, true_and] at hv
    obtain ⟨rfl, rfl⟩ := hv
    have hlt : g < w.heap.size := (Array.getElem?_eq_some_iff.1 hh).1
    refine ⟨⟨by simp [hd], .inr ⟨g, c, Go.Sort.putCells enc 0 d cur, rfl, hg, ?_, hnc, hcm, by simp [Go.Sort.putCells, hcs], ?_⟩⟩, rfl, rfl, rfl, ?_, fun k hk hne => ?_⟩
    · rw [Go.Sort.heap_grow_old _ _ (by simpa using hlt)]
      simp [Go.Sort.putRow, Go.Sort.mapBlock, Array.getElem?_modify, hh, Go.Sort.onCells]
    · apply List.ext_getElem?
      intro j
      by_cases hj : j < n
      · rw [List.getElem?_take, if_pos (by omega)]
        simp [Go.Sort.putCells, hd, hj, show j < cur.size by omega, getElem!_pos]
      · rw [List.getElem?_eq_none (by simp; omega), List.getElem?_eq_none (by simp [hd]; omega)]
    · simp
    · rw [Go.Sort.heap_grow_old _ _ (by simpa using hk)]
      have : g ≠ k := fun e => hne (by rw [e])
      simp [Go.Sort.putRow, Go.Sort.mapBlock, Array.getElem?_modify, this]
end
theorem own_cut {w : World} {base E K n n' c g : Nat} {xs : List Value} (h : w.ownsRow base E K (.slice (some ⟨g, 0, none⟩) n c) n xs) (hn : n' ≤ n) : w.ownsRow base E K (.slice (some ⟨g, 0, none⟩) n' c) n' (xs.take (n' * K)) := by
  have hx := h.1
  have hle := Nat.mul_le_mul_right K hn
  refine ⟨by rw [List.length_take]; omega, ?_⟩
  rcases h.2 with ⟨hv, _⟩ | ⟨g', cap, cur, hv, hg, hh, hnc, hcm, hcs, ht⟩
  · simp at hv
  · simp only [Value.slice.injEq, Option.some.injEq, Addr.mk.injEq, and_true, true_and] at hv
    obtain ⟨rfl, rfl⟩ := hv
    refine .inr ⟨g, c, cur, rfl, hg, hh, by omega, hcm, hcs, ?_⟩
    rw [← ht, List.take_take, Nat.min_eq_left hle]

theorem sort_any (l : List Int) (g c base : Nat) (w : World) (hown : w.ownsRow base 3 1 (.slice (some ⟨g, 0, none⟩) l.length c) l.length (l.flatMap encI)) (hlen : l.length ≤ 2097152) :
    Calls Try.prog 102 #[.slice (some ⟨g, 0, none⟩) l.length c] w fun e w' => e = .returned (.tuple #[]) ∧ w'.ownsRow base 3 1 (.slice (some ⟨g, 0, none⟩) l.length c) l.length ((l.mergeSort fun x y => decide (x ≤ y)).flatMap encI) ∧ w.grownBy w' (some g) := by
  have h1 := hown
  rw [flatI] at h1
  refine (Try.slices_Sort_int g 0 c l w (own_holds1 rfl h1) (hown.lt g rfl).2 (by omega)).mono fun e w' ⟨he, n, os, hw⟩ => ?_
  subst hw
  have h2 := putRow_own (enc := Value.int .i64) h1 (d := (l.mergeSort fun x y => decide (x ≤ y)).toArray) (by simp) n os
  rw [flatI]
  exact ⟨he, by simpa using h2.1, h2.2⟩
theorem compact_le (l : List Int) : (Lib.compact l).length ≤ l.length := by
  unfold Lib.compact Lib.compactUpTo
  rw [List.length_map]
  exact Nat.le_trans (List.length_filter_le _ _) (by simp)
theorem compact_any (l : List Int) (g c base : Nat) (w : World) (hown : w.ownsRow base 3 1 (.slice (some ⟨g, 0, none⟩) l.length c) l.length (l.flatMap encI)) (hlen : l.length ≤ 2097152) :
    Calls Try.prog 103 #[.slice (some ⟨g, 0, none⟩) l.length c] w fun e w' => e = .returned (.slice (some ⟨g, 0, none⟩) (Lib.compact l).length c) ∧ w'.ownsRow base 3 1 (.slice (some ⟨g, 0, none⟩) (Lib.compact l).length c) (Lib.compact l).length ((Lib.compact l).flatMap encI) ∧ w.grownBy w' (some g) := by
  have h1 := hown
  rw [flatI] at h1
  refine (Try.slices_Compact_int g 0 c l w (own_holds1 rfl h1) (by omega) (own_cap hown)).mono fun e w' ⟨he, n, hw⟩ => ?_
  subst hw
  have hle := compact_le l
  have h2 := putRow_own (enc := Value.int .i64) h1 (d := (Lib.compact l ++ List.replicate (l.length - (Lib.compact l).length) 0).toArray) (by simp; omega) n #[]
  rw [Go.Sort.grow_empty] at h2
  have h3 := own_cut h2.1 hle
  rw [flatI]
  refine ⟨he, ?_, h2.2⟩
  have e : (((Lib.compact l ++ List.replicate (l.length - (Lib.compact l).length) 0).toArray.toList.map (Value.int .i64)).take ((Lib.compact l).length * 1)) = (Lib.compact l).map (Value.int .i64) := by
    simp [List.take_left']
  rwa [e] at h3
end Go.Proofs.Ytifkakpiipoadaa
