/-
  A table of whole numbers in new memory: rows in blocks of their own, the outer row of slices in another.
-/
import Derived.Test.YtlinjkfbcekepaaQuLp
import Derived.Test.YtlinjkfbcekepaaQuMat
import Derived.Test.YtlinjkfbcekepaaInts1
import Derived.Laws.MakeOwn
import Derived.Deep.AppendLies
namespace Go.Proofs.Ytlinjkfbcekepaa
set_option linter.unusedVariables false
set_option linter.unusedSimpArgs false
set_option linter.unnecessarySimpa false
open Go.RowKit

def pB (a b : List Qu) (t f : Int) (i k : Nat) : Bool := match a[i]?, b[k]? with | some x, some y => matchB t f x y | _, _ => false
theorem pB_at {a b : List Qu} {t f : Int} {i k : Nat} {x y : Qu} (hx : a[i]? = some x) (hy : b[k]? = some y) : pB a b t f i k = matchB t f x y := by simp [pB, hx, hy]
/-- Row j lies in block R j, with the numbers T j 0 .. T j m. -/
def RowsAt (w : World) (base : Nat) (R : Nat → Nat) (n m : Nat) (T : Nat → Nat → Int) : Prop :=
  (∀ j, j < n → base ≤ R j ∧ R j < w.heap.size ∧ ∀ q, q ≤ m → w.cell? ⟨R j, q, none⟩ = some (.int .i64 (T j q)) ∧ w.frozen? ⟨R j, q, none⟩ = false) ∧ ∀ i j, i < n → j < n → R i = R j → i = j
def rowV (R : Nat → Nat) (m j : Nat) : Value := .slice (some ⟨R j, 0, none⟩) (m + 1) (m + 1)
def rowVs (R : Nat → Nat) (m n : Nat) : List Value := (List.range n).map (rowV R m)
theorem rowVs_len (R : Nat → Nat) (m n : Nat) : (rowVs R m n).length = n := by simp [rowVs]
theorem rowVs_get {R : Nat → Nat} {m n j : Nat} (h : j < n) : (rowVs R m n)[j]? = some (rowV R m j) := by simp [rowVs, h]
theorem RowsAt.grown {w w' : World} {base n m : Nat} {R : Nat → Nat} {T : Nat → Nat → Int} {row : Option Nat} (h : RowsAt w base R n m T) (hg : w.grownBy w' row) (hne : ∀ j, j < n → some (R j) ≠ row) : RowsAt w' base R n m T :=
  ⟨fun j hj => by
    obtain ⟨h1, h2, h3⟩ := h.1 j hj
    exact ⟨h1, Nat.lt_of_lt_of_le h2 hg.size, fun q hq => ⟨(hg.cell_far ⟨R j, q, none⟩ h2 (hne j hj)).trans (h3 q hq).1, (hg.frozen_far ⟨R j, q, none⟩ h2 (hne j hj)).trans (h3 q hq).2⟩⟩, h.2⟩
theorem RowsAt.below {w w' : World} {base n m : Nat} {R : Nat → Nat} {T : Nat → Nat → Int} (h : RowsAt w base R n m T) (hb : Below w.heap.size w w') : RowsAt w' base R n m T := h.grown (only_of_below hb none) (fun _ _ e => by cases e)
theorem RowsAt.base {w : World} {base base' n m : Nat} {R : Nat → Nat} {T : Nat → Nat → Int} (h : RowsAt w base R n m T) (hb : base' ≤ base) : RowsAt w base' R n m T :=
  ⟨fun j hj => ⟨Nat.le_trans hb (h.1 j hj).1, (h.1 j hj).2⟩, h.2⟩
theorem RowsAt.ext {w : World} {base n m : Nat} {R : Nat → Nat} {T T' : Nat → Nat → Int} (h : RowsAt w base R n m T) (he : ∀ j q, j < n → q ≤ m → T j q = T' j q) : RowsAt w base R n m T' :=
  ⟨fun j hj => ⟨(h.1 j hj).1, (h.1 j hj).2.1, fun q hq => ⟨by rw [← he j q hj hq]; exact ((h.1 j hj).2.2 q hq).1, ((h.1 j hj).2.2 q hq).2⟩⟩, h.2⟩
def updT (T : Nat → Nat → Int) (i k : Nat) (v : Int) (j q : Nat) : Int := if j = i ∧ q = k then v else T j q
theorem RowsAt.store {w : World} {base n m : Nat} {R : Nat → Nat} {T : Nat → Nat → Int} (h : RowsAt w base R n m T) {i k : Nat} (hi : i < n) (hk : k ≤ m) (v : Int) : RowsAt (w.setCell ⟨R i, k, none⟩ (.int .i64 v)) base R n m (updT T i k v) :=
  ⟨fun j hj => by
    obtain ⟨h1, h2, h3⟩ := h.1 j hj
    refine ⟨h1, by simpa [World.setCell] using h2, fun q hq => ⟨?_, by simpa using (h3 q hq).2⟩⟩
    unfold updT
    by_cases e : j = i ∧ q = k
    · obtain ⟨rfl, rfl⟩ := e
      rw [if_pos ⟨rfl, rfl⟩]
      exact World.cell?_setCell_same _ _ _ (h3 q hq).1
    · rw [if_neg e, World.cell?_setCell_other]
      · exact (h3 q hq).1
      · intro e2
        simp only [Addr.mk.injEq, and_true] at e2
        exact e ⟨(h.2 i j hi hj e2.1).symm, e2.2.symm⟩, h.2⟩
/-- One row more, in a block that was new. -/
theorem RowsAt.push {w : World} {base n m b : Nat} {R : Nat → Nat} {T : Nat → Nat → Int} (h : RowsAt w base R n m T) (hb : base ≤ b) (hlt : b < w.heap.size) (hnew : ∀ j, j < n → R j < b) (hc : ∀ q, q ≤ m → w.cell? ⟨b, q, none⟩ = some (.int .i64 (T n q)) ∧ w.frozen? ⟨b, q, none⟩ = false) :
    RowsAt w base (fun j => if j = n then b else R j) (n + 1) m T := by
  refine ⟨fun j hj => ?_, fun i j hi hj e => ?_⟩
  · by_cases e : j = n
    · subst e
      simp only [if_true]
      exact ⟨hb, hlt, hc⟩
    · simp only [if_neg e]
      exact h.1 j (by omega)
  · by_cases ei : i = n
    · by_cases ej : j = n
      · omega
      · have := hnew j (by omega)
        simp only [if_pos ei, if_neg ej] at e
        omega
    · by_cases ej : j = n
      · have := hnew i (by omega)
        simp only [if_neg ei, if_pos ej] at e
        omega
      · simp only [if_neg ei, if_neg ej] at e
        exact h.2 i j (by omega) (by omega) e
theorem rowVs_push {R : Nat → Nat} {m n b : Nat} : rowVs (fun j => if j = n then b else R j) m (n + 1) = rowVs R m n ++ [.slice (some ⟨b, 0, none⟩) (m + 1) (m + 1)] := by
  unfold rowVs
  rw [List.range_succ, List.map_append]
  congr 1
  · exact List.map_congr_left fun j hj => by
      have : j < n := by simpa using hj
      simp [rowV, show j ≠ n by omega]
  · simp [rowV]
theorem infoII : (Try.prog.info? 54).map (fun i => (i.zero, i.size, i.bytes)) = some (some (.slice none 0 0), 1, 24) := by kernel_rfl
theorem mk_row {m : Nat} (hm : m ≤ 1048576) (w : World) : (Instr.makeSlice 54 (.int .i64 ((m : Int) + 1)) (.int .i64 ((m : Int) + 1))).run Try.prog w = .ok (.slice (some ⟨w.heap.size, 0, none⟩) (m + 1) (m + 1)) (w.alloc (.cells (madeCells #[.int .i64 0] (m + 1)) 3)) := by
  obtain ⟨i0, hi0, hz0, hz1, hz2⟩ := info_parts infoI
  have h := run_make (P := Try.prog) w 54 3 i0 (.int .i64 0) Try.underlying54 hi0 hz0 .i64 .i64 ((m : Int) + 1) ((m : Int) + 1) (by omega) (by omega) (by rw [hz2]; omega) (by omega)
  have e : ((m : Int) + 1).toNat = m + 1 := by omega
  rw [e, hz1, Nat.mul_one] at h
  exact h
theorem mk_cell {m : Nat} (w : World) {q : Nat} (hq : q ≤ m) : (w.alloc (.cells (madeCells #[.int .i64 0] (m + 1)) 3)).cell? ⟨w.heap.size, q, none⟩ = some (.int .i64 0) ∧ (w.alloc (.cells (madeCells #[.int .i64 0] (m + 1)) 3)).frozen? ⟨w.heap.size, q, none⟩ = false := by
  have hs : (madeCells #[Value.int .i64 0] (m + 1)).size = m + 1 := size_madeCells _ _
  refine ⟨?_, by simp [go_sem]⟩
  have hg : (madeCells #[Value.int .i64 0] (m + 1))[q]? = some (.int .i64 0) := by
    rw [Array.getElem?_eq_getElem (by omega)]
    simp [madeCells, Nat.mod_one]
  simp [go_sem, hs, hg]
end Go.Proofs.Ytlinjkfbcekepaa
