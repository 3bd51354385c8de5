/-
  Lists in ascending order of their numbers, each element valid: plain words; no program is named.
-/
import Derived.Test.YtifkakpiipoadaaPlain0
namespace Go.Proofs.Ytifkakpiipoadaa
set_option linter.unusedVariables false
set_option linter.unusedSimpArgs false
set_option linter.unnecessarySimpa false
open Go.RowKit

/-- A property of all numbers below k, closed to the walk. -/
def UpTo (P : Nat → Prop) (k : Nat) : Prop := ∀ i, i < k → P i
theorem UpTo.zero (P : Nat → Prop) : UpTo P 0 := fun i h => absurd h (by omega)
theorem UpTo.succ {P : Nat → Prop} {k : Nat} (h : UpTo P k) (hk : P k) : UpTo P (k + 1) := fun i hi => by
  rcases Nat.lt_or_ge i k with h1 | h1
  · exact h i h1
  · obtain rfl : i = k := by omega
    exact hk

section
variable {α : Type} (one : α → Bool) (id : α → Int)
def okAt (l : List α) (k : Nat) : Bool :=
  match l[k]? with
  | none => true
  | some m => one m && (k == 0 || match l[k - 1]? with | none => true | some p => decide (id p < id m))
def listed (most : Nat) (l : List α) : Bool := (List.range l.length).all (okAt one id l) && decide (l.length ≤ most)

variable {one : α → Bool} {id : α → Int} {l : List α} {k : Nat} {m p : α} {most : Nat}
theorem okAt_zero (hm : l[0]? = some m) : okAt one id l 0 = one m := by simp [okAt, hm]
theorem okAt_succ (hm : l[k + 1]? = some m) (hp : l[k]? = some p) : okAt one id l (k + 1) = (one m && decide (id p < id m)) := by simp [okAt, hm, hp]
theorem okAt_bad (hm : l[k]? = some m) (h : one m = false) : okAt one id l k = false := by simp [okAt, hm, h]
theorem listed_no (hm : l[k]? = some m) (h : okAt one id l k = false) : listed one id most l = false := by
  have hk : k < l.length := by
    rcases Nat.lt_or_ge k l.length with h1 | h1
    · exact h1
    · rw [List.getElem?_eq_none h1] at hm; cases hm
  unfold listed
  rw [show (List.range l.length).all (okAt one id l) = false from by
    rw [List.all_eq_false]
    exact ⟨k, by simpa using hk, by simp [h]⟩]
  rfl
theorem listed_yes (h : UpTo (fun i => okAt one id l i = true) l.length) : listed one id most l = decide (l.length ≤ most) := by
  unfold listed
  rw [show (List.range l.length).all (okAt one id l) = true from by
    rw [List.all_eq_true]
    intro i hi
    exact h i (by simpa using hi)]
  rfl
theorem listed_one (h : listed one id most l = true) {i : Nat} (hi : l[i]? = some m) : one m = true := by
  unfold listed at h
  rw [Bool.and_eq_true, List.all_eq_true] at h
  have hk : i < l.length := by
    rcases Nat.lt_or_ge i l.length with h1 | h1
    · exact h1
    · rw [List.getElem?_eq_none h1] at hi; cases hi
  have h2 := h.1 i (by simpa using hk)
  simp [okAt, hi] at h2
  exact h2.1
theorem listed_len (h : listed one id most l = true) : l.length ≤ most := by
  unfold listed at h
  rw [Bool.and_eq_true] at h
  simpa using h.2
end

/-- The place of the first element at which p holds, counted from i, or -1. -/
def idxL {α : Type} (p : α → Bool) : List α → Nat → Int
  | [], _ => -1
  | x :: l, i => if p x then i else idxL p l (i + 1)
theorem idxL_sign {α : Type} (p : α → Bool) : ∀ (l : List α) (i : Nat), (0 ≤ idxL p l i ↔ l.any p = true)
  | [], i => by simp [idxL]
  | x :: l, i => by
    have ih := idxL_sign p l (i + 1)
    cases h : p x
    · simp only [idxL, h, Bool.false_eq_true, if_false, List.any_cons, Bool.false_or]; exact ih
    · simp [idxL, h]
theorem idxL_any {α : Type} (p : α → Bool) (l : List α) : decide (0 ≤ idxL p l 0) = l.any p := by
  rw [Bool.eq_iff_iff, decide_eq_true_iff]
  exact idxL_sign p l 0
end Go.Proofs.Ytifkakpiipoadaa
