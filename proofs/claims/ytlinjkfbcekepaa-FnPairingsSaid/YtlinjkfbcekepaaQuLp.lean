/-
  The longest pairing, in plain words: the table L and the first pairing G of that length.
-/
import Derived.Test.YtlinjkfbcekepaaPlain0
namespace Go.Proofs.Ytlinjkfbcekepaa
set_option linter.unusedVariables false
set_option linter.unusedSimpArgs false
set_option linter.unnecessarySimpa false

section
variable (P : Nat → Nat → Bool) (n m : Nat)
def lpR : Nat → Nat → Int
  | 0, _ => 0
  | _ + 1, 0 => 0
  | p + 1, q + 1 => max (max (lpR p (q + 1)) (lpR (p + 1) q)) (if P (n - (p + 1)) (m - (q + 1)) then 1 + lpR p q else 0)
termination_by p q => (p, q)
def lpL (i k : Nat) : Int := lpR P n m (n - i) (m - k)
theorem lpR_zero (p : Nat) : lpR P n m p 0 = 0 := by cases p <;> simp [lpR]
theorem lpR_nil (q : Nat) : lpR P n m 0 q = 0 := by simp [lpR]
theorem lpL_row {i k : Nat} (h : n ≤ i) : lpL P n m i k = 0 := by unfold lpL; rw [show n - i = 0 by omega, lpR_nil]
theorem lpL_col {i k : Nat} (h : m ≤ k) : lpL P n m i k = 0 := by unfold lpL; rw [show m - k = 0 by omega, lpR_zero]
theorem lpL_in {i k : Nat} (hi : i < n) (hk : k < m) : lpL P n m i k = max (max (lpL P n m (i + 1) k) (lpL P n m i (k + 1))) (if P i k then 1 + lpL P n m (i + 1) (k + 1) else 0) := by
  unfold lpL
  obtain ⟨p, hp⟩ : ∃ p, n - i = p + 1 := ⟨n - i - 1, by omega⟩
  obtain ⟨q, hq⟩ : ∃ q, m - k = q + 1 := ⟨m - k - 1, by omega⟩
  rw [hp, hq, show n - (i + 1) = p by omega, show m - (k + 1) = q by omega, lpR, show n - (p + 1) = i by omega, show m - (q + 1) = k by omega]
theorem lpR_nn : ∀ p q, 0 ≤ lpR P n m p q ∧ lpR P n m p q ≤ p
  | 0, q => by rw [lpR_nil]; simp
  | p + 1, 0 => by rw [lpR_zero]; omega
  | p + 1, q + 1 => by
    have h1 := lpR_nn p (q + 1)
    have h2 := lpR_nn (p + 1) q
    have h3 := lpR_nn p q
    rw [lpR]
    split <;> omega
termination_by p q => (p, q)
theorem lpL_nn (i k : Nat) : 0 ≤ lpL P n m i k ∧ lpL P n m i k ≤ n := by
  have := lpR_nn P n m (n - i) (m - k)
  unfold lpL
  omega
theorem lpL_down (i k : Nat) : lpL P n m (i + 1) k ≤ lpL P n m i k := by
  by_cases hi : i < n
  · by_cases hk : k < m
    · rw [lpL_in P n m hi hk]; omega
    · rw [lpL_col P n m (by omega), lpL_col P n m (by omega)]; omega
  · rw [lpL_row P n m (by omega), lpL_row P n m (by omega)]; omega
theorem lpL_right (i k : Nat) : lpL P n m i (k + 1) ≤ lpL P n m i k := by
  by_cases hi : i < n
  · by_cases hk : k < m
    · rw [lpL_in P n m hi hk]; omega
    · rw [lpL_col P n m (by omega), lpL_col P n m (by omega)]; omega
  · rw [lpL_row P n m (by omega), lpL_row P n m (by omega)]; omega
def lpHit (i k : Nat) (v : Int) : Bool := P i k && decide (lpL P n m (i + 1) (k + 1) + 1 = v)
theorem lp_none {i : Nat} (hi : i < n) : ∀ d q, m - q ≤ d → (∀ k, q ≤ k → k < m → lpHit P n m i k (lpL P n m i q) = false) → lpL P n m (i + 1) q = lpL P n m i q
  | 0, q, hd, _ => by rw [lpL_col P n m (by omega), lpL_col P n m (by omega)]
  | d + 1, q, hd, h => by
    by_cases hq : q < m
    · have e := lpL_in P n m hi hq
      have h0 := h q (Nat.le_refl _) hq
      have h1 := lpL_down P n m i q
      have h2 := lpL_right P n m (i + 1) q
      have h3 := lpL_right P n m i q
      by_cases hr : lpL P n m i (q + 1) = lpL P n m i q
      · have ih := lp_none hi d (q + 1) (by omega) (fun k hk1 hk2 => by rw [hr]; exact h k (by omega) hk2)
        omega
      · unfold lpHit at h0
        cases hp : P i q
        · rw [hp] at e
          simp only [Bool.false_eq_true, if_false] at e
          have := lpL_nn P n m (i + 1) q
          omega
        · rw [hp] at e h0
          simp only [if_true] at e
          have h4 : lpL P n m (i + 1) (q + 1) + 1 ≠ lpL P n m i q := by simpa using h0
          omega
    · rw [lpL_col P n m (by omega), lpL_col P n m (by omega)]
def lpFnd (i q : Nat) : Option Nat := (List.range m).find? fun k => decide (q ≤ k) && lpHit P n m i k (lpL P n m i q)
def lpGo : Nat → Nat → List (Nat × Nat)
  | 0, _ => []
  | p + 1, q => match lpFnd P n m (n - (p + 1)) q with
    | some k => (n - (p + 1), k) :: lpGo p (k + 1)
    | none => lpGo p q
def lpG (i q : Nat) : List (Nat × Nat) := lpGo P n m (n - i) q
theorem lpG_row {i q : Nat} (h : n ≤ i) : lpG P n m i q = [] := by unfold lpG; rw [show n - i = 0 by omega, lpGo]
theorem lpFnd_some {i q k : Nat} (hq : q ≤ k) (hk : k < m) (hh : lpHit P n m i k (lpL P n m i q) = true) (hn : ∀ k', q ≤ k' → k' < k → lpHit P n m i k' (lpL P n m i q) = false) : lpFnd P n m i q = some k := by
  unfold lpFnd
  rw [List.find?_range_eq_some]
  refine ⟨by simp [hq, hh], by simpa using hk, fun j hj => ?_⟩
  by_cases hjq : q ≤ j
  · simp [hn j hjq hj]
  · simp; omega
theorem lpFnd_none {i q : Nat} (hn : ∀ k', q ≤ k' → k' < m → lpHit P n m i k' (lpL P n m i q) = false) : lpFnd P n m i q = none := by
  unfold lpFnd
  rw [List.find?_eq_none]
  intro j hj
  have hj' : j < m := by simpa using hj
  by_cases hjq : q ≤ j
  · simp [hn j hjq hj']
  · simp; omega
theorem lpG_some {i q k : Nat} (hi : i < n) (hq : q ≤ k) (hk : k < m) (hh : lpHit P n m i k (lpL P n m i q) = true) (hn : ∀ k', q ≤ k' → k' < k → lpHit P n m i k' (lpL P n m i q) = false) : lpG P n m i q = (i, k) :: lpG P n m (i + 1) (k + 1) := by
  unfold lpG
  obtain ⟨p, hp⟩ : ∃ p, n - i = p + 1 := ⟨n - i - 1, by omega⟩
  rw [hp, lpGo, show n - (p + 1) = i by omega, lpFnd_some P n m hq hk hh hn, show n - (i + 1) = p by omega]
theorem lpG_none {i q : Nat} (hi : i < n) (hn : ∀ k', q ≤ k' → k' < m → lpHit P n m i k' (lpL P n m i q) = false) : lpG P n m i q = lpG P n m (i + 1) q ∧ lpL P n m (i + 1) q = lpL P n m i q := by
  refine ⟨?_, lp_none P n m hi (m - q) q (Nat.le_refl _) hn⟩
  unfold lpG
  obtain ⟨p, hp⟩ : ∃ p, n - i = p + 1 := ⟨n - i - 1, by omega⟩
  rw [hp, lpGo, show n - (p + 1) = i by omega, lpFnd_none P n m hn, show n - (i + 1) = p by omega]
theorem lpG_zero : ∀ d i q, n - i ≤ d → lpL P n m i q = 0 → lpG P n m i q = []
  | 0, i, q, hd, _ => lpG_row P n m (by omega)
  | d + 1, i, q, hd, h => by
    by_cases hi : i < n
    · have hn : ∀ k', q ≤ k' → k' < m → lpHit P n m i k' (lpL P n m i q) = false := fun k' _ _ => by
        have := lpL_nn P n m (i + 1) (k' + 1)
        unfold lpHit
        rw [h]
        simp
        omega
      obtain ⟨e1, e2⟩ := lpG_none P n m hi hn
      rw [e1]
      exact lpG_zero d (i + 1) q (by omega) (by rw [e2, h])
    · exact lpG_row P n m (by omega)
/-- Rows i .. x - 1 without a hit, asked with the number of row i. -/
theorem lpG_skip {i q : Nat} : ∀ x, i ≤ x → x ≤ n → (∀ x', i ≤ x' → x' < x → ∀ k', q ≤ k' → k' < m → lpHit P n m x' k' (lpL P n m i q) = false) → lpG P n m i q = lpG P n m x q ∧ lpL P n m x q = lpL P n m i q
  | 0, hx, _, _ => by
    obtain rfl : i = 0 := by omega
    exact ⟨rfl, rfl⟩
  | x + 1, hx, hn, h => by
    by_cases e : i = x + 1
    · subst e; exact ⟨rfl, rfl⟩
    · obtain ⟨h1, h2⟩ := lpG_skip x (by omega) (by omega) (fun x' a b => h x' a (by omega))
      obtain ⟨h3, h4⟩ := lpG_none P n m (i := x) (q := q) (by omega) (fun k' a b => by rw [h2]; exact h x (by omega) (by omega) k' a b)
      exact ⟨h1.trans h3, h4.trans h2⟩
theorem lp_some {i q : Nat} (hi : i ≤ n) (h : 0 < lpL P n m i q) : ¬ ∀ x', i ≤ x' → x' < n → ∀ k', q ≤ k' → k' < m → lpHit P n m x' k' (lpL P n m i q) = false := fun hn => by
  obtain ⟨_, h2⟩ := lpG_skip P n m n hi (Nat.le_refl _) hn
  rw [lpL_row P n m (Nat.le_refl _)] at h2
  omega
theorem lpHit_next {i k q : Nat} (h : lpHit P n m i k (lpL P n m i q) = true) : P i k = true ∧ lpL P n m (i + 1) (k + 1) = lpL P n m i q - 1 := by
  unfold lpHit at h
  simp only [Bool.and_eq_true, decide_eq_true_eq] at h
  exact ⟨h.1, by omega⟩
theorem lpG_len : ∀ p q, (lpGo P n m p q).length ≤ p
  | 0, q => by simp [lpGo]
  | p + 1, q => by
    rw [lpGo]
    split
    · have := lpG_len p (‹Nat› + 1); simp; omega
    · have := lpG_len p q; omega
theorem lpG_in : ∀ p q, p ≤ n → ∀ r ∈ lpGo P n m p q, r.1 < n ∧ r.2 < m
  | 0, q, _, r, h => by simp [lpGo] at h
  | p + 1, q, hp, r, h => by
    rw [lpGo] at h
    split at h
    · rename_i k hf
      have hk : k < m := by
        have := List.mem_of_find?_eq_some hf
        simpa using this
      rcases List.mem_cons.1 h with e | h
      · subst e; exact ⟨by omega, hk⟩
      · exact lpG_in p (k + 1) (by omega) r h
    · exact lpG_in p q (by omega) r h
end
end Go.Proofs.Ytlinjkfbcekepaa
