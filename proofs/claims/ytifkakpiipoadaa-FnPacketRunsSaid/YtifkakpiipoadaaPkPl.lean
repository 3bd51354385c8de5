/-
  Packets: lost numbers and those that came, doubled, late and other packets. Plain words; no program is named.
-/
import Derived.Test.YtifkakpiipoadaaPkConf
import Derived.Test.YtifkakpiipoadaaPkLate
import Derived.Test.YtifkakpiipoadaaPkDbl
import Derived.Test.YtifkakpiipoadaaPkAsk
namespace Go.Proofs.Ytifkakpiipoadaa
set_option linter.unusedVariables false
set_option linter.unusedSimpArgs false
set_option linter.unnecessarySimpa false
open Go.RowKit

theorem asc_get {L : List Int} (h : asc L) {i j : Nat} {x y : Int} (hij : i < j) (hx : L[i]? = some x) (hy : L[j]? = some y) : x < y := by
  obtain ⟨h1, rfl⟩ := List.getElem?_eq_some_iff.1 hx
  obtain ⟨h2, rfl⟩ := List.getElem?_eq_some_iff.1 hy
  exact List.pairwise_iff_getElem.1 h i j h1 h2 hij
theorem rng_mem {a n : Int} {t : Nat} : n ∈ rng a t ↔ a ≤ n ∧ n < a + t := by
  unfold rng
  rw [List.mem_map]
  constructor
  · rintro ⟨i, hi, rfl⟩
    have := List.mem_range.1 hi
    omega
  · rintro ⟨h1, h2⟩
    exact ⟨(n - a).toNat, List.mem_range.2 (by omega), by omega⟩
theorem lost_row {L : List Int} (hL : asc L) {x0 : Int} (h0 : L[0]? = some x0) : ∀ (k : Nat) (y : Int), L[k]? = some y → ((lostAt L (k + 1)).length : Int) + k = y - x0 ∧ ∀ n ∈ lostAt L (k + 1), n ∉ L
  | 0, y, hy => by
    rw [h0] at hy
    cases hy
    simp [lostAt]
  | k + 1, y, hy => by
    obtain ⟨x, hx⟩ := some_get (l := L) (k := k) (by have := (List.getElem?_eq_some_iff.1 hy).1; omega)
    obtain ⟨i1, i2⟩ := lost_row hL h0 k x hx
    have hxy := asc_get hL (Nat.lt_succ_self k) hx hy
    have e : lostAt L (k + 1 + 1) = lostAt L (k + 1) ++ rng (x + 1) (y - (x + 1)).toNat := by
      rw [← gapL_at (L := L) (k := k + 1) hx hy]
      rfl
    rw [e]
    refine ⟨by rw [List.length_append, rng_len]; omega, fun n hn => ?_⟩
    rcases List.mem_append.1 hn with h | h
    · exact i2 n h
    · have hb := rng_mem.1 h
      intro hm
      obtain ⟨j, hj⟩ := List.mem_iff_getElem?.1 hm
      rcases Nat.lt_trichotomy j k with r | r | r
      · have := asc_get hL r hj hx; omega
      · subst r; rw [hx] at hj; cases hj; omega
      · rcases Nat.lt_trichotomy j (k + 1) with r2 | r2 | r2
        · omega
        · subst r2; rw [hy] at hj; cases hj; omega
        · have := asc_get hL r2 hy hj; omega
theorem lost_whole {L : List Int} (hL : asc L) (h : 0 < L.length) : ∃ x y : Int, L[0]? = some x ∧ L[L.length - 1]? = some y ∧ ((lostAt L L.length).length : Int) + L.length = y - x + 1 ∧ ∀ n ∈ lostAt L L.length, n ∉ L := by
  obtain ⟨x, hx⟩ := some_get h
  obtain ⟨y, hy⟩ := some_get (l := L) (k := L.length - 1) (by omega)
  obtain ⟨h1, h2⟩ := lost_row hL hx _ y hy
  rw [show L.length - 1 + 1 = L.length by omega] at h1 h2
  exact ⟨x, y, hx, hy, by omega, h2⟩
theorem putI_new {x : Int} : ∀ {l : List Int}, x ∉ l → (putI x l).length = l.length + 1
  | [], _ => rfl
  | y :: ys, h => by
    simp only [List.mem_cons, not_or] at h
    unfold putI
    split
    · simp [putI_new h.2]
    · rw [if_neg (fun e => h.1 e.symm)]
      rfl
theorem plcs_mem {p : Nat → Bool} {k : Nat} {n : Int} : n ∈ plcs p k ↔ ∃ i : Nat, i < k ∧ p i = true ∧ n = i := by
  unfold plcs
  rw [List.mem_map]
  constructor
  · rintro ⟨i, hi, rfl⟩
    rw [List.mem_filter, List.mem_range] at hi
    exact ⟨i, hi.1, hi.2, rfl⟩
  · rintro ⟨i, h1, h2, rfl⟩
    exact ⟨i, List.mem_filter.2 ⟨List.mem_range.2 h1, h2⟩, rfl⟩
theorem numsAt_all (P : List PP) : numsAt P P.length = numsP P := by
  unfold numsAt numsP
  rw [List.take_of_length_le (Nat.le_refl _)]
theorem numsAt_mem {P : List PP} {k : Nat} {x : Int} : x ∈ numsAt P k ↔ ∃ (i : Nat) (p : PP), i < k ∧ P[i]? = some p ∧ p.1 = x := by
  unfold numsAt
  rw [putAll_mem, List.mem_map]
  constructor
  · rintro ⟨p, hp, rfl⟩
    obtain ⟨i, hi⟩ := List.mem_iff_getElem?.1 hp
    rw [List.getElem?_take] at hi
    split at hi
    · exact ⟨i, p, by assumption, hi, rfl⟩
    · cases hi
  · rintro ⟨i, p, h1, h2, rfl⟩
    refine ⟨p, List.mem_iff_getElem?.2 ⟨i, ?_⟩, rfl⟩
    rw [List.getElem?_take, if_pos h1, h2]
theorem first_new {P : List PP} {k : Nat} {p : PP} (h : P[k]? = some p) (hf : ¬ firstP p.1 P < k) : p.1 ∉ numsAt P k := fun hm => by
  obtain ⟨i, q, h1, h2, h3⟩ := numsAt_mem.1 hm
  have := (first_le h2).2
  rw [h3] at this
  omega
theorem dbl_count (P : List PP) : ∀ k, k ≤ P.length → (plcs (dblB P) k).length + (numsAt P k).length = k
  | 0, _ => rfl
  | k + 1, hk => by
    have ih := dbl_count P k (by omega)
    obtain ⟨p, hp⟩ := some_get (show k < P.length by omega)
    by_cases hf : firstP p.1 P < k
    · have hd : dblB P k = true := by simp [dblB, hp, hf]
      rw [plcs_hit hd, numsAt_old hp hf, List.length_append, List.length_singleton]
      omega
    · have hd : dblB P k = false := by simp [dblB, hp]; omega
      rw [plcs_miss hd, numsAt_succ hp, putI_new (first_new hp hf)]
      omega
theorem dbl_all {P : List PP} (hg : goodP P = true) : ((idxR P (dblB P)).length : Int) + (numR P).length = P.length := by
  have h := dbl_count P P.length (Nat.le_refl _)
  rw [numsAt_all] at h
  simp only [idxR, numR, hg, if_true]
  omega
theorem late_all (P : List PP) : ∀ n ∈ idxR P (lateB P), n ∉ idxR P (dblB P) := by
  unfold idxR
  intro n h1 h2
  split at h1
  · rename_i hg
    rw [if_pos hg] at h2
    obtain ⟨i, hi, ha, rfl⟩ := plcs_mem.1 h1
    obtain ⟨j, hj, hb, e⟩ := plcs_mem.1 h2
    obtain rfl : i = j := by omega
    unfold lateB at ha
    unfold dblB at hb
    split at ha
    · cases ha
    · rename_i p hp
      rw [hp] at hb
      simp at ha hb
      omega
  · simp at h1
theorem conf_all (P : List PP) : ∀ n ∈ idxR P (confB P), n ∈ idxR P (dblB P) := by
  unfold idxR
  intro n h1
  split at h1
  · rename_i hg
    obtain ⟨i, hi, ha, rfl⟩ := plcs_mem.1 h1
    rw [if_pos hg]
    refine plcs_mem.2 ⟨i, hi, ?_, rfl⟩
    unfold confB at ha
    unfold dblB
    split at ha
    · cases ha
    · rename_i p hp
      rw [hp]
      have h2 := first_le hp
      by_cases hf : firstP p.1 P < i
      · simp [hf]
      · rw [show firstP p.1 P = (i : Int) by omega, Int.toNat_natCast, hp] at ha
        simp [sameI] at ha
  · simp at h1
theorem lost_good {P : List PP} (h : lostOK P = true) : goodP P = true := by
  unfold lostOK at h
  simp only [Bool.and_eq_true] at h
  exact h.1
/-- What the law asks of the lost numbers. -/
theorem lost_all {P : List PP} (h : lostOK P = true) (h0 : 0 < (numR P).length) : ∃ x y : Int, (numR P)[0]? = some x ∧ (numR P)[(numR P).length - 1]? = some y ∧ ((lostR P).length : Int) + (numR P).length = y - x + 1 ∧ ∀ n ∈ lostR P, n ∉ numR P := by
  have hg := lost_good h
  simp only [numR, lostR, hg, h, if_true] at h0 ⊢
  exact lost_whole (putAll_asc _) h0
theorem ask_all {P : List PP} (h : lostOK P = true) : askOK 3 P = true ∧ (askR 3 P).length ≤ 3 ∧ ∀ x ∈ askR 3 P, x ∈ lostR P := by
  have h3 : askOK 3 P = true := by unfold askOK; rw [h]; rfl
  refine ⟨h3, ?_, ?_⟩
  · unfold askR
    rw [if_pos h3, List.length_take]
    exact Nat.min_le_left _ _
  · intro x hx
    unfold askR at hx
    rw [if_pos h3] at hx
    exact List.mem_of_mem_take hx
theorem ask_not {P : List PP} (n : Int) (h : lostOK P = false) : askOK n P = false := by unfold askOK; rw [h]; rfl
end Go.Proofs.Ytifkakpiipoadaa
