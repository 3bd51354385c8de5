/-
  Packets: runs are what came, each number once, and their samples are the samples of all that are not doubled. Plain words; no program is named.
-/
import Derived.Test.YtifkakpiipoadaaPkPl
import Derived.Test.YtifkakpiipoadaaPkSmp
namespace Go.Proofs.Ytifkakpiipoadaa
set_option linter.unusedVariables false
set_option linter.unusedSimpArgs false
set_option linter.unnecessarySimpa false
open Go.RowKit

def spanR (r : P2) : List Int := rng r.a (r.b - r.a + 1).toNat
theorem span_mem {r : P2} {m : Int} : m ∈ spanR r ↔ r.a ≤ m ∧ m ≤ r.b := by
  unfold spanR
  rw [rng_mem]
  omega
theorem span_one (n : Int) : spanR ⟨n, n⟩ = [n] := by
  unfold spanR
  have e : (n - n + 1).toNat = 0 + 1 := by omega
  simp only [e]
  rw [rng_succ]
  simp [rng]
theorem span_more {p : P2} {n : Int} (h : p.b = n - 1) (hp : p.a ≤ p.b) : spanR ⟨p.a, n⟩ = spanR p ++ [n] := by
  unfold spanR
  have e : (n - p.a + 1).toNat = (p.b - p.a + 1).toNat + 1 := by omega
  simp only [e]
  rw [rng_succ]
  congr 2
  omega
structure RunI (L : List Int) (k : Nat) (D : List P2) : Prop where
  all : D.flatMap spanR = L.take k
  le : ∀ r ∈ D, r.a ≤ r.b
  gap : D.Pairwise fun r s => r.b + 1 < s.a
theorem runsK_all {L : List Int} (hL : asc L) : ∀ k, k ≤ L.length → RunI L k (runsK L k)
  | 0, _ => ⟨by simp [runsK], by simp [runsK], by simp [runsK]⟩
  | k + 1, hk => by
    obtain ⟨n, hn⟩ := some_get (show k < L.length by omega)
    obtain ⟨i1, i2, i3⟩ := runsK_all hL k (by omega)
    rw [runsK_succ hn]
    generalize runsK L k = D at i1 i2 i3
    have htk : L.take (k + 1) = L.take k ++ [n] := by rw [List.take_add_one, hn]; rfl
    rcases List.eq_nil_or_concat D with rfl | ⟨E, p, rfl⟩
    · rw [stepR_nil]
      refine ⟨?_, ?_, ?_⟩
      · rw [htk, ← i1]; simp [span_one]
      · intro r hr; rw [List.mem_singleton.1 hr]; exact Int.le_refl _
      · simp
    · rw [List.concat_eq_append] at i1 i2 i3 ⊢
      have hp : p.a ≤ p.b := i2 p (by simp)
      have hpn : p.b < n := by
        have hm : p.b ∈ (E ++ [p]).flatMap spanR := List.mem_flatMap.2 ⟨p, by simp, span_mem.2 ⟨hp, Int.le_refl _⟩⟩
        rw [i1] at hm
        obtain ⟨j, hj⟩ := List.mem_iff_getElem?.1 hm
        rw [List.getElem?_take] at hj
        split at hj
        · exact asc_get hL (by assumption) hj hn
        · cases hj
      by_cases hc : p.b = n - 1
      · rw [stepR_yes hc]
        refine ⟨?_, ?_, ?_⟩
        · rw [htk, ← i1]
          simp [span_more hc hp]
        · intro r hr
          rcases List.mem_append.1 hr with h | h
          · exact i2 r (by simp [h])
          · rw [List.mem_singleton.1 h]; simp only; omega
        · rw [List.pairwise_append] at i3 ⊢
          exact ⟨i3.1, by simp, fun r hr s hs => by
            rw [List.mem_singleton.1 hs]
            exact i3.2.2 r hr p (by simp)⟩
      · rw [stepR_no hc]
        refine ⟨?_, ?_, ?_⟩
        · rw [htk, ← i1]
          simp [span_one]
        · intro r hr
          rcases List.mem_append.1 hr with h | h
          · exact i2 r h
          · rw [List.mem_singleton.1 h]; exact Int.le_refl _
        · rw [List.pairwise_append]
          refine ⟨i3, by simp, fun r hr s hs => ?_⟩
          rw [List.mem_singleton.1 hs]
          simp only
          rcases List.mem_append.1 hr with h | h
          · rw [List.pairwise_append] at i3
            have := i3.2.2 r h p (by simp)
            omega
          · rw [List.mem_singleton.1 h]; omega
theorem runsP_all (P : List PP) : (runsP P).flatMap spanR = numsP P ∧ (∀ r ∈ runsP P, r.a ≤ r.b) ∧ (runsP P).Pairwise fun r s => r.b + 1 < s.a := by
  have h := runsK_all (L := numsP P) (putAll_asc _) _ (Nat.le_refl _)
  refine ⟨?_, h.le, h.gap⟩
  have := h.all
  rwa [List.take_length] at this
/-- Two runs: the first ends two below the next one's begin. -/
theorem runs_gap {P : List PP} {i j : Nat} {r s : P2} (hij : i < j) (hr : (runsP P)[i]? = some r) (hs : (runsP P)[j]? = some s) : r.b + 1 < s.a := by
  obtain ⟨h1, rfl⟩ := List.getElem?_eq_some_iff.1 hr
  obtain ⟨h2, rfl⟩ := List.getElem?_eq_some_iff.1 hs
  exact List.pairwise_iff_getElem.1 (runsP_all P).2.2 i j h1 h2 hij
theorem flat_one_run {P : List PP} {i : Nat} {r : P2} (hr : (runsP P)[i]? = some r) {n : Int} (h1 : r.a ≤ n) (h2 : n ≤ r.b) : ∀ k, k ≤ (runsP P).length → smpK P n k = if i < k then rngF P r.a (r.b - r.a + 1).toNat else []
  | 0, _ => by simp [smpK]
  | k + 1, hk => by
    have ih := flat_one_run hr h1 h2 k (by omega)
    obtain ⟨s, hs⟩ := some_get (show k < (runsP P).length by omega)
    have e : smpK P n (k + 1) = smpK P n k ++ rngF P s.a (runT n s) := by
      unfold smpK
      rw [List.take_add_one, hs]
      simp [List.flatMap_append]
    rw [e, ih]
    rcases Nat.lt_trichotomy i k with h | h | h
    · have hg := runs_gap h hr hs
      have ht : runT n s = 0 := by
        unfold runT
        rw [if_neg]
        simp [inB]
        omega
      rw [ht, rngF_zero, if_pos h, if_pos (by omega), List.append_nil]
    · subst h
      rw [hr] at hs
      cases hs
      have ht : runT n r = (r.b - r.a + 1).toNat := by
        unfold runT
        rw [if_pos]
        simp [inB, h1, h2]
      rw [ht, if_neg (by omega), if_pos (by omega), List.nil_append]
    · have hg := runs_gap h hs hr
      have ht : runT n s = 0 := by
        unfold runT
        rw [if_neg]
        simp [inB]
        omega
      rw [ht, rngF_zero, if_neg (by omega), if_neg (by omega), List.append_nil]
theorem run_ok {P : List PP} (hg : goodP P = true) {r : P2} (hr : r ∈ runsP P) {n : Int} (h1 : r.a ≤ n) (h2 : n ≤ r.b) : smpOK n P = true := by
  have hm : n ∈ numsP P := by
    rw [← (runsP_all P).1]
    exact List.mem_flatMap.2 ⟨r, hr, span_mem.2 ⟨h1, h2⟩⟩
  rw [← numsAt_all] at hm
  obtain ⟨i, p, _, hp, rfl⟩ := numsAt_mem.1 hm
  have := (first_le hp).1
  unfold smpOK
  simp [hg, this]
/-- The samples of a run, asked by any number of it. -/
theorem run_smp {P : List PP} (hg : goodP P = true) {i : Nat} {r : P2} (hr : (runsP P)[i]? = some r) {n : Int} (h1 : r.a ≤ n) (h2 : n ≤ r.b) : smpOK n P = true ∧ smpR n P = rngF P r.a (r.b - r.a + 1).toNat := by
  have ho := run_ok hg (List.mem_of_getElem? hr) h1 h2
  refine ⟨ho, ?_⟩
  unfold smpR
  rw [if_pos ho, flat_one_run hr h1 h2 _ (Nat.le_refl _), if_pos (List.getElem?_eq_some_iff.1 hr).1]
def sumF (f : Int → Nat) : List Int → Nat
  | [] => 0
  | x :: l => f x + sumF f l
theorem sumF_app (f : Int → Nat) : ∀ a b : List Int, sumF f (a ++ b) = sumF f a + sumF f b
  | [], b => by simp [sumF]
  | x :: a, b => by rw [List.cons_append, sumF, sumF, sumF_app f a b]; omega
theorem sumF_put {f : Int → Nat} {x : Int} : ∀ {l : List Int}, x ∉ l → sumF f (putI x l) = f x + sumF f l
  | [], _ => rfl
  | y :: ys, h => by
    simp only [List.mem_cons, not_or] at h
    unfold putI
    split
    · rw [sumF, sumF_put h.2, sumF]; omega
    · rw [if_neg (fun e => h.1 e.symm)]
      rfl
def lenF (P : List PP) (m : Int) : Nat := (smpAt P m).length
theorem rngF_len (P : List PP) (a : Int) : ∀ t, (rngF P a t).length = sumF (lenF P) (rng a t)
  | 0 => rfl
  | t + 1 => by
    rw [rng_succ, sumF_app, ← rngF_len P a t]
    unfold rngF
    rw [List.range_succ, List.flatMap_append]
    simp [sumF, lenF]
def sumN (D : List P2) : Int := (D.map fun r => r.b - r.a + 1).sum
def sumS (P : List PP) (D : List P2) : Nat := (D.map fun r => sumF (lenF P) (spanR r)).sum
theorem sumN_succ {D : List P2} {k : Nat} {r : P2} (h : D[k]? = some r) : sumN (D.take (k + 1)) = sumN (D.take k) + (r.b - r.a + 1) := by
  unfold sumN
  rw [List.take_add_one, h]
  simp [List.sum_append]
theorem sumS_succ {P : List PP} {D : List P2} {k : Nat} {r : P2} (h : D[k]? = some r) : sumS P (D.take (k + 1)) = sumS P (D.take k) + sumF (lenF P) (spanR r) := by
  unfold sumS
  rw [List.take_add_one, h]
  simp [List.sum_append]
theorem sumN_flat : ∀ {D : List P2}, (∀ r ∈ D, r.a ≤ r.b) → sumN D = ((D.flatMap spanR).length : Int)
  | [], _ => rfl
  | r :: D, h => by
    have ih := sumN_flat (D := D) (fun s hs => h s (by simp [hs]))
    have hr := h r (by simp)
    unfold sumN at ih ⊢
    rw [List.map_cons, List.sum_cons, ih, List.flatMap_cons, List.length_append]
    unfold spanR
    rw [rng_len]
    omega
theorem sumS_flat (P : List PP) : ∀ (D : List P2), sumS P D = sumF (lenF P) (D.flatMap spanR)
  | [] => rfl
  | r :: D => by
    have ih := sumS_flat P D
    unfold sumS at ih ⊢
    rw [List.map_cons, List.sum_cons, ih, List.flatMap_cons, sumF_app]
def allK (P : List PP) : Nat → Nat
  | 0 => 0
  | k + 1 => match P[k]? with
    | none => allK P k
    | some p => if dblB P k then allK P k else allK P k + p.2.length
theorem all_nums (P : List PP) : ∀ k, k ≤ P.length → sumF (lenF P) (numsAt P k) = allK P k
  | 0, _ => rfl
  | k + 1, hk => by
    have ih := all_nums P k (by omega)
    obtain ⟨p, hp⟩ := some_get (show k < P.length by omega)
    simp only [allK, hp]
    by_cases hf : firstP p.1 P < k
    · have hd : dblB P k = true := by simp [dblB, hp, hf]
      rw [if_pos hd, numsAt_old hp hf, ih]
    · have hd : dblB P k = false := by simp [dblB, hp]; omega
      have hle := first_le hp
      have he : firstP p.1 P = (k : Int) := by omega
      have hl : lenF P p.1 = p.2.length := by
        unfold lenF smpAt
        rw [he, Int.toNat_natCast, hp]
      rw [hd, if_neg (by simp), numsAt_succ hp, sumF_put (first_new hp hf), ih, hl]
      omega
/-- What the law asks of the runs' sums. -/
theorem runs_sums (P : List PP) : sumN (runsP P) = ((numsP P).length : Int) ∧ sumS P (runsP P) = allK P P.length := by
  obtain ⟨h1, h2, _⟩ := runsP_all P
  refine ⟨by rw [sumN_flat h2, h1], ?_⟩
  rw [sumS_flat, h1, ← all_nums P P.length (Nat.le_refl _), numsAt_all]
end Go.Proofs.Ytifkakpiipoadaa
