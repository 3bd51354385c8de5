/-
  Catalogues: what the laws ask of merged ones, of matches and of quakes put in. Plain words; no program is named.
-/
import Derived.Test.YtlinjkfbcekepaaQuMrgP
import Derived.Test.YtlinjkfbcekepaaQuOnly
import Derived.Test.YtlinjkfbcekepaaQuMat
import Derived.Test.YtlinjkfbcekepaaQuPutQ
import Derived.Test.YtlinjkfbcekepaaQuLngL
namespace Go.Proofs.Ytlinjkfbcekepaa
set_option linter.unusedVariables false
set_option linter.unusedSimpArgs false
set_option linter.unnecessarySimpa false
open Go.RowKit

theorem lpGo_asc (P : Nat → Nat → Bool) (n m : Nat) : ∀ p q, (∀ x ∈ lpGo P n m p q, q ≤ x.2 ∧ x.2 < m) ∧ (lpGo P n m p q).Pairwise fun x y => x.2 < y.2
  | 0, q => by simp [lpGo]
  | p + 1, q => by
    unfold lpGo
    split
    · rename_i k hk
      unfold lpFnd at hk
      have hkm : k < m := List.mem_range.1 (List.mem_of_find?_eq_some hk)
      have hkq := List.find?_some hk
      simp only [Bool.and_eq_true, decide_eq_true_eq] at hkq
      obtain ⟨i1, i2⟩ := lpGo_asc P n m p (k + 1)
      refine ⟨fun x hx => ?_, ?_⟩
      · rcases List.mem_cons.1 hx with rfl | h
        · exact ⟨hkq.1, hkm⟩
        · have := i1 x h
          omega
      · rw [List.pairwise_cons]
        exact ⟨fun y hy => by have := i1 y hy; simp only; omega, i2⟩
    · exact lpGo_asc P n m p q
theorem cnt_one {k : Nat} : ∀ {S : List Nat}, S.Pairwise (· < ·) → (S.filter fun x => decide (x < k + 1)).length = (S.filter fun x => decide (x < k)).length + if k ∈ S then 1 else 0
  | [], _ => by simp
  | x :: S, h => by
    rw [List.pairwise_cons] at h
    have ih := cnt_one (k := k) h.2
    by_cases h1 : x = k
    · subst h1
      have hn : x ∉ S := fun hm => by have := h.1 x hm; omega
      simp only [List.filter_cons, hn, if_false] at ih ⊢
      simp [ih]
    · have e : (k ∈ x :: S) ↔ k ∈ S := by simp [Ne.symm h1]
      simp only [List.filter_cons, e]
      by_cases h2 : x < k
      · rw [if_pos (by simp; omega), if_pos (by simpa using h2), List.length_cons, List.length_cons, ih]
        omega
      · rw [if_neg (by simp; omega), if_neg (by simpa using h2), ih]
theorem cnt_all {S : List Nat} (h : S.Pairwise (· < ·)) : ∀ k, ((List.range k).filter fun j => decide (j ∈ S)).length = (S.filter fun x => decide (x < k)).length
  | 0 => by
    have e : (S.filter fun x => decide (x < 0)) = [] := by rw [List.filter_eq_nil_iff]; simp
    rw [e]
    rfl
  | k + 1 => by
    rw [List.range_succ, List.filter_append, List.length_append, cnt_all h k, cnt_one h]
    by_cases hk : k ∈ S <;> simp [hk]
theorem filter_two {α : Type} (p : α → Bool) : ∀ l : List α, (l.filter p).length + (l.filter fun x => !p x).length = l.length
  | [] => rfl
  | x :: l => by
    have := filter_two p l
    cases h : p x <;> simp [h] <;> omega
theorem filterMap_le {α β : Type} (g : α → Option β) : ∀ l : List α, (l.filterMap g).length ≤ l.length
  | [] => Nat.le_refl _
  | x :: l => by
    have := filterMap_le g l
    rw [List.filterMap_cons]
    split <;> simp <;> omega
theorem frB_lng (a b : List Qu) (t f : Int) : (frB b (prdI a b t f) b.length).length + (lpP a b t f 0 0).length ≤ b.length := by
  obtain ⟨h1, h2⟩ := lpGo_asc (pB a b t f) a.length b.length (a.length - 0) 0
  have e1 : lpGo (pB a b t f) a.length b.length (a.length - 0) 0 = lpG (pB a b t f) a.length b.length 0 0 := rfl
  rw [e1] at h1 h2
  have hS : ((lpG (pB a b t f) a.length b.length 0 0).map Prod.snd).Pairwise (· < ·) := by
    rw [List.pairwise_map]
    exact h2
  have hall : (((lpG (pB a b t f) a.length b.length 0 0).map Prod.snd).filter fun x => decide (x < b.length)) = (lpG (pB a b t f) a.length b.length 0 0).map Prod.snd := by
    rw [List.filter_eq_self]
    intro x hx
    obtain ⟨y, hy, rfl⟩ := List.mem_map.1 hx
    simpa using (h1 y hy).2
  have hc := cnt_all hS b.length
  rw [hall, List.length_map] at hc
  have hl : (lpP a b t f 0 0).length = (lpG (pB a b t f) a.length b.length 0 0).length := by simp [lpP]
  have hb : ∀ j : Nat, hasB (prdI a b t f) (j : Int) = decide (j ∈ (lpG (pB a b t f) a.length b.length 0 0).map Prod.snd) := fun j => by
    rw [Bool.eq_iff_iff, decide_eq_true_eq]
    unfold hasB prdI lpP
    rw [List.any_eq_true]
    constructor
    · rintro ⟨y, hy, e⟩
      simp only [List.map_map, List.mem_map] at hy
      obtain ⟨x, hx, rfl⟩ := hy
      have e2 : ((x.2 : Nat) : Int) = (j : Int) := of_decide_eq_true e
      exact List.mem_map.2 ⟨x, hx, by omega⟩
    · intro hj
      obtain ⟨x, hx, rfl⟩ := List.mem_map.1 hj
      exact ⟨(x.2 : Int), by simp only [List.map_map, List.mem_map]; exact ⟨x, hx, rfl⟩, by simp⟩
  have hf : (fun (j : Nat) => !hasB (prdI a b t f) (j : Int)) = fun j => !decide (j ∈ (lpG (pB a b t f) a.length b.length 0 0).map Prod.snd) := by
    funext j
    rw [hb j]
  unfold frB
  rw [hf]
  have h3 := filterMap_le (fun j => b[j]?) ((List.range b.length).filter fun j => !decide (j ∈ (lpG (pB a b t f) a.length b.length 0 0).map Prod.snd))
  have h4 := filter_two (fun j => decide (j ∈ (lpG (pB a b t f) a.length b.length 0 0).map Prod.snd)) (List.range b.length)
  rw [List.length_range] at h4
  omega
theorem putQ_two (x : Qu) : ∀ l : List Qu, (putQ x l).length = l.length ∨ (putQ x l).length = l.length + 1
  | [] => .inr rfl
  | y :: ys => by
    have ih := putQ_two x ys
    unfold putQ
    split
    · simpa using ih
    · split
      · exact .inl rfl
      · exact .inr rfl
theorem mrgQ_len (a b : List Qu) (t f : Int) : (mrgQ a b t f).length + (lpP a b t f 0 0).length ≤ a.length + b.length := by
  have h1 := putAllQ_len (frB b (prdI a b t f) b.length) a
  have h2 := frB_lng a b t f
  unfold mrgQ
  omega
theorem mrgQ_has {a b : List Qu} {t f : Int} (ha : ascQ a) : ∀ x ∈ a, x ∈ mrgQ a b t f := fun x hx => ((putAllQ_spec _ a ha).2 x).2 (.inl hx)
theorem matAt_mem {a b : List Qu} {t f : Int} : ∀ {k : Nat} {p : P2}, p ∈ matAt a b t f k → ∃ (i : Nat) (q r : Qu), a[i]? = some q ∧ r ∈ b ∧ matchB t f q r = true ∧ p.a = i
  | 0, p, h => by simp [matAt] at h
  | k + 1, p, h => by
    unfold matAt at h
    rcases List.mem_append.1 h with h | h
    · exact matAt_mem h
    · split at h
      · simp at h
      · rename_i q hq
        unfold matR at h
        obtain ⟨j, hj, rfl⟩ := List.mem_map.1 h
        have hj2 := (List.mem_filter.1 hj).2
        split at hj2
        · cases hj2
        · rename_i r hr
          exact ⟨k, q, r, hq, List.mem_of_getElem? hr, hj2, rfl⟩
theorem mat_only (a b : List Qu) (t f : Int) : ∀ p ∈ matL a b t f, p.a ∉ onlyL a b t f := fun p hp ho => by
  unfold matL at hp
  unfold onlyL at ho
  split at hp
  · rename_i hb
    rw [if_pos hb] at ho
    obtain ⟨i, q, r, hq, hr, hm, e⟩ := matAt_mem hp
    unfold onlyAt at ho
    obtain ⟨j, hj, e2⟩ := List.mem_map.1 ho
    obtain rfl : i = j := by omega
    have := (List.mem_filter.1 hj).2
    rw [hq] at this
    unfold lonely at this
    rw [List.all_eq_true] at this
    have := this r hr
    rw [hm] at this
    cases this
  · simp at hp
theorem put_all {l : List Qu} {q : Qu} (h : putOK l q = true) : (putL l q).length = l.length + 1 ∧ goodQu (putL l q) = true := by
  have h2 := h
  unfold putOK at h2
  simp only [Bool.and_eq_true, decide_eq_true_eq] at h2
  unfold putL
  rw [if_pos h]
  have := putQ_two q l
  exact ⟨by omega, h2.2.2⟩
/-- What the law asks of a merged catalogue. -/
theorem mrg_all {a b : List Qu} {t f : Int} (h : mrgOK a b t f = true) : bothB a b t f = true ∧ goodQu (mrgL a b t f) = true ∧ (mrgL a b t f).length + (lngL a b t f).length ≤ a.length + b.length ∧ ∀ x ∈ a, x ∈ mrgL a b t f := by
  have h2 := h
  unfold mrgOK at h2
  rw [Bool.and_eq_true] at h2
  have e : mrgL a b t f = mrgQ a b t f := by unfold mrgL; rw [if_pos h]
  have e2 : lngL a b t f = lpP a b t f 0 0 := by unfold lngL; rw [if_pos h2.1]
  rw [e, e2]
  exact ⟨h2.1, h2.2, mrgQ_len a b t f, mrgQ_has (goodQu_ascQ (bothB_true h2.1).1)⟩
end Go.Proofs.Ytlinjkfbcekepaa
