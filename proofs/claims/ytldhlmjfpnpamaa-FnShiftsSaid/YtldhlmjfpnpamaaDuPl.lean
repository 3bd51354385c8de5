/-
  Duties: a swap keeps the sum of all hours, and nobody has more hours than who has the most. Plain words; no program is named.
-/
import Derived.Test.YtldhlmjfpnpamaaDuSwap
import Derived.Test.YtldhlmjfpnpamaaDuFair
namespace Go.Proofs.Ytldhlmjfpnpamaa
open Go.RowKit

theorem hoursL_go (who : Int) : ∀ (l : List Du) (s : Int), l.foldl (fun s d => if d.who = who then s + (d.en - d.bg) else s) s = s + l.foldl (fun s d => if d.who = who then s + (d.en - d.bg) else s) 0
  | [], s => by simp
  | m :: l, s => by
    simp only [List.foldl_cons]
    rw [hoursL_go who l (if m.who = who then s + (m.en - m.bg) else s), hoursL_go who l (if m.who = who then 0 + (m.en - m.bg) else 0)]
    split <;> omega
theorem hoursL_cons (who : Int) (m : Du) (l : List Du) : hoursL who (m :: l) = (if m.who = who then m.en - m.bg else 0) + hoursL who l := by
  unfold hoursL
  simp only [List.foldl_cons]
  rw [hoursL_go who l (if m.who = who then 0 + (m.en - m.bg) else 0)]
  split <;> omega
def sumH (l : List Du) : Nat → Int
  | 0 => 0
  | k + 1 => sumH l k + hoursL ((k : Int) + 1) l
theorem sumH_nil : ∀ K, sumH [] K = 0
  | 0 => rfl
  | k + 1 => by simp [sumH, sumH_nil k, hoursL]
theorem sumH_cons (m : Du) (l : List Du) : ∀ K : Nat, sumH (m :: l) K = (if 1 ≤ m.who ∧ m.who ≤ K then m.en - m.bg else 0) + sumH l K
  | 0 => by
    rw [if_neg (by omega)]
    simp [sumH]
  | k + 1 => by
    simp only [sumH]
    rw [sumH_cons m l k, hoursL_cons]
    by_cases h1 : m.who = (k : Int) + 1
    · rw [if_pos h1, if_neg (by omega), if_pos (by omega)]
      omega
    · rw [if_neg h1]
      by_cases h2 : 1 ≤ m.who ∧ m.who ≤ (k : Int)
      · rw [if_pos h2, if_pos (by omega)]
        omega
      · rw [if_neg h2, if_neg (by omega)]
        omega
def spanD (l : List Du) : Int := (l.map fun d => d.en - d.bg).sum
theorem sumH_span : ∀ {l : List Du}, (∀ m ∈ l, duB m = true) → sumH l 50 = spanD l
  | [], _ => by rw [sumH_nil]; rfl
  | m :: l, h => by
    have hb := duB_bounds (h m (List.mem_cons_self))
    rw [sumH_cons, sumH_span (fun x hx => h x (List.mem_cons_of_mem _ hx)), if_pos (by omega)]
    simp [spanD]
theorem sum_perm {a b : List Int} (h : a.Perm b) : a.sum = b.sum := by
  induction h with
  | nil => rfl
  | cons x _ ih => simp [ih]
  | swap x y l => simp only [List.sum_cons]; omega
  | trans _ _ i1 i2 => exact i1.trans i2
theorem span_perm {a b : List Du} (h : a.Perm b) : spanD a = spanD b := sum_perm (h.map _)
theorem span_set {l : List Du} {i : Nat} {x : Du} (hx : l[i]? = some x) (n : Int) : spanD (l.set i (setWho x n)) = spanD l := by
  unfold spanD
  congr 1
  rw [List.map_set]
  apply List.ext_getElem?
  intro k
  by_cases h : i = k
  · subst h
    have hl := (List.getElem?_eq_some_iff.1 hx).1
    rw [List.getElem?_set_self (by simpa using hl), List.getElem?_map, hx]
    rfl
  · rw [List.getElem?_set_ne h]
theorem span_swap {l : List Du} {i j : Nat} (hij : i ≠ j) : spanD (swapL l i j) = spanD l := by
  unfold swapL
  split
  · rename_i x y hx hy
    have hy2 : (l.set i (setWho x y.who))[j]? = some y := by rw [List.getElem?_set_ne hij, hy]
    rw [span_set hy2, span_set hx]
  · rfl
/-- What the law asks of a swap. -/
theorem swap_sum {l : List Du} {a b : Int} (h : swapOK l a b = true) : goodDu l = true ∧ goodDu (swP l a b) = true ∧ sumH (swP l a b) 50 = sumH l 50 := by
  unfold swapOK swapOK0 at h
  simp only [Bool.and_eq_true, Bool.not_eq_true', beq_eq_false_iff_ne, ne_eq] at h
  obtain ⟨⟨h1, h2, h3, h4⟩, h5⟩ := h
  have b3 := inB_true h3
  have b4 := inB_true h4
  refine ⟨h1, h5, ?_⟩
  rw [sumH_span (goodDu_all h5), sumH_span (goodDu_all h1)]
  unfold swP
  rw [span_perm (sortL_perm _), span_swap (by omega)]
theorem swap_at {l : List Du} {a b : Int} (h : swapOK l a b = true) : ∃ (i j : Nat) (x y : Du), a = (i : Int) ∧ b = (j : Int) ∧ l[i]? = some x ∧ l[j]? = some y := by
  unfold swapOK swapOK0 at h
  simp only [Bool.and_eq_true] at h
  obtain ⟨⟨_, _, h3, h4⟩, _⟩ := h
  have b3 := inB_true h3
  have b4 := inB_true h4
  obtain ⟨x, hx⟩ := some_get (l := l) (k := a.toNat) (by omega)
  obtain ⟨y, hy⟩ := some_get (l := l) (k := b.toNat) (by omega)
  exact ⟨a.toNat, b.toNat, x, y, by omega, by omega, hx, hy⟩
theorem sumH_bd {l : List Du} (hg : goodDu l = true) : ∀ k, 0 ≤ sumH l k ∧ sumH l k ≤ 144 * k
  | 0 => by simp [sumH]
  | k + 1 => by
    have ih := sumH_bd hg k
    have h := hoursL_bd (who := (k : Int) + 1) hg l.length (Nat.le_refl _)
    rw [List.take_length] at h
    have := goodDu_len hg
    simp only [sumH]
    omega
theorem best_max (l : List Du) : ∀ (ys : List Int) (x : Int), bestI (gtMax l) x ys ∈ x :: ys ∧ ∀ y ∈ x :: ys, hoursL y l ≤ hoursL (bestI (gtMax l) x ys) l
  | [], x => by simp [bestI]
  | y :: ys, x => by
    obtain ⟨h1, h2⟩ := best_max l ys (if gtMax l y x then y else x)
    simp only [bestI]
    have h0 := h2 _ (List.mem_cons_self)
    refine ⟨?_, fun z hz => ?_⟩
    · rcases List.mem_cons.1 h1 with h | h
      · rw [h]; split <;> simp
      · simp [h]
    · by_cases hc : gtMax l y x = true
      · rw [if_pos hc] at h0 h2 ⊢
        have hlt : hoursL x l < hoursL y l := by simpa [gtMax] using hc
        rcases List.mem_cons.1 hz with rfl | hz
        · omega
        · exact h2 z hz
      · rw [if_neg hc] at h0 h2 ⊢
        have hlt : ¬ hoursL x l < hoursL y l := by simpa [gtMax] using hc
        rcases List.mem_cons.1 hz with rfl | hz
        · exact h0
        · rcases List.mem_cons.1 hz with rfl | hz
          · omega
          · exact h2 z (List.mem_cons_of_mem _ hz)
theorem best_min (l : List Du) : ∀ (ys : List Int) (x : Int), bestI (gtMin l) x ys ∈ x :: ys ∧ ∀ y ∈ x :: ys, hoursL (bestI (gtMin l) x ys) l ≤ hoursL y l
  | [], x => by simp [bestI]
  | y :: ys, x => by
    obtain ⟨h1, h2⟩ := best_min l ys (if gtMin l y x then y else x)
    simp only [bestI]
    have h0 := h2 _ (List.mem_cons_self)
    refine ⟨?_, fun z hz => ?_⟩
    · rcases List.mem_cons.1 h1 with h | h
      · rw [h]; split <;> simp
      · simp [h]
    · by_cases hc : gtMin l y x = true
      · rw [if_pos hc] at h0 h2 ⊢
        have hlt : hoursL y l < hoursL x l := by simpa [gtMin] using hc
        rcases List.mem_cons.1 hz with rfl | hz
        · omega
        · exact h2 z hz
      · rw [if_neg hc] at h0 h2 ⊢
        have hlt : ¬ hoursL y l < hoursL x l := by simpa [gtMin] using hc
        rcases List.mem_cons.1 hz with rfl | hz
        · exact h0
        · rcases List.mem_cons.1 hz with rfl | hz
          · omega
          · exact h2 z (List.mem_cons_of_mem _ hz)
theorem hoursOfL_good {l : List Du} (hg : goodDu l = true) {who : Int} (h1 : 1 ≤ who) (h2 : who ≤ 50) : hoursOfL who l = (hoursL who l, true) := by
  unfold hoursOfL
  rw [hg]
  have : inB who 1 50 = true := by simp [inB, h1, h2]
  rw [this]
  rfl
/-- What the law asks of the fair share. -/
theorem fair_all {l : List Du} (h : (fairL l).2.2 = true) : goodDu l = true ∧ (1 ≤ (fairL l).1 ∧ (fairL l).1 ≤ 50) ∧ (1 ≤ (fairL l).2.1 ∧ (fairL l).2.1 ≤ 50) ∧ ∀ m ∈ l, (1 ≤ m.who ∧ m.who ≤ 50) ∧ hoursL m.who l ≤ hoursL (fairL l).1 l ∧ hoursL (fairL l).2.1 l ≤ hoursL m.who l := by
  have hg : goodDu l = true := by
    unfold fairL at h
    split at h
    · assumption
    · cases h
  have hn : l ≠ [] := by
    rintro rfl
    simp [fairL, hg] at h
  obtain ⟨x, ys, hw⟩ := whoL_ne hn
  rw [fairL_some hg hw]
  obtain ⟨a1, a2⟩ := best_max l ys x
  obtain ⟨b1, b2⟩ := best_min l ys x
  rw [← hw] at a1 a2 b1 b2
  have hbd : ∀ y ∈ whoL l, 1 ≤ y ∧ y ≤ 50 := fun y hy => by
    rw [whoL_wl (goodDu_all hg)] at hy
    have := (wl_mem 50).1 hy
    omega
  refine ⟨hg, hbd _ a1, hbd _ b1, fun m hm => ?_⟩
  have hmem : m.who ∈ whoL l := putAll_mem.2 (List.mem_map.2 ⟨m, hm, rfl⟩)
  exact ⟨hbd _ hmem, a2 _ hmem, b2 _ hmem⟩
end Go.Proofs.Ytldhlmjfpnpamaa
