/-
  Catalogues: what the laws ask of the longest pairing. Plain words; no program is named.
-/
import Derived.Test.YtlinjkfbcekepaaQuLngL
import Derived.Test.YtlinjkfbcekepaaQuPair
import Derived.Test.YtlinjkfbcekepaaQuMat
namespace Go.Proofs.Ytlinjkfbcekepaa
set_option linter.unusedVariables false
set_option linter.unusedSimpArgs false
set_option linter.unnecessarySimpa false
open Go.RowKit

theorem matchB_symm (t f : Int) (p q : Qu) : matchB t f p q = matchB t f q p := by
  have h1 : absI (p.tk - q.tk) = absI (q.tk - p.tk) := by unfold absI; split <;> split <;> omega
  have sq : ∀ x y : Int, (x - y) * (x - y) = (y - x) * (y - x) := fun x y => by rw [← Int.neg_sub y x, Int.neg_mul_neg]
  unfold matchB
  rw [h1, sq p.x, sq p.y]
theorem pB_symm (a b : List Qu) (t f : Int) (i k : Nat) : pB b a t f k i = pB a b t f i k := by
  unfold pB
  cases a[i]? <;> cases b[k]? <;> simp [matchB_symm]
theorem bothB_symm (a b : List Qu) (t f : Int) : bothB b a t f = bothB a b t f := by
  unfold bothB
  cases goodQu a <;> cases goodQu b <;> rfl
theorem doB_symm (a d : Qu) (t f : Int) : doB d a t f = doB a d t f := by
  unfold doB
  rw [matchB_symm t f d a]
  cases oneQu a <;> cases oneQu d <;> rfl
section
variable (P : Nat → Nat → Bool) (n m : Nat)
theorem lpR_symm : ∀ p q, lpR P n m p q = lpR (fun i k => P k i) m n q p
  | 0, q => by rw [lpR_nil, lpR_zero]
  | p + 1, 0 => by rw [lpR_zero, lpR_nil]
  | p + 1, q + 1 => by
    have h1 := lpR_symm p (q + 1)
    have h2 := lpR_symm (p + 1) q
    have h3 := lpR_symm p q
    have e1 : lpR P n m (p + 1) (q + 1) = max (max (lpR P n m p (q + 1)) (lpR P n m (p + 1) q)) (if P (n - (p + 1)) (m - (q + 1)) then 1 + lpR P n m p q else 0) := by rw [lpR]
    have e2 : lpR (fun i k => P k i) m n (q + 1) (p + 1) = max (max (lpR (fun i k => P k i) m n q (p + 1)) (lpR (fun i k => P k i) m n (q + 1) p)) (if P (n - (p + 1)) (m - (q + 1)) then 1 + lpR (fun i k => P k i) m n q p else 0) := by rw [lpR]
    rw [e1, e2, h1, h2, h3]
    split <;> omega
termination_by p q => (p, q)
theorem lpGo_all : ∀ p q, p ≤ n → ((lpGo P n m p q).length : Int) = lpL P n m (n - p) q ∧ (∀ x ∈ lpGo P n m p q, n - p ≤ x.1 ∧ x.1 < n ∧ q ≤ x.2 ∧ x.2 < m ∧ P x.1 x.2 = true) ∧ (lpGo P n m p q).Pairwise fun x y => x.1 < y.1 ∧ x.2 < y.2
  | 0, q, _ => by
    rw [lpL_row P n m (by omega)]
    simp [lpGo]
  | p + 1, q, hp => by
    have hi : n - (p + 1) < n := by omega
    have hs : n - (p + 1) + 1 = n - p := by omega
    rw [lpGo]
    split
    · rename_i k hf
      unfold lpFnd at hf
      have hkm : k < m := List.mem_range.1 (List.mem_of_find?_eq_some hf)
      have hkq := List.find?_some hf
      simp only [Bool.and_eq_true, decide_eq_true_eq] at hkq
      obtain ⟨hm, hn⟩ := lpHit_next P n m hkq.2
      rw [hs] at hn
      obtain ⟨i1, i2, i3⟩ := lpGo_all p (k + 1) (by omega)
      refine ⟨?_, fun x hx => ?_, ?_⟩
      · rw [List.length_cons]
        omega
      · rcases List.mem_cons.1 hx with rfl | h
        · exact ⟨Nat.le_refl _, hi, hkq.1, hkm, hm⟩
        · have := i2 x h
          exact ⟨by omega, this.2.1, by omega, this.2.2.2.1, this.2.2.2.2⟩
      · rw [List.pairwise_cons]
        refine ⟨fun y hy => ?_, i3⟩
        have := i2 y hy
        simp only
        omega
    · rename_i hf
      have hn : ∀ k', q ≤ k' → k' < m → lpHit P n m (n - (p + 1)) k' (lpL P n m (n - (p + 1)) q) = false := fun k' h1 h2 => by
        unfold lpFnd at hf
        rw [List.find?_eq_none] at hf
        have := hf k' (List.mem_range.2 h2)
        simpa [h1] using this
      have e := lp_none P n m hi (m - q) q (Nat.le_refl _) hn
      rw [hs] at e
      obtain ⟨i1, i2, i3⟩ := lpGo_all p q (by omega)
      refine ⟨by rw [i1, e], fun x hx => ?_, i3⟩
      have := i2 x hx
      exact ⟨by omega, this.2⟩
theorem lpL_mono {i i' k k' : Nat} (hi : i ≤ i') (hk : k ≤ k') : lpL P n m i' k' ≤ lpL P n m i k := by
  have h1 : ∀ d, lpL P n m (i + d) k' ≤ lpL P n m i k' := fun d => by
    induction d with
    | zero => exact Int.le_refl _
    | succ d ih => exact Int.le_trans (lpL_down P n m (i + d) k') ih
  have h2 : ∀ d, lpL P n m i (k + d) ≤ lpL P n m i k := fun d => by
    induction d with
    | zero => exact Int.le_refl _
    | succ d ih => exact Int.le_trans (lpL_right P n m i (k + d)) ih
  have a := h1 (i' - i)
  have b := h2 (k' - k)
  rw [show i + (i' - i) = i' by omega] at a
  rw [show k + (k' - k) = k' by omega] at b
  omega
theorem lpL_hit {i k : Nat} (hi : i < n) (hk : k < m) (h : P i k = true) : 1 + lpL P n m (i + 1) (k + 1) ≤ lpL P n m i k := by
  rw [lpL_in P n m hi hk, h]
  simp only [if_true]
  omega
end
/-- The longest pairing's length. -/
theorem lpP_length (a b : List Qu) (t f : Int) : ((lpP a b t f 0 0).length : Int) = lpL (pB a b t f) a.length b.length 0 0 := by
  have h := (lpGo_all (pB a b t f) a.length b.length a.length 0 (Nat.le_refl _)).1
  rw [Nat.sub_self] at h
  unfold lpP lpG
  rw [List.length_map]
  exact h
theorem lng_back (a b : List Qu) (t f : Int) : (lngL b a t f).length = (lngL a b t f).length := by
  unfold lngL
  rw [bothB_symm a b]
  split
  · have h1 := lpP_length a b t f
    have h2 := lpP_length b a t f
    have e : pB b a t f = fun i k => pB a b t f k i := by
      funext i k
      exact pB_symm a b t f k i
    unfold lpL at h1 h2
    rw [e] at h2
    have h3 := lpR_symm (pB a b t f) a.length b.length (a.length - 0) (b.length - 0)
    omega
  · rfl
theorem pB_true {a b : List Qu} {t f : Int} {i k : Nat} (h : pB a b t f i k = true) : ∃ q r : Qu, a[i]? = some q ∧ b[k]? = some r ∧ matchB t f q r = true := by
  unfold pB at h
  split at h
  · rename_i x y hx hy
    exact ⟨x, y, hx, hy, h⟩
  · cases h
theorem inP_of {a b : List Qu} {i k : Nat} (hi : i < a.length) (hk : k < b.length) : inP a b ⟨(i : Int), (k : Int)⟩ = true := by
  unfold inP
  simp only [Bool.and_eq_true]
  exact ⟨by simp [inB]; omega, by simp [inB]; omega⟩
theorem lp_pairing (a b : List Qu) (t f : Int) : pairB a b t f (lpP a b t f 0 0) = true := by
  obtain ⟨_, h2, h3⟩ := lpGo_all (pB a b t f) a.length b.length a.length 0 (Nat.le_refl _)
  refine pairB_yes fun j hj => ?_
  unfold lpP lpG at hj ⊢
  rw [Nat.sub_zero] at hj ⊢
  generalize lpGo (pB a b t f) a.length b.length a.length 0 = L at h2 h3 hj ⊢
  rw [List.length_map] at hj
  obtain ⟨x, hx⟩ := some_get hj
  obtain ⟨_, x1, _, x2, x3⟩ := h2 x (List.mem_of_getElem? hx)
  obtain ⟨q, r, hq, hr, hm⟩ := pB_true x3
  have hp : (L.map pr2)[j]? = some (pr2 x) := by rw [List.getElem?_map, hx]; rfl
  have e1 : inP a b (pr2 x) = true := inP_of x1 x2
  have e2 : prM a b t f (pr2 x) = true := by
    unfold prM pr2
    simp only [Int.toNat_natCast, hq, hr, hm]
  cases j with
  | zero => exact okP_0 hp e1 e2
  | succ j =>
    obtain ⟨y, hy⟩ := some_get (l := L) (k := j) (by omega)
    rw [okP_s hp (q := pr2 y) (by rw [List.getElem?_map, hy]; rfl) e1 e2]
    obtain ⟨l1, r1⟩ := List.getElem?_eq_some_iff.1 hx
    obtain ⟨l2, r2⟩ := List.getElem?_eq_some_iff.1 hy
    have := List.pairwise_iff_getElem.1 h3 j (j + 1) l2 l1 (by omega)
    rw [r1, r2] at this
    unfold upP pr2
    simp only [Bool.and_eq_true, decide_eq_true_eq]
    omega
theorem pairB_ok {a b : List Qu} {t f : Int} {l : List P2} (h : pairB a b t f l = true) {k : Nat} (hk : k < l.length) : okP a b t f l k = true := by
  unfold pairB at h
  rw [List.all_eq_true] at h
  exact h k (List.mem_range.2 hk)
theorem pair_rest {a b : List Qu} {t f : Int} {l : List P2} (h : pairB a b t f l = true) : ∀ d j, l.length - j = d + 1 → ∀ p, l[j]? = some p → ∃ i k : Nat, p.a = (i : Int) ∧ p.b = (k : Int) ∧ ((d : Int) + 1) ≤ lpL (pB a b t f) a.length b.length i k
  | d, j, hd, p, hp => by
    have hok := pairB_ok h (k := j) (by omega)
    unfold okP at hok
    rw [hp] at hok
    simp only [Bool.and_eq_true] at hok
    obtain ⟨i, k, q, r, e1, e2, l1, l2, hq, hr, hm⟩ := inP_get hok.1.1
    have hpm := hok.1.2
    rw [hm t f] at hpm
    have hit := lpL_hit (pB a b t f) a.length b.length l1 l2 (by rw [pB_at hq hr]; exact hpm)
    have hnn := (lpL_nn (pB a b t f) a.length b.length (i + 1) (k + 1)).1
    refine ⟨i, k, e1, e2, ?_⟩
    cases d with
    | zero => omega
    | succ d =>
      obtain ⟨p', hp'⟩ := some_get (l := l) (k := j + 1) (by omega)
      obtain ⟨i', k', f1, f2, ih⟩ := pair_rest h d (j + 1) (by omega) p' hp'
      have hok' := pairB_ok h (k := j + 1) (by omega)
      unfold okP at hok'
      rw [hp'] at hok'
      simp only [Bool.and_eq_true, Nat.add_sub_cancel, hp] at hok'
      have hup : upP p p' = true := by
        have := hok'.2
        simpa using this
      unfold upP at hup
      simp only [Bool.and_eq_true, decide_eq_true_eq] at hup
      have := lpL_mono (pB a b t f) a.length b.length (i := i + 1) (i' := i') (k := k + 1) (k' := k') (by omega) (by omega)
      omega
/-- No pairing is longer. -/
theorem pair_best {a b : List Qu} {t f : Int} {l : List P2} (h : pairB a b t f l = true) : l.length ≤ (lpP a b t f 0 0).length := by
  cases hl : l.length with
  | zero => exact Nat.zero_le _
  | succ d =>
    obtain ⟨p, hp⟩ := some_get (l := l) (k := 0) (by omega)
    obtain ⟨i, k, _, _, h1⟩ := pair_rest h d 0 (by omega) p hp
    have h2 := lpP_length a b t f
    have h3 := lpL_mono (pB a b t f) a.length b.length (Nat.zero_le i) (Nat.zero_le k)
    omega
def rowN (a b : List Qu) (t f : Int) (k : Nat) : Nat := (match a[k]? with | none => [] | some q => matR b t f k q b.length).length
theorem matAt_succ_len (a b : List Qu) (t f : Int) (k : Nat) : (matAt a b t f (k + 1)).length = (matAt a b t f k).length + rowN a b t f k := by
  simp only [matAt, List.length_append, rowN]
  rfl
theorem rowN_hit {a b : List Qu} {t f : Int} {i k : Nat} (h : pB a b t f i k = true) : 1 ≤ rowN a b t f i := by
  obtain ⟨q, r, hq, hr, hm⟩ := pB_true h
  have hk := (List.getElem?_eq_some_iff.1 hr).1
  have hmem : (⟨(i : Int), (k : Int)⟩ : P2) ∈ matR b t f i q b.length := by
    unfold matR
    exact List.mem_map.2 ⟨k, List.mem_filter.2 ⟨List.mem_range.2 hk, by rw [hr]; exact hm⟩, rfl⟩
  unfold rowN
  rw [hq]
  simp only
  exact List.length_pos_of_mem hmem
theorem mat_more (a b : List Qu) (t f : Int) : ∀ p q, p ≤ a.length → (matAt a b t f (a.length - p)).length + (lpGo (pB a b t f) a.length b.length p q).length ≤ (matAt a b t f a.length).length
  | 0, q, _ => by simp [lpGo]
  | p + 1, q, hp => by
    have es := matAt_succ_len a b t f (a.length - (p + 1))
    rw [show a.length - (p + 1) + 1 = a.length - p by omega] at es
    have hall := (lpGo_all (pB a b t f) a.length b.length (p + 1) q hp).2.1
    rw [lpGo] at hall ⊢
    split
    · rename_i k hk
      rw [hk] at hall
      have h1 := hall (a.length - (p + 1), k) (by simp)
      have : 1 ≤ rowN a b t f (a.length - (p + 1)) := rowN_hit h1.2.2.2.2
      have ih := mat_more a b t f p (k + 1) (by omega)
      rw [List.length_cons]
      omega
    · have ih := mat_more a b t f p q (by omega)
      omega
theorem mat_pos {a b : List Qu} {t f : Int} : ∀ k, k ≤ a.length → 0 < (matAt a b t f k).length → 0 < lpL (pB a b t f) a.length b.length 0 0
  | 0, _, h => by simp [matAt] at h
  | k + 1, hk, h => by
    rw [matAt_succ_len] at h
    by_cases h0 : 0 < (matAt a b t f k).length
    · exact mat_pos k (by omega) h0
    · have h1 : 0 < rowN a b t f k := by omega
      obtain ⟨q, hq⟩ := some_get (show k < a.length by omega)
      unfold rowN at h1
      rw [hq] at h1
      simp only at h1
      obtain ⟨x, hx⟩ := List.exists_mem_of_length_pos h1
      unfold matR at hx
      obtain ⟨j, hj, _⟩ := List.mem_map.1 hx
      obtain ⟨hj1, hj2⟩ := List.mem_filter.1 hj
      split at hj2
      · cases hj2
      · rename_i r hr
        have hm : pB a b t f k j = true := by rw [pB_at hq hr]; exact hj2
        have a1 := lpL_hit (pB a b t f) a.length b.length (by omega) (List.mem_range.1 hj1) hm
        have a2 := (lpL_nn (pB a b t f) a.length b.length (k + 1) (j + 1)).1
        have a3 := lpL_mono (pB a b t f) a.length b.length (Nat.zero_le k) (Nat.zero_le j)
        omega
/-- What the law asks of the longest pairing. -/
theorem lng_all {a b : List Qu} {t f : Int} (h : bothB a b t f = true) : pairR a b t f (lngL a b t f) = (true, true) ∧ (lngL a b t f).length ≤ (matL a b t f).length ∧ (0 < (matL a b t f).length ↔ 0 < (lngL a b t f).length) := by
  have e1 : lngL a b t f = lpP a b t f 0 0 := by unfold lngL; rw [if_pos h]
  have e2 : matL a b t f = matAt a b t f a.length := by unfold matL; rw [if_pos h]
  have hm : (lpP a b t f 0 0).length ≤ (matAt a b t f a.length).length := by
    have := mat_more a b t f a.length 0 (Nat.le_refl _)
    unfold lpP lpG
    rw [List.length_map, Nat.sub_zero]
    omega
  have hl := lpP_length a b t f
  rw [e1, e2]
  refine ⟨by unfold pairR; rw [if_pos h, lp_pairing], hm, ⟨fun hp => ?_, fun hp => by omega⟩⟩
  have := mat_pos a.length (Nat.le_refl _) hp
  omega
theorem lng_best {a b : List Qu} {t f : Int} {l : List P2} (h : pairR a b t f l = (true, true)) : bothB a b t f = true ∧ l.length ≤ (lngL a b t f).length := by
  unfold pairR at h
  split at h
  · rename_i hb
    refine ⟨hb, ?_⟩
    unfold lngL
    rw [if_pos hb]
    exact pair_best (by simpa using h)
  · cases h
theorem pairR_yes {a b : List Qu} {t f : Int} {l : List P2} (h : (pairR a b t f l).1 = true) : pairR a b t f l = (true, true) := by
  unfold pairR at h ⊢
  split at h
  · rename_i hb
    rw [if_pos hb] 
    simp only at h
    rw [h]
  · cases h
end Go.Proofs.Ytlinjkfbcekepaa
