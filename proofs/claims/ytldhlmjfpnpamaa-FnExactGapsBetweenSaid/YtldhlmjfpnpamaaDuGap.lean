/-
  The runs of hours that nobody has, in plain words: as impl lays them (the last one is made longer) and as spec lays them (each one is laid when it ends).
-/
import Derived.Test.YtldhlmjfpnpamaaDuOn
import Derived.Test.YtldhlmjfpnpamaaDuGood
namespace Go.Proofs.Ytldhlmjfpnpamaa
open Go.RowKit

def covB (l : List Du) (h : Int) : Bool := decide (0 < (onL h l).length)
def gStep (D : List (Int × Int)) (h : Int) (cov : Bool) : List (Int × Int) :=
  if cov then D else match D.getLast? with
    | some p => if p.2 = h then D.dropLast ++ [(p.1, h + 1)] else D ++ [(h, h + 1)]
    | none => [(h, h + 1)]
theorem gStep_cov (D : List (Int × Int)) (h : Int) : gStep D h true = D := rfl
theorem gStep_nil (h : Int) : gStep [] h false = [(h, h + 1)] := rfl
theorem gStep_ext {E : List (Int × Int)} {p : Int × Int} {h : Int} (e : p.2 = h) : gStep (E ++ [p]) h false = E ++ [(p.1, h + 1)] := by simp [gStep, e]
theorem gStep_new {E : List (Int × Int)} {p : Int × Int} {h : Int} (e : p.2 ≠ h) : gStep (E ++ [p]) h false = E ++ [p] ++ [(h, h + 1)] := by simp [gStep, e]
theorem gStep_len (D : List (Int × Int)) (h : Int) (c : Bool) : (gStep D h c).length ≤ D.length + 1 := by
  cases c
  · rcases List.eq_nil_or_concat D with rfl | ⟨E, p, rfl⟩
    · simp [gStep_nil]
    · rw [List.concat_eq_append]
      by_cases e : p.2 = h
      · rw [gStep_ext e]; simp
      · rw [gStep_new e]; simp
  · rw [gStep_cov]; omega
def gK (l : List Du) (f : Int) : Nat → List (Int × Int)
  | 0 => []
  | k + 1 => gStep (gK l f k) (f + k) (covB l (f + k))
theorem gK_len (l : List Du) (f : Int) : ∀ k, (gK l f k).length ≤ k
  | 0 => by simp [gK]
  | k + 1 => by
    have h1 := gK_len l f k
    have h2 := gStep_len (gK l f k) (f + k) (covB l (f + k))
    simp only [gK]
    omega
def gRow (p : Int × Int) : List Int := [p.1, p.2]
def gapOK (l : List Du) (f t : Int) : Bool := goodDu l && (decide (0 ≤ f) && decide (f < t) && decide (t ≤ 9999))
def gapL (l : List Du) (f t : Int) : List (List Int) := if gapOK l f t then (gK l f (t - f).toNat).map gRow else []
theorem gapL_le (l : List Du) (f t : Int) : (gapL l f t).length ≤ 9999 := by
  unfold gapL
  split
  · rename_i h
    unfold gapOK at h
    simp only [Bool.and_eq_true, decide_eq_true_eq] at h
    have := gK_len l f (t - f).toNat
    rw [List.length_map]
    omega
  · simp
theorem gapL_sum (l : List Du) (f t : Int) : ((gapL l f t).map List.length).sum ≤ 20000 := by
  have h1 := gapL_le l f t
  have h2 : ((gapL l f t).map List.length).sum ≤ 2 * (gapL l f t).length := by
    unfold gapL
    split
    · generalize gK l f (t - f).toNat = D
      induction D with
      | nil => simp
      | cons p D ih => simp [gRow] at ih ⊢; omega
    · simp
  omega
/-- What spec keeps: either no run is open, or one is. -/
def SInv (l : List Du) (f : Int) (k : Nat) (D : List (Int × Int)) (first : Int) : Prop :=
  (first = -1 ∧ gK l f k = D ∧ ∀ E p, D = E ++ [p] → p.2 < f + k) ∨ (f ≤ first ∧ first < f + k ∧ gK l f k = D ++ [(first, f + k)])
theorem SInv.start (l : List Du) (f : Int) : SInv l f 0 [] (-1) := .inl ⟨rfl, rfl, fun E p e => by simp at e⟩
theorem SInv.skip {l : List Du} {f : Int} {k : Nat} {D : List (Int × Int)} (h : SInv l f k D (-1)) (hf : 0 ≤ f) (hc : covB l (f + k) = true) : SInv l f (k + 1) D (-1) := by
  rcases h with ⟨_, h1, h2⟩ | ⟨h1, _, _⟩
  · refine .inl ⟨rfl, by simp only [gK, hc, gStep_cov, h1], fun E p e => ?_⟩
    have := h2 E p e
    omega
  · omega
theorem SInv.opens {l : List Du} {f : Int} {k : Nat} {D : List (Int × Int)} (h : SInv l f k D (-1)) (hf : 0 ≤ f) (hc : covB l (f + k) = false) : SInv l f (k + 1) D (f + k) := by
  rcases h with ⟨_, h1, h2⟩ | ⟨h1, _, _⟩
  · refine .inr ⟨by omega, by omega, ?_⟩
    simp only [gK, hc, h1]
    rcases List.eq_nil_or_concat D with rfl | ⟨E, p, rfl⟩
    · rw [gStep_nil]
      simp
      omega
    · rw [List.concat_eq_append] at h2 ⊢
      have := h2 E p rfl
      rw [gStep_new (by omega)]
      simp
      omega
  · omega
theorem SInv.goes {l : List Du} {f : Int} {k : Nat} {D : List (Int × Int)} {x : Int} (h : SInv l f k D x) (hx : 0 ≤ x) (hc : covB l (f + k) = false) : SInv l f (k + 1) D x := by
  rcases h with ⟨h0, _, _⟩ | ⟨h1, h2, h3⟩
  · omega
  · refine .inr ⟨h1, by omega, ?_⟩
    simp only [gK, hc, h3]
    rw [gStep_ext rfl]
    simp
    omega
theorem SInv.ends {l : List Du} {f : Int} {k : Nat} {D : List (Int × Int)} {x : Int} (h : SInv l f k D x) (hx : 0 ≤ x) (hc : covB l (f + k) = true) : SInv l f (k + 1) (D ++ [(x, f + k)]) (-1) := by
  rcases h with ⟨h0, _, _⟩ | ⟨h1, h2, h3⟩
  · omega
  · refine .inl ⟨rfl, by simp only [gK, hc, gStep_cov, h3], fun E p e => ?_⟩
    have := (List.append_inj' e rfl).2
    simp at this
    rw [← this]
    simp only
    omega
theorem SInv.last {l : List Du} {f : Int} {k : Nat} {D : List (Int × Int)} {x : Int} (h : SInv l f k D x) (hx : 0 ≤ x) : gK l f k = D ++ [(x, f + k)] := by
  rcases h with ⟨h0, _, _⟩ | ⟨h1, h2, h3⟩
  · omega
  · exact h3
theorem SInv.none_ {l : List Du} {f : Int} {k : Nat} {D : List (Int × Int)} (h : SInv l f k D (-1)) (hf : 0 ≤ f) : gK l f k = D := by
  rcases h with ⟨_, h1, _⟩ | ⟨h1, _, _⟩
  · exact h1
  · omega
/-- What spec's inner loop finds. -/
theorem covB_iff {l : List Du} {h : Int} : covB l h = l.any (hasH h) := by
  unfold covB onL
  rw [Bool.eq_iff_iff, decide_eq_true_iff, List.any_eq_true]
  constructor
  · intro h0
    obtain ⟨x, hx⟩ := List.exists_mem_of_length_pos h0
    obtain ⟨h1, h2⟩ := List.mem_filter.1 hx
    exact ⟨x, h1, h2⟩
  · rintro ⟨x, h1, h2⟩
    exact List.length_pos_of_mem (List.mem_filter.2 ⟨h1, h2⟩)
end Go.Proofs.Ytldhlmjfpnpamaa
