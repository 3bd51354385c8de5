/-
  Plain facts on motions: flipped and turned ones are explained by the other polarity; the best plane misses the fewest; more misses, more planes.
-/
import Derived.Test.YtefofllkeghfnaaMoWith
import Derived.Test.YtefofllkeghfnaaMoMap
import Derived.Test.YtefofllkeghfnaaMoBest2
namespace Go.Proofs.Ytefofllkeghfnaa
open Go.RowKit

theorem listed_map {α : Type} (one : α → Bool) (id : α → Int) (f : α → α) (most : Nat) (l : List α) (h1 : ∀ m, one (f m) = one m) (h2 : ∀ m, id (f m) = id m) : listed one id most (l.map f) = listed one id most l := by
  have h : okAt one id (l.map f) = okAt one id l := by
    funext k
    unfold okAt
    rw [List.getElem?_map, List.getElem?_map]
    cases l[k]? with
    | none => rfl
    | some m =>
      cases l[k - 1]? with
      | none => simp [h1]
      | some p => simp [h1, h2]
  unfold listed
  rw [h, List.length_map]
theorem oneMo_flip (m : Mo) : oneMo (flipMo m).st (flipMo m).x (flipMo m).y (flipMo m).sg = oneMo m.st m.x m.y m.sg := by
  have h : (-m.sg == 1 || -m.sg == -1) = (m.sg == 1 || m.sg == -1) := by
    rw [Bool.eq_iff_iff]
    simp
    omega
  unfold oneMo flipMo
  dsimp only
  rw [h]
theorem oneMo_turn (m : Mo) : oneMo (turnMo m).st (turnMo m).x (turnMo m).y (turnMo m).sg = oneMo m.st m.x m.y m.sg := by
  have h1 : inB (-m.y) (-999) 999 = inB m.y (-999) 999 := by
    rw [Bool.eq_iff_iff]
    simp [inB]
    omega
  have h2 : (-m.y != 0 || m.x != 0) = (m.x != 0 || m.y != 0) := by
    rw [Bool.or_comm, Bool.eq_iff_iff]
    simp
  unfold oneMo turnMo
  dsimp only
  rw [h1, h2, Bool.and_right_comm (inB m.st 1 99)]
theorem goodMo_flip (l : List Mo) : goodMo (l.map flipMo) = goodMo l := listed_map _ _ flipMo 12 l oneMo_flip (fun _ => rfl)
theorem goodMo_turn (l : List Mo) : goodMo (l.map turnMo) = goodMo l := listed_map _ _ turnMo 12 l oneMo_turn (fun _ => rfl)
theorem sgn_not (n : Int) : sgn (-n) = -sgn n := by
  unfold sgn
  split <;> split <;> (try split) <;> (try split) <;> omega
theorem quad_turn (x y p : Int) : quadMo (-y) x p = -quadMo x y p := by
  have h1 : leftMo (-y) x p = -otherMo x y p := by
    unfold leftMo otherMo
    rw [Int.mul_neg, Int.neg_mul]
    omega
  have h2 : otherMo (-y) x p = leftMo x y p := by
    unfold leftMo otherMo
    rw [Int.mul_neg, Int.neg_mul]
    omega
  unfold quadMo
  rw [h1, h2, sgn_not, Int.neg_neg, Int.neg_mul, Int.neg_neg, Int.mul_comm]
theorem miss_flip (p q : Int) (m : Mo) : missP p (-q) (flipMo m) = missP p q m := by
  unfold missP flipMo
  dsimp only
  rw [Int.mul_neg]
  generalize quadMo m.x m.y p * q = z
  generalize quadMo m.x m.y p = y
  rw [Bool.eq_iff_iff]
  simp
theorem miss_turn (p q : Int) (m : Mo) : missP p (-q) (turnMo m) = missP p q m := by
  unfold missP turnMo
  dsimp only
  rw [quad_turn, Int.mul_neg, Int.neg_mul, Int.neg_neg]
  generalize quadMo m.x m.y p * q = z
  generalize quadMo m.x m.y p = y
  rw [Bool.eq_iff_iff]
  simp
theorem filter_same {P Q : Mo → Bool} {f : Mo → Mo} (h : ∀ m, P (f m) = Q m) (l : List Mo) : ((l.map f).filter P).length = (l.filter Q).length := by
  rw [List.filter_map, List.length_map]
  congr 2
  funext m
  exact h m
theorem ask_neg {p q : Int} {l l' : List Mo} (h : goodMo l' = goodMo l) : askMo p (-q) l' = askMo p q l := by
  unfold askMo
  rw [h, Bool.eq_iff_iff]
  simp
  omega
theorem expl_flip (p q : Int) (l : List Mo) : explL p (-q) (l.map flipMo) = explL p q l := by
  unfold explL
  rw [ask_neg (goodMo_flip l), missL_len, missL_len, List.length_map, filter_same (miss_flip p q)]
theorem expl_turn (p q : Int) (l : List Mo) : explL p (-q) (l.map turnMo) = explL p q l := by
  unfold explL
  rw [ask_neg (goodMo_turn l), missL_len, missL_len, List.length_map, filter_same (miss_turn p q)]
theorem ask_good {p q : Int} {l : List Mo} (h : askMo p q l = true) : goodMo l = true ∧ (0 ≤ p ∧ p ≤ 15) ∧ (q = 1 ∨ q = -1) := by
  unfold askMo at h
  simp only [Bool.and_eq_true] at h
  exact ⟨h.1.1, inB_true h.1.2, pol_of h.2⟩
theorem expl_ask (p q : Int) (l : List Mo) : (explL p q l).2 = askMo p q l := by
  unfold explL; split <;> simp_all
theorem expl_not {p q : Int} {l : List Mo} (h : askMo p q l = true) : ((notL p q l).length : Int) + (explL p q l).1 = l.length := by
  have := missL_le p q l
  simp only [notL, explL, h, if_true]
  omega

def misN (l : List Mo) (p q : Int) : Int := ((l.filter (missP p q)).length : Int)
theorem misN_le (l : List Mo) (p q : Int) : 0 ≤ misN l p q ∧ misN l p q ≤ l.length := by
  have := List.length_filter_le (missP p q) l
  unfold misN; omega
theorem better_two (l : List Mo) (t : Int × Int × Int) (p q : Int) : (betterL l t p q = t ∧ t.2.2 ≤ misN l p q) ∨ (betterL l t p q = (p, q, misN l p q) ∧ misN l p q < t.2.2) := by
  unfold betterL misN
  split
  · exact .inr ⟨rfl, by assumption⟩
  · exact .inl ⟨rfl, by omega⟩
theorem best_inv (l : List Mo) : ∀ k : Nat, (∀ j : Nat, j < k → (bestK l k).2.2 ≤ misN l j 1 ∧ (bestK l k).2.2 ≤ misN l j (-1)) ∧ ((k = 0 ∧ (bestK l k).2.2 = l.length + 1) ∨ ((bestK l k).2.2 = misN l (bestK l k).1 (bestK l k).2.1 ∧ (0 ≤ (bestK l k).1 ∧ (bestK l k).1 < k) ∧ ((bestK l k).2.1 = 1 ∨ (bestK l k).2.1 = -1)))
  | 0 => ⟨fun j hj => absurd hj (by omega), .inl ⟨rfl, rfl⟩⟩
  | k + 1 => by
    obtain ⟨i1, i2⟩ := best_inv l k
    have e : bestK l (k + 1) = betterL l (betterL l (bestK l k) k 1) k (-1) := rfl
    rw [e]
    clear e
    generalize bestK l k = t at i1 i2 ⊢
    have n1 := misN_le l k 1
    have n2 := misN_le l k (-1)
    rcases better_two l t k 1 with ⟨e1, h1⟩ | ⟨e1, h1⟩ <;> rw [e1]
    · rcases better_two l t k (-1) with ⟨e2, h2⟩ | ⟨e2, h2⟩ <;> rw [e2]
      · refine ⟨fun j hj => ?_, .inr ?_⟩
        · by_cases hjk : j = k
          · subst hjk; exact ⟨h1, h2⟩
          · exact i1 j (by omega)
        · rcases i2 with ⟨_, i2⟩ | ⟨a, b, c⟩
          · exfalso; omega
          · exact ⟨a, ⟨b.1, by omega⟩, c⟩
      · refine ⟨fun j hj => ?_, .inr ⟨rfl, ⟨by simp, by dsimp only; omega⟩, .inr rfl⟩⟩
        dsimp only
        by_cases hjk : j = k
        · subst hjk; exact ⟨by omega, by omega⟩
        · have := i1 j (by omega); exact ⟨by omega, by omega⟩
    · rcases better_two l ((k : Int), 1, misN l k 1) k (-1) with ⟨e2, h2⟩ | ⟨e2, h2⟩ <;> rw [e2]
      · refine ⟨fun j hj => ?_, .inr ⟨rfl, ⟨by simp, by dsimp only; omega⟩, .inl rfl⟩⟩
        dsimp only at h2 ⊢
        by_cases hjk : j = k
        · subst hjk; exact ⟨by omega, by omega⟩
        · have := i1 j (by omega); exact ⟨by omega, by omega⟩
      · refine ⟨fun j hj => ?_, .inr ⟨rfl, ⟨by simp, by dsimp only; omega⟩, .inr rfl⟩⟩
        dsimp only at h2 ⊢
        by_cases hjk : j = k
        · subst hjk; exact ⟨by omega, by omega⟩
        · have := i1 j (by omega); exact ⟨by omega, by omega⟩
theorem expl_good {p q : Int} {l : List Mo} (hg : goodMo l = true) (hp : 0 ≤ p ∧ p ≤ 15) (hq : q = 1 ∨ q = -1) : explL p q l = ((l.length : Int) - misN l p q, true) := by
  have ha : askMo p q l = true := by
    unfold askMo
    simp [hg, inB, hp.1, hp.2]
    exact hq
  unfold explL misN
  rw [if_pos ha, missL_len]
theorem withP_mem {l : List Mo} {n : Int} {k : Nat} (hk : k < 16) (h : misN l k 1 ≤ n ∨ misN l k (-1) ≤ n) : (k : Int) ∈ withK l n 16 := by
  unfold withK
  refine List.mem_map.2 ⟨k, List.mem_filter.2 ⟨by simpa using hk, ?_⟩, rfl⟩
  unfold withP
  simpa [misN] using h
/-- What the law asks of the best plane. -/
theorem best_all {l : List Mo} {P Q : Int} (h : bestL l = (P, Q, true)) : ∃ F M : Int, fewL l = (F, true) ∧ explL P Q l = (M, true) ∧ M + F = l.length ∧ (∀ k : Nat, k < 16 → ∃ a b : Int, explL k 1 l = (a, true) ∧ explL k (-1) l = (b, true) ∧ a ≤ M ∧ b ≤ M) ∧ withOK l F = true ∧ P ∈ withL l F ∧ (0 ≤ F ∧ F ≤ 12) := by
  unfold bestL at h
  split at h
  · rename_i hc
    simp only [Prod.mk.injEq, and_true] at h
    obtain ⟨rfl, rfl⟩ := h
    simp only [Bool.and_eq_true, decide_eq_true_eq] at hc
    obtain ⟨hg, hne⟩ := hc
    obtain ⟨i1, i2⟩ := best_inv l 16
    rcases i2 with ⟨h0, _⟩ | ⟨a, b, c⟩
    · omega
    · have hlen := goodMo_len hg
      have hn := misN_le l (bestK l 16).1 (bestK l 16).2.1
      have hok : withOK l (bestK l 16).2.2 = true := by
        unfold withOK
        simp [hg, inB]
        omega
      refine ⟨(bestK l 16).2.2, _, by simp [fewL, hg], expl_good hg ⟨b.1, by omega⟩ c, by omega, fun k hk => ⟨_, _, expl_good hg ⟨by omega, by omega⟩ (.inl rfl), expl_good hg ⟨by omega, by omega⟩ (.inr rfl), ?_, ?_⟩, hok, ?_, by omega, by omega⟩
      · have := (i1 k hk).1; omega
      · have := (i1 k hk).2; omega
      · unfold withL
        rw [if_pos hok]
        obtain ⟨k, hk⟩ : ∃ k : Nat, (bestK l 16).1 = (k : Int) := ⟨(bestK l 16).1.toNat, by omega⟩
        rw [hk] at a b ⊢
        refine withP_mem (by omega) ?_
        rcases c with c | c <;> rw [c] at a
        · exact .inl (by omega)
        · exact .inr (by omega)
  · simp at h
theorem with_more {l : List Mo} {n : Int} (h : withOK l n = true) (hn : n < 12) : withOK l (n + 1) = true ∧ ∀ x ∈ withL l n, x ∈ withL l (n + 1) := by
  have h2 := h
  unfold withOK at h
  simp [inB] at h
  have h3 : withOK l (n + 1) = true := by
    unfold withOK
    simp [h.1, inB]
    omega
  refine ⟨h3, fun x hx => ?_⟩
  unfold withL at hx ⊢
  rw [if_pos h2] at hx
  rw [if_pos h3]
  unfold withK at hx ⊢
  obtain ⟨k, hk, rfl⟩ := List.mem_map.1 hx
  obtain ⟨hk1, hk2⟩ := List.mem_filter.1 hk
  refine List.mem_map.2 ⟨k, List.mem_filter.2 ⟨hk1, ?_⟩, rfl⟩
  unfold withP at hk2 ⊢
  simp at hk2 ⊢
  omega
theorem with_bd {l : List Mo} {n : Int} (h : withOK l n = true) : 0 ≤ n ∧ n ≤ 12 := by
  unfold withOK at h
  simp [inB] at h
  omega
end Go.Proofs.Ytefofllkeghfnaa
