/-
  Ascending lists of duties, plain words: two sorted arrangements of the same duties are good alike; no program is named.
-/
import Derived.Test.YtldhlmjfpnpamaaDuGood
namespace Go.Proofs.Ytldhlmjfpnpamaa
open Go.RowKit

theorem ltDu_iff {a b : Du} : ltDu a b = true ↔ (a.bg < b.bg ∨ a.bg = b.bg ∧ a.who < b.who) := by simp only [ltDu, decide_eq_true_eq]
def leDu (a b : Du) : Prop := ltDu b a = false
theorem leDu_iff {a b : Du} : leDu a b ↔ ¬ (b.bg < a.bg ∨ b.bg = a.bg ∧ b.who < a.who) := by
  unfold leDu
  rw [← ltDu_iff]; simp
def ascD (l : List Du) : Prop := l.Pairwise (fun x y => ltDu x y = true)
def sorD (l : List Du) : Prop := l.Pairwise leDu
def keyNe (a b : Du) : Prop := ¬ (a.bg = b.bg ∧ a.who = b.who)
theorem ascD_of {l : List Du} (hs : sorD l) (hk : l.Pairwise keyNe) : ascD l := by
  unfold ascD
  refine (hs.and hk).imp fun {a b} ⟨h1, h2⟩ => ?_
  rw [leDu_iff] at h1
  rw [ltDu_iff]
  unfold keyNe at h2
  omega
theorem ascD_key {l : List Du} (h : ascD l) : l.Pairwise keyNe := h.imp fun {a b} h1 => by
  rw [ltDu_iff] at h1
  unfold keyNe
  omega
theorem ascD_ext : ∀ {a b : List Du}, ascD a → ascD b → (∀ x, x ∈ a ↔ x ∈ b) → a = b
  | [], [], _, _, _ => rfl
  | [], y :: ys, _, _, h => by have := (h y).2 (List.mem_cons_self); simp at this
  | x :: xs, [], _, _, h => by have := (h x).1 (List.mem_cons_self); simp at this
  | x :: xs, y :: ys, ha, hb, h => by
    have ha' := List.pairwise_cons.1 ha
    have hb' := List.pairwise_cons.1 hb
    have e : x = y := by
      rcases List.mem_cons.1 ((h x).1 (List.mem_cons_self)) with e | e
      · exact e
      · rcases List.mem_cons.1 ((h y).2 (List.mem_cons_self)) with e' | e'
        · exact e'.symm
        · have h1 := hb'.1 x e
          have h2 := ha'.1 y e'
          rw [ltDu_iff] at h1 h2
          omega
    subst e
    rw [ascD_ext ha'.2 hb'.2 fun z => ?_]
    constructor
    · intro hz
      have h1 := ha'.1 z hz
      rcases List.mem_cons.1 ((h z).1 (List.mem_cons_of_mem _ hz)) with e | e
      · rw [e, ltDu_iff] at h1; omega
      · exact e
    · intro hz
      have h1 := hb'.1 z hz
      rcases List.mem_cons.1 ((h z).2 (List.mem_cons_of_mem _ hz)) with e | e
      · rw [e, ltDu_iff] at h1; omega
      · exact e
theorem goodDu_lt {l : List Du} (h : goodDu l = true) {k : Nat} {d p : Du} (hd : l[k + 1]? = some d) (hp : l[k]? = some p) : ltDu p d = true := by
  have hk : k + 1 < l.length := (List.getElem?_eq_some_iff.1 hd).1
  cases hc : ltDu p d
  · have := allOK_get h hk
    rw [okDu_lt hd hp hc] at this
    cases this
  · rfl
theorem goodDu_ascD {l : List Du} (h : goodDu l = true) : ascD l := by
  unfold ascD
  rw [List.pairwise_iff_getElem]
  have key : ∀ (n i : Nat) (a b : Du), l[i]? = some a → l[i + n + 1]? = some b → ltDu a b = true := by
    intro n
    induction n with
    | zero => intro i a b ha hb; exact goodDu_lt h hb ha
    | succ n ih =>
      intro i a b ha hb
      have hl : i + (n + 1) + 1 < l.length := (List.getElem?_eq_some_iff.1 hb).1
      obtain ⟨m, hm⟩ := some_get (show i + n + 1 < l.length by omega)
      have h1 := ih i a m ha hm
      have h2 := goodDu_lt h (k := i + n + 1) (by rw [show i + n + 1 + 1 = i + (n + 1) + 1 by omega]; exact hb) hm
      rw [ltDu_iff] at *
      omega
  intro i j hi hj hij
  exact key (j - i - 1) i _ _ (List.getElem?_eq_getElem hi) (by rw [show i + (j - i - 1) + 1 = j by omega]; exact List.getElem?_eq_getElem hj)
theorem keyNe_symm {a b : Du} (h : keyNe a b) : keyNe b a := fun e => h ⟨e.1.symm, e.2.symm⟩
theorem perm_good {S P : List Du} (hp : S.Perm P) (hS : sorD S) (hP : sorD P) (hg : goodDu S = true) : S = P :=
  ascD_ext (goodDu_ascD hg) (ascD_of hP ((hp.pairwise_iff keyNe_symm).1 (ascD_key (goodDu_ascD hg)))) (fun _ => hp.mem_iff)
/-- Two sorted arrangements of the same duties. -/
theorem sorted_law {S P : List Du} (hp : S.Perm P) (hS : sorD S) (hP : sorD P) : goodDu S = goodDu P ∧ (goodDu P = true → S = P) := by
  cases h1 : goodDu P
  · cases h2 : goodDu S
    · exact ⟨rfl, fun h => by cases h⟩
    · rw [perm_good hp hS hP h2] at h2
      rw [h1] at h2; cases h2
  · have e := perm_good hp.symm hP hS h1
    subst e
    exact ⟨h1, fun _ => rfl⟩
def putD (x : Du) : List Du → List Du
  | [] => [x]
  | y :: ys => if ltDu y x = true then y :: putD x ys else x :: y :: ys
theorem putD_perm (x : Du) : ∀ l : List Du, (putD x l).Perm (x :: l)
  | [] => List.Perm.refl _
  | y :: ys => by
    unfold putD
    split
    · exact ((putD_perm x ys).cons y).trans (List.Perm.swap x y ys)
    · exact List.Perm.refl _
theorem putD_len (x : Du) (l : List Du) : (putD x l).length = l.length + 1 := by simpa using (putD_perm x l).length_eq
theorem putD_sor {x : Du} : ∀ {l : List Du}, sorD l → sorD (putD x l)
  | [], _ => by simp [putD, sorD]
  | y :: ys, h => by
    have h' := List.pairwise_cons.1 h
    unfold putD
    split
    · rename_i hy
      refine List.pairwise_cons.2 ⟨fun z hz => ?_, putD_sor h'.2⟩
      rcases List.mem_cons.1 ((putD_perm x ys).mem_iff.1 hz) with e | e
      · rw [e, leDu_iff]; rw [ltDu_iff] at hy; omega
      · exact h'.1 z e
    · rename_i hy
      have hxy : leDu x y := by unfold leDu; simpa using hy
      refine List.pairwise_cons.2 ⟨fun z hz => ?_, h⟩
      rcases List.mem_cons.1 hz with e | e
      · rw [e]; exact hxy
      · have h1 := h'.1 z e
        rw [leDu_iff] at *
        omega
theorem ascD_sor {l : List Du} (h : ascD l) : sorD l := h.imp fun {a b} h1 => by
  rw [leDu_iff]; rw [ltDu_iff] at h1; omega
theorem putD_take {x : Du} : ∀ (l : List Du) (k : Nat), k ≤ l.length → (∀ i, i < k → ∀ y, l[i]? = some y → ltDu y x = true) → putD x l = l.take k ++ putD x (l.drop k)
  | l, 0, _, _ => by simp
  | [], k + 1, h, _ => by simp at h
  | y :: ys, k + 1, h, hy => by
    have h0 := hy 0 (by omega) y rfl
    have ih := putD_take ys k (by simpa using h) (fun i hi z hz => hy (i + 1) (by omega) z (by simpa using hz))
    simp only [putD, h0, if_true, List.take_succ_cons, List.drop_succ_cons, List.cons_append]
    rw [← ih]
theorem putD_end {x : Du} {l : List Du} (h : ∀ i, i < l.length → ∀ y, l[i]? = some y → ltDu y x = true) : putD x l = l ++ [x] := by
  have := putD_take l l.length (Nat.le_refl _) h
  simpa [putD] using this
theorem putD_mid {x m : Du} {l : List Du} {k : Nat} (hm : l[k]? = some m) (h : ∀ i, i < k → ∀ y, l[i]? = some y → ltDu y x = true) (h1 : ltDu m x = false) : putD x l = l.take k ++ [x] ++ l.drop k := by
  have hk : k < l.length := (List.getElem?_eq_some_iff.1 hm).1
  rw [putD_take l k (by omega) h, drop_cons hm]
  simp [putD, h1]
end Go.Proofs.Ytldhlmjfpnpamaa
