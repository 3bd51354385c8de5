/-
  Ascending lists of quakes, plain words: putting one after the other is sorting; no program is named.
-/
import Derived.Test.YtlinjkfbcekepaaQuGood
namespace Go.Proofs.Ytlinjkfbcekepaa
set_option linter.unusedVariables false
set_option linter.unusedSimpArgs false
set_option linter.unnecessarySimpa false
open Go.RowKit

instance decQu : DecidableEq Qu := fun a b =>
  if h : a.tk = b.tk ∧ a.x = b.x ∧ a.y = b.y ∧ a.sz = b.sz then isTrue (by cases a; cases b; simp_all) else isFalse (fun e => h (by rw [e]; exact ⟨rfl, rfl, rfl, rfl⟩))
theorem ltQu_iff {a b : Qu} : ltQu a b = true ↔ (a.tk < b.tk ∨ a.tk = b.tk ∧ (a.x < b.x ∨ a.x = b.x ∧ (a.y < b.y ∨ a.y = b.y ∧ a.sz < b.sz))) := by simp only [ltQu, decide_eq_true_eq]
theorem ltQu_irr (a : Qu) : ltQu a a = false := by
  cases h : ltQu a a
  · rfl
  · rw [ltQu_iff] at h; omega
theorem ltQu_trans {a b c : Qu} (h1 : ltQu a b = true) (h2 : ltQu b c = true) : ltQu a c = true := by
  rw [ltQu_iff] at *; omega
theorem ltQu_asymm {a b : Qu} (h1 : ltQu a b = true) (h2 : ltQu b a = true) : False := by
  rw [ltQu_iff] at *; omega
theorem ltQu_total {a b : Qu} (h1 : ltQu a b = false) (h2 : ltQu b a = false) : a = b := by
  have n1 : ¬ ltQu a b = true := by simp [h1]
  have n2 : ¬ ltQu b a = true := by simp [h2]
  rw [ltQu_iff] at *
  have e : a.tk = b.tk ∧ a.x = b.x ∧ a.y = b.y ∧ a.sz = b.sz := by omega
  cases a; cases b; simp_all
theorem ltQu_neg_trans {a b c : Qu} (h1 : ltQu b a = false) (h2 : ltQu c b = false) : ltQu c a = false := by
  cases h : ltQu c a
  · rfl
  · have n1 : ¬ ltQu b a = true := by simp [h1]
    have n2 : ¬ ltQu c b = true := by simp [h2]
    rw [ltQu_iff] at *
    omega

def ascQ (l : List Qu) : Prop := l.Pairwise (fun x y => ltQu x y = true)
theorem ascQ_ext : ∀ {a b : List Qu}, ascQ a → ascQ b → (∀ x, x ∈ a ↔ x ∈ b) → a = b
  | [], [], _, _, _ => rfl
  | [], y :: ys, _, _, h => by have := (h y).2 (List.mem_cons_self); simp at this
  | x :: xs, [], _, _, h => by have := (h x).1 (List.mem_cons_self); simp at this
  | x :: xs, y :: ys, ha, hb, h => by
    have ha' := List.pairwise_cons.1 ha
    have hb' := List.pairwise_cons.1 hb
    have e : x = y := by
      rcases List.mem_cons.1 ((h x).1 (List.mem_cons_self)) with e | e
      · exact e
      · rcases List.mem_cons.1 ((h y).2 (List.mem_cons_self)) with e' | e'
        · exact e'.symm
        · exact absurd (hb'.1 x e) (fun h1 => ltQu_asymm h1 (ha'.1 y e'))
    subst e
    rw [ascQ_ext ha'.2 hb'.2 fun z => ?_]
    constructor
    · intro hz
      have h1 := ha'.1 z hz
      rcases List.mem_cons.1 ((h z).1 (List.mem_cons_of_mem _ hz)) with e | e
      · rw [e, ltQu_irr] at h1; cases h1
      · exact e
    · intro hz
      have h1 := hb'.1 z hz
      rcases List.mem_cons.1 ((h z).2 (List.mem_cons_of_mem _ hz)) with e | e
      · rw [e, ltQu_irr] at h1; cases h1
      · exact e
def putQ (x : Qu) : List Qu → List Qu
  | [] => [x]
  | y :: ys => if ltQu y x = true then y :: putQ x ys else if y = x then y :: ys else x :: y :: ys
theorem putQ_mem {x z : Qu} : ∀ {l : List Qu}, z ∈ putQ x l ↔ z = x ∨ z ∈ l
  | [] => by simp [putQ]
  | y :: ys => by
    have ih := putQ_mem (x := x) (z := z) (l := ys)
    unfold putQ
    split
    · simp only [List.mem_cons, ih]
      constructor <;> (intro h; rcases h with h | h | h <;> simp_all)
    · split
      · rename_i h
        subst h
        simp
      · simp
theorem putQ_asc {x : Qu} : ∀ {l : List Qu}, ascQ l → ascQ (putQ x l)
  | [], _ => by simp [putQ, ascQ]
  | y :: ys, h => by
    have h' := List.pairwise_cons.1 h
    unfold putQ
    split
    · rename_i hy
      exact List.pairwise_cons.2 ⟨fun z hz => by
        rcases putQ_mem.1 hz with e | e
        · rw [e]; exact hy
        · exact h'.1 z e, putQ_asc h'.2⟩
    · split
      · exact h
      · rename_i h1 h2
        have h3 : ltQu x y = true := by
          cases h4 : ltQu x y
          · exact absurd (ltQu_total (by simpa using h1) h4) h2
          · rfl
        refine List.pairwise_cons.2 ⟨fun z hz => ?_, h⟩
        rcases List.mem_cons.1 hz with e | e
        · rw [e]; exact h3
        · exact ltQu_trans h3 (h'.1 z e)
theorem putQ_len (x : Qu) : ∀ l : List Qu, (putQ x l).length ≤ l.length + 1 ∧ l.length ≤ (putQ x l).length
  | [] => by simp [putQ]
  | y :: ys => by
    have := putQ_len x ys
    unfold putQ
    split
    · simp; omega
    · split <;> simp
theorem putQ_old {x : Qu} : ∀ {l : List Qu}, ascQ l → x ∈ l → putQ x l = l
  | [], _, h => by simp at h
  | y :: ys, h, hx => by
    have h' := List.pairwise_cons.1 h
    unfold putQ
    rcases List.mem_cons.1 hx with e | e
    · subst e
      simp [ltQu_irr]
    · rw [if_pos (h'.1 x e), putQ_old h'.2 e]
theorem putQ_new {x : Qu} : ∀ {l : List Qu}, x ∉ l → (putQ x l).length = l.length + 1
  | [], _ => rfl
  | y :: ys, hx => by
    simp only [List.mem_cons, not_or] at hx
    unfold putQ
    split
    · simp [putQ_new hx.2]
    · rw [if_neg (fun e => hx.1 e.symm)]
      simp
theorem goodQu_ascQ {l : List Qu} (h : goodQu l = true) : ascQ l := by
  unfold ascQ
  rw [List.pairwise_iff_getElem]
  have key : ∀ (n i : Nat) (a b : Qu), l[i]? = some a → l[i + n + 1]? = some b → ltQu a b = true := by
    intro n
    induction n with
    | zero => intro i a b ha hb; exact goodQu_lt h hb ha
    | succ n ih =>
      intro i a b ha hb
      have hl : i + (n + 1) + 1 < l.length := (List.getElem?_eq_some_iff.1 hb).1
      obtain ⟨m, hm⟩ := some_get (show i + n + 1 < l.length by omega)
      exact ltQu_trans (ih i a m ha hm) (goodQu_lt h (k := i + n + 1) (by rw [show i + n + 1 + 1 = i + (n + 1) + 1 by omega]; exact hb) hm)
  intro i j hi hj hij
  exact key (j - i - 1) i _ _ (List.getElem?_eq_getElem hi) (by rw [show i + (j - i - 1) + 1 = j by omega]; exact List.getElem?_eq_getElem hj)
theorem goodQu_iff {l : List Qu} : goodQu l = true ↔ ascQ l ∧ (∀ m ∈ l, oneQu m = true) ∧ l.length ≤ 10 := by
  refine ⟨fun h => ⟨goodQu_ascQ h, goodQu_all h, goodQu_len h⟩, fun ⟨h1, h2, h3⟩ => ?_⟩
  rw [goodQu_yes (fun i hi => ?_)]
  · simp only [Bool.and_eq_true, List.all_eq_true, decide_eq_true_eq]
    exact ⟨h2, h3⟩
  · rcases i with _ | i
    · exact okQu_zero
    · obtain ⟨d, hd⟩ := some_get hi
      obtain ⟨p, hp⟩ := some_get (show i < l.length by omega)
      show okQu l (i + 1) = true
      rw [okQu_succ hd hp]
      obtain ⟨h4, e4⟩ := List.getElem?_eq_some_iff.1 hd
      obtain ⟨h5, e5⟩ := List.getElem?_eq_some_iff.1 hp
      have := List.pairwise_iff_getElem.1 h1 i (i + 1) h5 h4 (by omega)
      rwa [e4, e5] at this
/-- A sorted list without doubles is ascending. -/
theorem ascQ_of_sorted {S : List Qu} (hs : S.Pairwise (fun x y => ltQu y x = false)) (hn : S.Pairwise (fun x y => x ≠ y)) : ascQ S := by
  unfold ascQ
  refine (hs.and hn).imp fun {a b} ⟨h1, h2⟩ => ?_
  cases h : ltQu a b
  · exact absurd (ltQu_total h h1) h2
  · rfl
theorem ascQ_ne {l : List Qu} (h : ascQ l) : l.Pairwise (fun x y => x ≠ y) := h.imp fun {a b} h1 e => by
  rw [e, ltQu_irr] at h1; cases h1
theorem put_law {l S : List Qu} {q : Qu} (hl : ascQ l) (hp : S.Perm (l ++ [q])) (hs : S.Pairwise (fun x y => ltQu y x = false)) :
    goodQu S = (decide ((putQ q l).length ≠ l.length) && goodQu (putQ q l)) ∧ (goodQu S = true → S = putQ q l) := by
  by_cases hq : q ∈ l
  · have h1 : goodQu S = false := by
      cases hg : goodQu S
      · rfl
      · have h2 : (l ++ [q]).Pairwise (fun x y => x ≠ y) := (hp.pairwise_iff (fun h => Ne.symm h)).1 (ascQ_ne (goodQu_ascQ hg))
        rw [List.pairwise_append] at h2
        exact absurd rfl (h2.2.2 q hq q (by simp))
    rw [putQ_old hl hq, h1]
    simp
  · have hn : S.Pairwise (fun x y => x ≠ y) := (hp.pairwise_iff (fun h => Ne.symm h)).2 (by
      rw [List.pairwise_append]
      exact ⟨ascQ_ne hl, by simp, fun x hx y hy e => by simp at hy; subst hy; subst e; exact hq hx⟩)
    have he : S = putQ q l := ascQ_ext (ascQ_of_sorted hs hn) (putQ_asc hl) fun z => by
      rw [hp.mem_iff, putQ_mem]
      simp [or_comm]
    rw [← he]
    refine ⟨?_, fun _ => rfl⟩
    have := putQ_new hq
    rw [← he] at this
    simp [this]
def putAllQ (a L : List Qu) : List Qu := L.foldl (fun acc x => putQ x acc) a
theorem putAllQ_spec (L : List Qu) : ∀ a : List Qu, ascQ a → ascQ (putAllQ a L) ∧ ∀ z, z ∈ putAllQ a L ↔ z ∈ a ∨ z ∈ L := by
  induction L with
  | nil => intro a h; exact ⟨h, fun z => by simp [putAllQ]⟩
  | cons x L ih =>
    intro a h
    obtain ⟨h1, h2⟩ := ih (putQ x a) (putQ_asc h)
    refine ⟨h1, fun z => ?_⟩
    have e : putAllQ a (x :: L) = putAllQ (putQ x a) L := rfl
    rw [e, h2, putQ_mem, List.mem_cons]
    constructor
    · rintro ((h | h) | h) <;> simp [h]
    · rintro (h | h | h) <;> simp [h]
theorem merge_law {a L S : List Qu} (ha : ascQ a) (hL : ascQ L) (hp : S.Perm (a ++ L.filter (fun q => !decide (q ∈ a)))) (hs : S.Pairwise (fun x y => ltQu y x = false)) : S = putAllQ a L := by
  obtain ⟨h1, h2⟩ := putAllQ_spec L a ha
  have hn : S.Pairwise (fun x y => x ≠ y) := (hp.pairwise_iff (fun h => Ne.symm h)).2 (by
    rw [List.pairwise_append]
    refine ⟨ascQ_ne ha, (ascQ_ne hL).filter _, fun x hx y hy e => ?_⟩
    have := (List.mem_filter.1 hy).2
    subst e
    simp [hx] at this)
  refine ascQ_ext (ascQ_of_sorted hs hn) h1 fun z => ?_
  rw [hp.mem_iff, h2, List.mem_append, List.mem_filter]
  by_cases hz : z ∈ a <;> simp [hz]
theorem putQ_take {x : Qu} : ∀ (l : List Qu) (k : Nat), k ≤ l.length → (∀ i, i < k → ∀ y, l[i]? = some y → ltQu y x = true) → putQ x l = l.take k ++ putQ x (l.drop k)
  | l, 0, _, _ => by simp
  | [], k + 1, h, _ => by simp at h
  | y :: ys, k + 1, h, hy => by
    have h0 := hy 0 (by omega) y rfl
    have ih := putQ_take ys k (by simpa using h) (fun i hi z hz => hy (i + 1) (by omega) z (by simpa using hz))
    simp only [putQ, h0, if_true, List.take_succ_cons, List.drop_succ_cons, List.cons_append]
    rw [← ih]
theorem putQ_end {x : Qu} {l : List Qu} (h : ∀ i, i < l.length → ∀ y, l[i]? = some y → ltQu y x = true) : putQ x l = l ++ [x] := by
  have := putQ_take l l.length (Nat.le_refl _) h
  simpa [putQ] using this
theorem putQ_mid {x m : Qu} {l : List Qu} {k : Nat} (hm : l[k]? = some m) (h : ∀ i, i < k → ∀ y, l[i]? = some y → ltQu y x = true) (h1 : ltQu m x = false) (h2 : m ≠ x) : putQ x l = l.take k ++ [x] ++ l.drop k := by
  have hk : k < l.length := (List.getElem?_eq_some_iff.1 hm).1
  rw [putQ_take l k (by omega) h, drop_cons hm]
  simp [putQ, h1, h2]
theorem putQ_same {x : Qu} {l : List Qu} {k : Nat} (hm : l[k]? = some x) (h : ∀ i, i < k → ∀ y, l[i]? = some y → ltQu y x = true) : putQ x l = l := by
  have hk : k < l.length := (List.getElem?_eq_some_iff.1 hm).1
  rw [putQ_take l k (by omega) h]
  conv => rhs; rw [← List.take_append_drop k l]
  rw [drop_cons hm]
  simp [putQ, ltQu_irr]
end Go.Proofs.Ytlinjkfbcekepaa
