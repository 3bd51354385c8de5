/-
  The merged catalogue, in plain words.
-/
import Derived.Test.YtlinjkfbcekepaaQuPrs
import Derived.Test.YtlinjkfbcekepaaQuHas
namespace Go.Proofs.Ytlinjkfbcekepaa
set_option linter.unusedVariables false
set_option linter.unusedSimpArgs false
set_option linter.unnecessarySimpa false

def prdI (a b : List Qu) (t f : Int) : List Int := (lpP a b t f 0 0).map (·.b)
def frB (b : List Qu) (P : List Int) (k : Nat) : List Qu := ((List.range k).filter fun (j : Nat) => !hasB P (j : Int)).filterMap fun j => b[j]?
theorem frB_hit {b : List Qu} {P : List Int} {k : Nat} {m : Qu} (hm : b[k]? = some m) (h : hasB P (k : Int) = false) : frB b P (k + 1) = frB b P k ++ [m] := by
  unfold frB
  rw [List.range_succ, List.filter_append, List.filterMap_append]
  simp [h, hm]
theorem frB_miss {b : List Qu} {P : List Int} {k : Nat} (h : hasB P (k : Int) = true) : frB b P (k + 1) = frB b P k := by
  unfold frB
  rw [List.range_succ, List.filter_append, List.filterMap_append]
  simp [h]
theorem frB_zero (b : List Qu) (P : List Int) : frB b P 0 = [] := rfl
theorem frB_sub (b : List Qu) (P : List Int) : ∀ k, (frB b P k).Sublist (b.take k)
  | 0 => by simp [frB]
  | k + 1 => by
    have ih := frB_sub b P k
    cases hm : b[k]? with
    | none =>
      have e : frB b P (k + 1) = frB b P k := by
        unfold frB
        rw [List.range_succ, List.filter_append, List.filterMap_append]
        cases h : hasB P (k : Int) <;> simp [h, hm]
      have hle : b.length ≤ k := List.getElem?_eq_none_iff.1 hm
      rw [e, List.take_of_length_le (by omega)]
      rw [List.take_of_length_le hle] at ih
      exact ih
    | some m =>
      rw [List.take_add_one, hm]
      cases h : hasB P (k : Int)
      · rw [frB_hit hm h]
        exact ih.append (List.Sublist.refl _)
      · rw [frB_miss h]
        exact ih.trans (List.sublist_append_left _ _)
theorem frB_len (b : List Qu) (P : List Int) (k : Nat) : (frB b P k).length ≤ b.length := Nat.le_trans (frB_sub b P k).length_le (by simp; omega)
theorem frB_asc {b : List Qu} (P : List Int) (k : Nat) (h : ascQ b) : ascQ (frB b P k) := (h.sublist (List.take_sublist _ _)).sublist (frB_sub b P k)
def oldB (a : List Qu) (L : List Qu) : List Qu := L.filter fun q => !hasQ a q
theorem oldB_len (a L : List Qu) : (oldB a L).length ≤ L.length := List.length_filter_le _ _
theorem mrg_law {a b S : List Qu} {P : List Int} {k : Nat} (ha : ascQ a) (hb : ascQ b) (hp : S.Perm (a ++ oldB a (frB b P k))) (hs : S.Pairwise (fun x y => ltQu y x = false)) : S = putAllQ a (frB b P k) := by
  refine merge_law ha (frB_asc P k hb) ?_ hs
  have e : (fun q => !hasQ a q) = fun q => !decide (q ∈ a) := by funext q; rw [hasQ_iff]
  unfold oldB at hp
  rw [e] at hp
  exact hp
theorem putAllQ_snoc (a L : List Qu) (m : Qu) : putAllQ a (L ++ [m]) = putQ m (putAllQ a L) := by unfold putAllQ; rw [List.foldl_append]; rfl
theorem putAllQ_len : ∀ (L a : List Qu), (putAllQ a L).length ≤ a.length + L.length
  | [], a => by simp [putAllQ]
  | x :: L, a => by
    have h1 := putAllQ_len L (putQ x a)
    have h2 := (putQ_len x a).1
    have e : putAllQ a (x :: L) = putAllQ (putQ x a) L := rfl
    rw [e]; simp; omega
def mrgQ (a b : List Qu) (t f : Int) : List Qu := putAllQ a (frB b (prdI a b t f) b.length)
def mrgOK (a b : List Qu) (t f : Int) : Bool := bothB a b t f && goodQu (mrgQ a b t f)
def mrgL (a b : List Qu) (t f : Int) : List Qu := if mrgOK a b t f then mrgQ a b t f else []
theorem mrgL_le (a b : List Qu) (t f : Int) : (mrgL a b t f).length ≤ 10 := by
  unfold mrgL
  split
  · rename_i h
    unfold mrgOK at h
    rw [Bool.and_eq_true] at h
    exact goodQu_len h.2
  · simp
end Go.Proofs.Ytlinjkfbcekepaa
