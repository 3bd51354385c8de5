/-
  Ascending lists of ints: putting one after the other is sorting and compacting. Plain words; no program is named.
-/
import Derived.Lib.SlicesCompact
import Derived.Test.YtifkakpiipoadaaPlain0
namespace Go.Proofs.Ytifkakpiipoadaa
set_option linter.unusedVariables false
set_option linter.unusedSimpArgs false
set_option linter.unnecessarySimpa false
open Go.RowKit

def putI (x : Int) : List Int → List Int
  | [] => [x]
  | y :: ys => if y < x then y :: putI x ys else if y = x then y :: ys else x :: y :: ys
def asc (l : List Int) : Prop := l.Pairwise (· < ·)
theorem asc_ext : ∀ {a b : List Int}, asc a → asc b → (∀ x, x ∈ a ↔ x ∈ b) → a = b
  | [], [], _, _, _ => rfl
  | [], y :: ys, _, _, h => by have := (h y).2 (List.mem_cons_self); simp at this
  | x :: xs, [], _, _, h => by have := (h x).1 (List.mem_cons_self); simp at this
  | x :: xs, y :: ys, ha, hb, h => by
    have ha' := List.pairwise_cons.1 ha
    have hb' := List.pairwise_cons.1 hb
    have e : x = y := by
      rcases List.mem_cons.1 ((h x).1 (List.mem_cons_self)) with e | e
      · exact e
      · rcases List.mem_cons.1 ((h y).2 (List.mem_cons_self)) with e' | e'
        · exact e'.symm
        · have h1 := hb'.1 x e
          have h2 := ha'.1 y e'
          omega
    subst e
    rw [asc_ext ha'.2 hb'.2 fun z => ?_]
    constructor
    · intro hz
      have h1 := ha'.1 z hz
      rcases List.mem_cons.1 ((h z).1 (List.mem_cons_of_mem _ hz)) with e | e
      · omega
      · exact e
    · intro hz
      have h1 := hb'.1 z hz
      rcases List.mem_cons.1 ((h z).2 (List.mem_cons_of_mem _ hz)) with e | e
      · omega
      · exact e
theorem putI_mem {x z : Int} : ∀ {l : List Int}, z ∈ putI x l ↔ z = x ∨ z ∈ l
  | [] => by simp [putI]
  | y :: ys => by
    have ih := putI_mem (x := x) (z := z) (l := ys)
    unfold putI
    split
    · simp only [List.mem_cons, ih]
      constructor <;> (intro h; rcases h with h | h | h <;> simp_all)
    · split
      · rename_i h
        subst h
        simp
      · simp
theorem putI_asc {x : Int} : ∀ {l : List Int}, asc l → asc (putI x l)
  | [], _ => by simp [putI, asc]
  | y :: ys, h => by
    have h' := List.pairwise_cons.1 h
    unfold putI
    split
    · rename_i hy
      exact List.pairwise_cons.2 ⟨fun z hz => by
        rcases putI_mem.1 hz with e | e
        · omega
        · exact h'.1 z e, putI_asc h'.2⟩
    · split
      · exact h
      · refine List.pairwise_cons.2 ⟨fun z hz => ?_, h⟩
        rcases List.mem_cons.1 hz with e | e
        · omega
        · have := h'.1 z e; omega
def putAll (L : List Int) : List Int := L.foldl (fun acc x => putI x acc) []
theorem putAll_from (L : List Int) : ∀ acc : List Int, asc acc → asc (L.foldl (fun acc x => putI x acc) acc) ∧ ∀ z, z ∈ L.foldl (fun acc x => putI x acc) acc ↔ z ∈ L ∨ z ∈ acc := by
  induction L with
  | nil => intro acc h; exact ⟨h, fun z => by simp⟩
  | cons x L ih =>
    intro acc h
    obtain ⟨h1, h2⟩ := ih (putI x acc) (putI_asc h)
    refine ⟨h1, fun z => ?_⟩
    simp only [List.foldl_cons, h2, putI_mem, List.mem_cons]
    constructor
    · rintro (h | h | h) <;> simp [h]
    · rintro ((h | h) | h) <;> simp [h]
theorem putAll_asc (L : List Int) : asc (putAll L) := (putAll_from L [] List.Pairwise.nil).1
theorem putAll_mem {L : List Int} {z : Int} : z ∈ putAll L ↔ z ∈ L := by simpa [putAll] using (putAll_from L [] List.Pairwise.nil).2 z
theorem putAll_succ {L : List Int} {k : Nat} {m : Int} (hm : L[k]? = some m) : putAll (L.take (k + 1)) = putI m (putAll (L.take k)) := by
  unfold putAll
  rw [List.take_add_one, hm]
  simp [List.foldl_append]
theorem compact_spec (d : Array Int) (hs : ∀ i j, i ≤ j → j < d.size → d[i]! ≤ d[j]!) : ∀ m, m ≤ d.size → asc (Lib.compactUpTo d m) ∧ (∀ z, z ∈ Lib.compactUpTo d m ↔ ∃ j, j < m ∧ d[j]! = z)
  | 0, _ => by simp [Lib.compactUpTo, asc]
  | m + 1, hm => by
    obtain ⟨h1, h2⟩ := compact_spec d hs m (by omega)
    rw [Lib.compactUpTo_succ]
    cases hk : Lib.keeps d m
    · have hk' : ¬ (m = 0 ∨ d[m]! ≠ d[m - 1]!) := by simpa [Lib.keeps] using hk
      have e : d[m]! = d[m - 1]! := by
        rcases Classical.em (d[m]! = d[m - 1]!) with e | e
        · exact e
        · exact absurd (.inr e) hk'
      have hm0 : m ≠ 0 := fun e => hk' (.inl e)
      simp only [Bool.false_eq_true, if_false, List.append_nil]
      refine ⟨h1, fun z => ?_⟩
      rw [h2]
      constructor
      · rintro ⟨j, hj, e⟩; exact ⟨j, by omega, e⟩
      · rintro ⟨j, hj, e'⟩
        rcases Nat.lt_or_ge j m with h | h
        · exact ⟨j, h, e'⟩
        · obtain rfl : j = m := by omega
          exact ⟨j - 1, by omega, by rw [← e, e']⟩
    · have hk' : m = 0 ∨ d[m]! ≠ d[m - 1]! := by simpa [Lib.keeps] using hk
      simp only [if_true]
      refine ⟨?_, fun z => ?_⟩
      · unfold asc
        rw [List.pairwise_append]
        refine ⟨h1, by simp, fun a ha b hb => ?_⟩
        obtain rfl : b = d[m]! := by simpa using hb
        obtain ⟨j, hj, rfl⟩ := (h2 a).1 ha
        have h3 := hs j (m - 1) (by omega) (by omega)
        have h4 := hs (m - 1) m (by omega) (by omega)
        rcases hk' with h | h
        · omega
        · omega
      · rw [List.mem_append, h2]
        constructor
        · rintro (⟨j, hj, e⟩ | e)
          · exact ⟨j, by omega, e⟩
          · exact ⟨m, by omega, by simpa using (List.mem_singleton.1 e).symm⟩
        · rintro ⟨j, hj, e⟩
          rcases Nat.lt_or_ge j m with h | h
          · exact .inl ⟨j, h, e⟩
          · obtain rfl : j = m := by omega
            exact .inr (by simp [e])
def sortC (L : List Int) : List Int := Lib.compact (L.mergeSort fun x y => decide (x ≤ y))
theorem sortC_putAll (L : List Int) : sortC L = putAll L := by
  unfold sortC Lib.compact
  have hp := List.mergeSort_perm L (fun x y => decide (x ≤ y))
  have hs := List.pairwise_mergeSort (le := fun x y : Int => decide (x ≤ y)) (fun a b c h1 h2 => by simp at *; omega) (fun a b => by simp; omega) L
  generalize L.mergeSort (fun x y => decide (x ≤ y)) = S at *
  have hd : ∀ i j, i ≤ j → j < S.toArray.size → S.toArray[i]! ≤ S.toArray[j]! := by
    intro i j hij hj
    have hj' : j < S.length := by simpa using hj
    rcases Nat.lt_or_ge i j with h | h
    · have := List.pairwise_iff_getElem.1 hs i j (by omega) hj' h
      simpa [getElem!_pos, show i < S.length by omega, hj'] using this
    · obtain rfl : i = j := by omega
      exact Int.le_refl _
  obtain ⟨h1, h2⟩ := compact_spec S.toArray hd S.length (by simp)
  refine asc_ext h1 (putAll_asc L) fun z => ?_
  rw [h2, putAll_mem, ← hp.mem_iff]
  constructor
  · rintro ⟨j, hj, e⟩
    rw [← e]
    simp [getElem!_pos, hj]
  · intro hz
    obtain ⟨j, hj⟩ := List.mem_iff_getElem?.1 hz
    obtain ⟨hl, e⟩ := List.getElem?_eq_some_iff.1 hj
    exact ⟨j, hl, by simp [getElem!_pos, hl, e]⟩
end Go.Proofs.Ytifkakpiipoadaa
