/-
  Merged reports, plain words: putting each report of the second list in its place (in the place of one with its number) is sorting the second list with those of the first whose numbers it lacks.
-/
import Derived.Test.YtjjinblahmcplaaFeGood
import Derived.Test.YtjjinblahmcplaaFeMax
import Derived.Sort.LotA
namespace Go.Proofs.Ytjjinblahmcplaa
open Go.RowKit

def ascF (l : List Fe) : Prop := l.Pairwise (fun x y => x.id < y.id)
theorem ascF_ext : ∀ {a b : List Fe}, ascF a → ascF b → (∀ x, x ∈ a ↔ x ∈ b) → a = b
  | [], [], _, _, _ => rfl
  | [], y :: ys, _, _, h => by have := (h y).2 (List.mem_cons_self); simp at this
  | x :: xs, [], _, _, h => by have := (h x).1 (List.mem_cons_self); simp at this
  | x :: xs, y :: ys, ha, hb, h => by
    have ha' := List.pairwise_cons.1 ha
    have hb' := List.pairwise_cons.1 hb
    have e : x = y := by
      rcases List.mem_cons.1 ((h x).1 (List.mem_cons_self)) with e | e
      · exact e
      · rcases List.mem_cons.1 ((h y).2 (List.mem_cons_self)) with e' | e'
        · exact e'.symm
        · have h1 := hb'.1 x e
          have h2 := ha'.1 y e'
          omega
    subst e
    rw [ascF_ext ha'.2 hb'.2 fun z => ?_]
    constructor
    · intro hz
      have h1 := ha'.1 z hz
      rcases List.mem_cons.1 ((h z).1 (List.mem_cons_of_mem _ hz)) with e | e
      · rw [e] at h1; omega
      · exact e
    · intro hz
      have h1 := hb'.1 z hz
      rcases List.mem_cons.1 ((h z).2 (List.mem_cons_of_mem _ hz)) with e | e
      · rw [e] at h1; omega
      · exact e
def insR (g : Fe) : List Fe → List Fe
  | [] => [g]
  | x :: xs => if x.id < g.id then x :: insR g xs else if x.id = g.id then g :: xs else g :: x :: xs
theorem insR_mem {g z : Fe} : ∀ {l : List Fe}, ascF l → (z ∈ insR g l ↔ z = g ∨ (z ∈ l ∧ z.id ≠ g.id))
  | [], _ => by simp [insR]
  | x :: xs, h => by
    have h' := List.pairwise_cons.1 h
    have ih := insR_mem (g := g) (z := z) h'.2
    unfold insR
    split
    · rename_i hx
      simp only [List.mem_cons, ih]
      constructor
      · rintro (e | e | e)
        · subst e; exact .inr ⟨.inl rfl, by omega⟩
        · exact .inl e
        · exact .inr ⟨.inr e.1, e.2⟩
      · rintro (e | ⟨e | e, e2⟩)
        · exact .inr (.inl e)
        · exact .inl e
        · exact .inr (.inr ⟨e, e2⟩)
    · split
      · rename_i hx hx2
        simp only [List.mem_cons]
        constructor
        · rintro (e | e)
          · exact .inl e
          · exact .inr ⟨.inr e, by have := h'.1 z e; omega⟩
        · rintro (e | ⟨e | e, e2⟩)
          · exact .inl e
          · subst e; exact absurd hx2 e2
          · exact .inr e
      · rename_i hx hx2
        simp only [List.mem_cons]
        constructor
        · rintro (e | e | e)
          · exact .inl e
          · subst e; exact .inr ⟨.inl rfl, hx2⟩
          · exact .inr ⟨.inr e, by have := h'.1 z e; omega⟩
        · rintro (e | ⟨e | e, e2⟩)
          · exact .inl e
          · exact .inr (.inl e)
          · exact .inr (.inr e)
theorem insR_asc {g : Fe} : ∀ {l : List Fe}, ascF l → ascF (insR g l)
  | [], _ => by simp [insR, ascF]
  | x :: xs, h => by
    have h' := List.pairwise_cons.1 h
    unfold insR
    split
    · rename_i hx
      refine List.pairwise_cons.2 ⟨fun z hz => ?_, insR_asc h'.2⟩
      rcases (insR_mem h'.2).1 hz with e | e
      · subst e; exact hx
      · exact h'.1 z e.1
    · split
      · rename_i hx hx2
        exact List.pairwise_cons.2 ⟨fun z hz => by have := h'.1 z hz; omega, h'.2⟩
      · rename_i hx hx2
        refine List.pairwise_cons.2 ⟨fun z hz => ?_, h⟩
        rcases List.mem_cons.1 hz with e | e
        · rw [e]; omega
        · have := h'.1 z e; omega
def mergeL (a b : List Fe) : List Fe := b.foldl (fun o g => insR g o) a
theorem mergeL_spec : ∀ (b a : List Fe), ascF a → ascF b → ascF (mergeL a b) ∧ ∀ z, z ∈ mergeL a b ↔ z ∈ b ∨ (z ∈ a ∧ ∀ y ∈ b, y.id ≠ z.id)
  | [], a, ha, _ => by simp [mergeL, ha]
  | g :: b, a, ha, hb => by
    have hb' := List.pairwise_cons.1 hb
    obtain ⟨h1, h2⟩ := mergeL_spec b (insR g a) (insR_asc ha) hb'.2
    refine ⟨h1, fun z => ?_⟩
    have e : mergeL a (g :: b) = mergeL (insR g a) b := rfl
    rw [e, h2, insR_mem ha]
    simp only [List.mem_cons, forall_eq_or_imp]
    constructor
    · rintro (h | ⟨h | h, h3⟩)
      · exact .inl (.inr h)
      · exact .inl (.inl h)
      · exact .inr ⟨h.1, fun e => h.2 e.symm, h3⟩
    · rintro ((h | h) | ⟨h, h3, h4⟩)
      · subst h
        exact .inr ⟨.inl rfl, fun y hy => by have := hb'.1 y hy; omega⟩
      · exact .inl h
      · exact .inr ⟨.inr ⟨h, fun e => h3 e.symm⟩, h4⟩
theorem mergeL_succ {a b : List Fe} {k : Nat} {m : Fe} (hm : b[k]? = some m) : mergeL a (b.take (k + 1)) = insR m (mergeL a (b.take k)) := by
  unfold mergeL
  rw [List.take_add_one, hm]
  simp [List.foldl_append]
theorem insR_len (g : Fe) : ∀ l : List Fe, (insR g l).length ≤ l.length + 1
  | [] => by simp [insR]
  | x :: xs => by
    have := insR_len g xs
    unfold insR
    split
    · simp; omega
    · split <;> simp
theorem mergeL_len (a b : List Fe) : ∀ k, k ≤ b.length → (mergeL a (b.take k)).length ≤ a.length + k
  | 0, _ => by simp [mergeL]
  | k + 1, h => by
    obtain ⟨m, hm⟩ := some_get (show k < b.length by omega)
    have := mergeL_len a b k (by omega)
    have h2 := insR_len m (mergeL a (b.take k))
    rw [mergeL_succ hm]; omega
theorem goodFe_asc {l : List Fe} (h : goodFe l = true) : ascF l := by
  unfold ascF
  rw [List.pairwise_iff_getElem]
  intro i j hi hj hij
  exact goodFe_lt h (List.getElem?_eq_getElem hi) (List.getElem?_eq_getElem hj) hij
def lackB (b : List Fe) (f : Fe) : Bool := b.all fun g => g.id != f.id
def rawL (a b : List Fe) : List Fe := b ++ a.filter (lackB b)
theorem sorted_merge {a b : List Fe} (ha : ascF a) (hb : ascF b) {d : List Fe} (hp : d.Perm (rawL a b)) (hs : d.Pairwise (fun x y => x.id ≤ y.id)) : d = mergeL a b := by
  obtain ⟨h1, h2⟩ := mergeL_spec b a ha hb
  have hne : (rawL a b).Pairwise (fun x y => x.id ≠ y.id) := by
    unfold rawL
    rw [List.pairwise_append]
    refine ⟨hb.imp (fun h => by omega), (ha.filter _).imp (fun h => by omega), fun x hx y hy => ?_⟩
    have := (List.mem_filter.1 hy).2
    unfold lackB at this
    rw [List.all_eq_true] at this
    simpa using this x hx
  have hd : d.Pairwise (fun x y => x.id ≠ y.id) := (hp.pairwise_iff (fun h => Ne.symm h)).2 hne
  have hasc : ascF d := by
    unfold ascF
    exact (hs.and hd).imp (fun h => by omega)
  refine ascF_ext hasc h1 fun z => ?_
  rw [h2, hp.mem_iff]
  unfold rawL lackB
  simp [List.mem_append, List.mem_filter]
theorem insR_at {g : Fe} : ∀ (l : List Fe) (k : Nat), k ≤ l.length → (∀ i, i < k → ∀ y, l[i]? = some y → y.id < g.id) → insR g l = l.take k ++ insR g (l.drop k)
  | l, 0, _, _ => by simp
  | [], k + 1, h, _ => by simp at h
  | y :: ys, k + 1, h, hy => by
    have h0 := hy 0 (by omega) y rfl
    have ih := insR_at ys k (by simpa using h) (fun i hi z hz => hy (i + 1) (by omega) z (by simpa using hz))
    simp only [insR, h0, if_true, List.take_succ_cons, List.drop_succ_cons, List.cons_append]
    rw [← ih]
end Go.Proofs.Ytjjinblahmcplaa
