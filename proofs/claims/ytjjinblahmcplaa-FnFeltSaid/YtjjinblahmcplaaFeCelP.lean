/-
  Cells of felt reports, in plain words: pairs in ascending order, each once. No program is named.
-/
import Derived.Test.YtjjinblahmcplaaFeLev
namespace Go.Proofs.Ytjjinblahmcplaa
open Go.RowKit

def ltP (p q : Int × Int) : Bool := decide (p.1 < q.1 ∨ p.1 = q.1 ∧ p.2 < q.2)
theorem ltP_iff {p q : Int × Int} : ltP p q = true ↔ (p.1 < q.1 ∨ p.1 = q.1 ∧ p.2 < q.2) := by simp only [ltP, decide_eq_true_eq]
theorem ltP_no {p q : Int × Int} : ltP p q = false ↔ ¬ (p.1 < q.1 ∨ p.1 = q.1 ∧ p.2 < q.2) := by simp only [ltP, decide_eq_false_iff_not]
theorem ltP_trans {p q r : Int × Int} (h : ltP p q = true) (h2 : ltP q r = true) : ltP p r = true := by
  rw [ltP_iff] at *
  omega
theorem ltP_irr (p : Int × Int) : ltP p p = false := by
  rw [ltP_no]
  omega
theorem eqP_of {p q : Int × Int} (h1 : p.1 = q.1) (h2 : p.2 = q.2) : p = q := Prod.ext h1 h2
theorem ltP_tri {p q : Int × Int} (h1 : ltP p q = false) (h2 : p ≠ q) : ltP q p = true := by
  rw [ltP_no] at h1
  rw [ltP_iff]
  by_cases e1 : p.1 = q.1
  · by_cases e2 : p.2 = q.2
    · exact absurd (eqP_of e1 e2) h2
    · omega
  · omega
def ascP (l : List (Int × Int)) : Prop := l.Pairwise fun p q => ltP p q = true
theorem ascP_ext : ∀ {a b : List (Int × Int)}, ascP a → ascP b → (∀ x, x ∈ a ↔ x ∈ b) → a = b
  | [], [], _, _, _ => rfl
  | [], y :: ys, _, _, h => by have := (h y).2 (List.mem_cons_self); simp at this
  | x :: xs, [], _, _, h => by have := (h x).1 (List.mem_cons_self); simp at this
  | x :: xs, y :: ys, ha, hb, h => by
    unfold ascP at ha hb
    rw [List.pairwise_cons] at ha hb
    have hxy : x = y := by
      have h1 := (h x).1 (List.mem_cons_self)
      have h2 := (h y).2 (List.mem_cons_self)
      rcases List.mem_cons.1 h1 with e | h1
      · exact e
      · rcases List.mem_cons.1 h2 with e | h2
        · exact e.symm
        · have a1 := hb.1 x h1
          have a2 := ha.1 y h2
          have := ltP_trans a1 a2
          rw [ltP_irr] at this
          cases this
    subst hxy
    congr 1
    refine ascP_ext ha.2 hb.2 (fun z => ?_)
    constructor
    · intro hz
      rcases List.mem_cons.1 ((h z).1 (List.mem_cons_of_mem _ hz)) with e | h1
      · subst e
        have := ha.1 z hz
        rw [ltP_irr] at this
        cases this
      · exact h1
    · intro hz
      rcases List.mem_cons.1 ((h z).2 (List.mem_cons_of_mem _ hz)) with e | h1
      · subst e
        have := hb.1 z hz
        rw [ltP_irr] at this
        cases this
      · exact h1
def putP (p : Int × Int) : List (Int × Int) → List (Int × Int)
  | [] => [p]
  | q :: qs => if ltP q p then q :: putP p qs else if q = p then q :: qs else p :: q :: qs
theorem putP_mem {p z : Int × Int} : ∀ {l : List (Int × Int)}, z ∈ putP p l ↔ z = p ∨ z ∈ l
  | [] => by simp [putP]
  | q :: qs => by
    unfold putP
    split
    · rw [List.mem_cons, putP_mem, List.mem_cons]
      constructor
      · rintro (h | h | h)
        · exact .inr (.inl h)
        · exact .inl h
        · exact .inr (.inr h)
      · rintro (h | h | h)
        · exact .inr (.inl h)
        · exact .inl h
        · exact .inr (.inr h)
    · split
      · rename_i e
        subst e
        simp
      · simp
theorem putP_asc {p : Int × Int} : ∀ {l : List (Int × Int)}, ascP l → ascP (putP p l)
  | [], _ => by simp [putP, ascP]
  | q :: qs, h => by
    unfold ascP at h
    rw [List.pairwise_cons] at h
    unfold putP
    split
    · rename_i hl
      unfold ascP
      rw [List.pairwise_cons]
      refine ⟨fun z hz => ?_, putP_asc h.2⟩
      rcases putP_mem.1 hz with rfl | hz
      · exact hl
      · exact h.1 z hz
    · rename_i hl
      split
      · exact List.pairwise_cons.2 h
      · rename_i hne
        have hpq : ltP p q = true := ltP_tri (by simpa using hl) hne
        unfold ascP
        rw [List.pairwise_cons]
        refine ⟨fun z hz => ?_, List.pairwise_cons.2 h⟩
        rcases List.mem_cons.1 hz with rfl | hz
        · exact hpq
        · exact ltP_trans hpq (h.1 z hz)
theorem putP_len (p : Int × Int) : ∀ l : List (Int × Int), (putP p l).length ≤ l.length + 1
  | [] => by simp [putP]
  | q :: qs => by
    have := putP_len p qs
    unfold putP
    split
    · simp; omega
    · split <;> simp
theorem putP_take {p : Int × Int} : ∀ (l : List (Int × Int)) (k : Nat), k ≤ l.length → (∀ i, i < k → ∀ y, l[i]? = some y → ltP y p = true) → putP p l = l.take k ++ putP p (l.drop k)
  | l, 0, _, _ => by simp
  | [], k + 1, h, _ => by simp at h
  | q :: qs, k + 1, h, hi => by
    have h0 := hi 0 (by omega) q rfl
    rw [List.take_succ_cons, List.drop_succ_cons, List.cons_append]
    rw [← putP_take qs k (by simpa using h) (fun i hik y hy => hi (i + 1) (by omega) y (by simpa using hy))]
    simp [putP, h0]
theorem putP_end {p : Int × Int} {l : List (Int × Int)} (h : ∀ i, i < l.length → ∀ y, l[i]? = some y → ltP y p = true) : putP p l = l ++ [p] := by
  rw [putP_take l l.length (Nat.le_refl _) h]
  simp [putP]
theorem putP_same {p : Int × Int} {l : List (Int × Int)} {k : Nat} (hm : l[k]? = some p) (h : ∀ i, i < k → ∀ y, l[i]? = some y → ltP y p = true) : putP p l = l := by
  have hk := (List.getElem?_eq_some_iff.1 hm).1
  rw [putP_take l k (by omega) h]
  have e : l.drop k = p :: l.drop (k + 1) := by
    rw [List.drop_eq_getElem_cons hk]
    congr 1
    exact (List.getElem?_eq_some_iff.1 hm).2
  rw [e]
  simp only [putP, ltP_irr]
  rw [if_neg (by simp), if_pos trivial, ← e, List.take_append_drop]
theorem putP_mid {p m : Int × Int} {l : List (Int × Int)} {k : Nat} (hm : l[k]? = some m) (h : ∀ i, i < k → ∀ y, l[i]? = some y → ltP y p = true) (h1 : ltP m p = false) (h2 : m ≠ p) : putP p l = l.take k ++ [p] ++ l.drop k := by
  have hk := (List.getElem?_eq_some_iff.1 hm).1
  rw [putP_take l k (by omega) h]
  have e : l.drop k = m :: l.drop (k + 1) := by
    rw [List.drop_eq_getElem_cons hk]
    congr 1
    exact (List.getElem?_eq_some_iff.1 hm).2
  rw [e]
  simp only [putP, h1]
  rw [if_neg (by simp), if_neg h2]
  simp
def celP (size : Int) (m : Fe) : Int × Int := (m.x / size, m.y / size)
def celL (size : Int) (l : List Fe) : List (Int × Int) := l.foldl (fun acc m => putP (celP size m) acc) []
theorem celL_succ {size : Int} {l : List Fe} {k : Nat} {m : Fe} (h : l[k]? = some m) : celL size (l.take (k + 1)) = putP (celP size m) (celL size (l.take k)) := by
  unfold celL
  rw [List.take_add_one, h]
  simp [List.foldl_append]
theorem celL_go (size : Int) : ∀ (l : List Fe) (acc : List (Int × Int)), ascP acc → ascP (l.foldl (fun acc m => putP (celP size m) acc) acc) ∧ ∀ z, z ∈ l.foldl (fun acc m => putP (celP size m) acc) acc ↔ z ∈ acc ∨ ∃ m ∈ l, celP size m = z
  | [], acc, h => ⟨h, fun z => by simp⟩
  | m :: l, acc, h => by
    obtain ⟨h1, h2⟩ := celL_go size l (putP (celP size m) acc) (putP_asc h)
    refine ⟨h1, fun z => ?_⟩
    simp only [List.foldl_cons]
    rw [h2, putP_mem]
    constructor
    · rintro ((h | h) | ⟨q, hq, h⟩)
      · exact .inr ⟨m, List.mem_cons_self, h.symm⟩
      · exact .inl h
      · exact .inr ⟨q, List.mem_cons_of_mem _ hq, h⟩
    · rintro (h | ⟨q, hq, h⟩)
      · exact .inl (.inr h)
      · rcases List.mem_cons.1 hq with rfl | hq
        · exact .inl (.inl h.symm)
        · exact .inr ⟨q, hq, h⟩
theorem celL_asc (size : Int) (l : List Fe) : ascP (celL size l) := (celL_go size l [] List.Pairwise.nil).1
theorem celL_mem {size : Int} {l : List Fe} {z : Int × Int} : z ∈ celL size l ↔ ∃ m ∈ l, celP size m = z := by
  have := (celL_go size l [] List.Pairwise.nil).2 z
  simpa [celL] using this
theorem celL_len (size : Int) (l : List Fe) : ∀ k, k ≤ l.length → (celL size (l.take k)).length ≤ k
  | 0, _ => by simp [celL]
  | k + 1, h => by
    obtain ⟨m, hm⟩ := some_get (show k < l.length by omega)
    have h1 := celL_len size l k (by omega)
    have h2 := putP_len (celP size m) (celL size (l.take k))
    rw [celL_succ hm]
    omega
/-- What impl lays, each cell once, in the order of the reports. -/
def disL (size : Int) (l : List Fe) : List (Int × Int) := l.foldl (fun acc m => if celP size m ∈ acc then acc else acc ++ [celP size m]) []
theorem disL_succ {size : Int} {l : List Fe} {k : Nat} {m : Fe} (h : l[k]? = some m) : disL size (l.take (k + 1)) = if celP size m ∈ disL size (l.take k) then disL size (l.take k) else disL size (l.take k) ++ [celP size m] := by
  unfold disL
  rw [List.take_add_one, h]
  simp [List.foldl_append]
theorem disL_go (size : Int) : ∀ (l : List Fe) (acc : List (Int × Int)), acc.Nodup → (l.foldl (fun acc m => if celP size m ∈ acc then acc else acc ++ [celP size m]) acc).Nodup ∧ ∀ z, z ∈ l.foldl (fun acc m => if celP size m ∈ acc then acc else acc ++ [celP size m]) acc ↔ z ∈ acc ∨ ∃ m ∈ l, celP size m = z
  | [], acc, h => ⟨h, fun z => by simp⟩
  | m :: l, acc, h => by
    simp only [List.foldl_cons]
    by_cases hc : celP size m ∈ acc
    · rw [if_pos hc]
      obtain ⟨h1, h2⟩ := disL_go size l acc h
      refine ⟨h1, fun z => ?_⟩
      rw [h2]
      constructor
      · rintro (h | ⟨q, hq, h⟩)
        · exact .inl h
        · exact .inr ⟨q, List.mem_cons_of_mem _ hq, h⟩
      · rintro (h | ⟨q, hq, h⟩)
        · exact .inl h
        · rcases List.mem_cons.1 hq with rfl | hq
          · exact .inl (h ▸ hc)
          · exact .inr ⟨q, hq, h⟩
    · rw [if_neg hc]
      obtain ⟨h1, h2⟩ := disL_go size l (acc ++ [celP size m]) (by
        rw [List.nodup_append]
        refine ⟨h, by simp, fun a ha b hb => ?_⟩
        rw [List.mem_singleton.1 hb]
        exact fun e => hc (e ▸ ha))
      refine ⟨h1, fun z => ?_⟩
      rw [h2, List.mem_append, List.mem_singleton]
      constructor
      · rintro ((h | h) | ⟨q, hq, h⟩)
        · exact .inl h
        · exact .inr ⟨m, List.mem_cons_self, h.symm⟩
        · exact .inr ⟨q, List.mem_cons_of_mem _ hq, h⟩
      · rintro (h | ⟨q, hq, h⟩)
        · exact .inl (.inl h)
        · rcases List.mem_cons.1 hq with rfl | hq
          · exact .inl (.inr h.symm)
          · exact .inr ⟨q, hq, h⟩
theorem dis_sorted {size : Int} {l : List Fe} {d : List (Int × Int)} (hp : d.Perm (disL size l)) (hs : d.Pairwise fun p q => ltP q p = false) : d = celL size l := by
  obtain ⟨h1, h2⟩ := disL_go size l [] List.nodup_nil
  have hn : d.Nodup := hp.nodup_iff.2 h1
  have ha : ascP d := by
    unfold ascP
    have := hs.and hn
    exact this.imp fun {p q} h => ltP_tri h.1 (fun e => h.2 e.symm)
  refine ascP_ext ha (celL_asc size l) (fun z => ?_)
  rw [hp.mem_iff, celL_mem]
  have := h2 z
  simpa [disL] using this
theorem disL_len (size : Int) (l : List Fe) : ∀ k, k ≤ l.length → (disL size (l.take k)).length ≤ k
  | 0, _ => by simp [disL]
  | k + 1, h => by
    obtain ⟨m, hm⟩ := some_get (show k < l.length by omega)
    have h1 := disL_len size l k (by omega)
    rw [disL_succ hm]
    split
    · omega
    · simp; omega
def celRow (size : Int) (l : List Fe) (p : Int × Int) : List Int := [p.1, p.2, levelL (cellsW size p.1 p.2 l)]
def cellsOK (size : Int) (l : List Fe) : Bool := goodFe l && inB size 1 500
def cellsL (size : Int) (l : List Fe) : List (List Int) := if cellsOK size l then (celL size l).map (celRow size l) else []
theorem cellsL_le (size : Int) (l : List Fe) : (cellsL size l).length ≤ 12 := by
  unfold cellsL
  split
  · rename_i h
    unfold cellsOK at h
    rw [Bool.and_eq_true] at h
    have h1 := celL_len size l l.length (Nat.le_refl _)
    rw [List.take_length] at h1
    have h2 := goodFe_len h.1
    rw [List.length_map]
    omega
  · simp
theorem cellsL_sum (size : Int) (l : List Fe) : ((cellsL size l).map List.length).sum ≤ 36 := by
  have h1 := cellsL_le size l
  have h2 : ((cellsL size l).map List.length).sum ≤ 3 * (cellsL size l).length := by
    unfold cellsL
    split
    · generalize celL size l = D
      induction D with
      | nil => simp
      | cons p D ih => simp [celRow] at ih ⊢; omega
    · simp
  omega
end Go.Proofs.Ytjjinblahmcplaa
