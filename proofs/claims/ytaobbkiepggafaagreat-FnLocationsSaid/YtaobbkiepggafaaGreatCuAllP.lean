/-
  All possible cubes with a side: what impl (a list that stops at 65) and spec (lists that stop behind 64) keep; the order.
-/
import Derived.Test.YtaobbkiepggafaaGreatCuSpl
namespace Go.Proofs.YtaobbkiepggafaaGreat
set_option linter.unusedVariables false
set_option linter.unusedSimpArgs false
set_option linter.unnecessarySimpa false

theorem take_app {α : Type} (X Y : List α) (n : Nat) : (X.take n ++ Y).take n = (X ++ Y).take n := by
  by_cases h : X.length ≤ n
  · rw [List.take_of_length_le h]
  · rw [List.take_append_of_le_length (by simp; omega), List.take_append_of_le_length (by omega), List.take_take, Nat.min_self]
theorem flat_take {l : List Cu} {f : Cu → List Cu} {k : Nat} {c : Cu} (h : l[k]? = some c) : (l.take (k + 1)).flatMap f = (l.take k).flatMap f ++ f c := by
  rw [List.take_add_one, h]; simp [List.flatMap_append]
def stepS (f : Cu → List Cu) (out : List Cu) (c : Cu) : List Cu := if out.length ≤ 64 then out ++ f c else out
def specC (l : List Ar) (side : Int) : Nat → Cu → List Cu
  | 0, _ => []
  | d + 1, m => if l.all (canA m) then (if m.sd = side then [m] else (chC m).foldl (stepS (specC l side d)) []) else []
theorem specC_no {l : List Ar} {side : Int} {d : Nat} {m : Cu} (h : l.all (canA m) = false) : specC l side (d + 1) m = [] := by simp [specC, h]
theorem specC_one {l : List Ar} {side : Int} {d : Nat} {m : Cu} (h : l.all (canA m) = true) (h2 : m.sd = side) : specC l side (d + 1) m = [m] := by simp [specC, h, h2]
theorem specC_ch {l : List Ar} {side : Int} {d : Nat} {m : Cu} (h : l.all (canA m) = true) (h2 : m.sd ≠ side) : specC l side (d + 1) m = (chC m).foldl (stepS (specC l side d)) [] := by simp [specC, h, h2]
theorem foldl_take {l : List Cu} {f : List Cu → Cu → List Cu} {k : Nat} {c : Cu} (h : l[k]? = some c) : (l.take (k + 1)).foldl f [] = f ((l.take k).foldl f []) c := by
  rw [List.take_add_one, h]; simp [List.foldl_append]
def bothP (F S : List Cu) : Prop := (F.length ≤ 64 → S = F) ∧ (64 < F.length → 64 < S.length)
theorem bothP_step {F S A B : List Cu} (h1 : bothP F S) (h2 : bothP A B) : bothP (F ++ A) (if S.length ≤ 64 then S ++ B else S) := by
  by_cases hf : F.length ≤ 64
  · have e := h1.1 hf
    subst e
    rw [if_pos hf]
    by_cases ha : A.length ≤ 64
    · rw [h2.1 ha]
      exact ⟨fun _ => rfl, fun h => h⟩
    · have := h2.2 (by omega)
      exact ⟨fun h => by simp at h; omega, fun _ => by simp; omega⟩
  · have := h1.2 (by omega)
    rw [if_neg (by omega)]
    exact ⟨fun h => by simp at h; omega, fun _ => this⟩
theorem bothP_fold {f g : Cu → List Cu} : ∀ (L F S : List Cu), (∀ c ∈ L, bothP (f c) (g c)) → bothP F S → bothP (F ++ L.flatMap f) (L.foldl (stepS g) S)
  | [], F, S, _, h => by simpa using h
  | c :: L, F, S, h, hb => by
    have h1 := bothP_step hb (h c (by simp))
    have h2 := bothP_fold (f := f) (g := g) L _ _ (fun c' hc => h c' (by simp [hc])) h1
    rw [List.flatMap_cons, ← List.append_assoc]
    exact h2
theorem bothP_all (l : List Ar) (side : Int) : ∀ d m, bothP (allC l side d m) (specC l side d m)
  | 0, m => ⟨fun _ => rfl, fun h => by simp [allC] at h⟩
  | d + 1, m => by
    cases h : l.all (canA m)
    · rw [allC_no h, specC_no h]
      exact ⟨fun _ => rfl, fun h => by simp at h⟩
    · by_cases h2 : m.sd = side
      · rw [allC_one h h2, specC_one h h2]
        exact ⟨fun _ => rfl, fun h => by simp at h⟩
      · rw [allC_ch h h2, specC_ch h h2]
        have := bothP_fold (f := allC l side d) (g := specC l side d) (chC m) [] [] (fun c _ => bothP_all l side d c) ⟨fun _ => rfl, fun h => by simp at h⟩
        simpa using this
theorem stepS_len {g : Cu → List Cu} {n : Nat} : ∀ (L S : List Cu), (∀ c ∈ L, (g c).length ≤ n) → S.length ≤ 64 + n → (L.foldl (stepS g) S).length ≤ 64 + n
  | [], S, _, h => by simpa using h
  | c :: L, S, h, hs => by
    refine stepS_len L _ (fun c' hc => h c' (by simp [hc])) ?_
    have := h c (by simp)
    unfold stepS
    split
    · simp; omega
    · exact hs
theorem specC_len (l : List Ar) (side : Int) : ∀ d m, (specC l side d m).length ≤ 1 + 64 * d
  | 0, m => by simp [specC]
  | d + 1, m => by
    cases h : l.all (canA m)
    · rw [specC_no h]; simp
    · by_cases h2 : m.sd = side
      · rw [specC_one h h2]; simp
      · rw [specC_ch h h2]
        have := stepS_len (g := specC l side d) (n := 1 + 64 * d) (chC m) [] (fun c _ => specC_len l side d c) (by simp)
        omega
/-- What all these cubes have alike. -/
theorem allC_in (l : List Ar) (side : Int) (hs : 1 ≤ side) : ∀ d m, cubeB m = true → side ≤ m.sd → sideB side = true → ∀ c ∈ allC l side d m, c.sd = side ∧ c.fr = m.fr ∧ c.to_ = m.to_
  | 0, m, _, _, _, c, hc => by simp [allC] at hc
  | d + 1, m, hm, hle, hsb, c, hc => by
    cases h : l.all (canA m)
    · rw [allC_no h] at hc; simp at hc
    · by_cases h2 : m.sd = side
      · rw [allC_one h h2] at hc
        simp at hc
        subst hc
        exact ⟨h2, rfl, rfl⟩
      · rw [allC_ch h h2] at hc
        obtain ⟨p, hp, hcp⟩ := List.mem_flatMap.1 hc
        have hsd : sideB m.sd = true := by
          unfold cubeB at hm
          simp only [Bool.and_eq_true] at hm
          exact hm.1.1.1.1.1.1
        obtain ⟨g1, g2, g3, g4⟩ := ch_in hm (by omega) hp
        have hge := half_ge hsd hsb (by omega)
        obtain ⟨r1, r2, r3⟩ := allC_in l side hs d p g1 (by omega) hsb c hcp
        exact ⟨r1, r2.trans g3, r3.trans g4⟩

def ltC (a b : Cu) : Bool := decide (a.ws < b.ws ∨ a.ws = b.ws ∧ a.so < b.so)
theorem ltC_iff {a b : Cu} : ltC a b = true ↔ (a.ws < b.ws ∨ a.ws = b.ws ∧ a.so < b.so) := by simp only [ltC, decide_eq_true_eq]
theorem ltC_no {a b : Cu} : ltC a b = false ↔ ¬ (a.ws < b.ws ∨ a.ws = b.ws ∧ a.so < b.so) := by
  unfold ltC; rw [decide_eq_false_iff_not]
def srtd (L : List Cu) : Prop := L.Pairwise (fun x y => ltC y x = false)
def tieC (L : List Cu) : Prop := ∀ x ∈ L, ∀ y ∈ L, ltC x y = false → ltC y x = false → x = y
theorem srt_uniq : ∀ {A B : List Cu}, A.Perm B → srtd A → srtd B → tieC A → A = B
  | [], B, hp, _, _, _ => by rw [List.nil_perm.1 hp]
  | a :: A, [], hp, _, _, _ => by have := hp.length_eq; simp at this
  | a :: A, b :: B, hp, ha, hb, ht => by
    have ha' := List.pairwise_cons.1 ha
    have hb' := List.pairwise_cons.1 hb
    have hab : a = b := by
      have m1 : a ∈ b :: B := hp.mem_iff.1 (by simp)
      have m2 : b ∈ a :: A := hp.mem_iff.2 (by simp)
      rcases List.mem_cons.1 m1 with e | m1
      · exact e
      rcases List.mem_cons.1 m2 with e | m2
      · exact e.symm
      exact ht a (by simp) b (by simp [m2]) (hb'.1 a m1) (ha'.1 b m2)
    subst hab
    rw [srt_uniq (List.Perm.cons_inv hp) ha'.2 hb'.2 (fun x hx y hy => ht x (by simp [hx]) y (by simp [hy]))]
theorem ltC_trans' {a b c : Cu} (h1 : ltC b a = false) (h2 : ltC c b = false) : ltC c a = false := by
  rw [ltC_no] at h1 h2 ⊢; omega
/-- One cube put in its place. -/
theorem ins_srt {D : List Cu} {x : Cu} {k : Nat} (hk : k ≤ D.length) (hs : srtd D) (h1 : ∀ i y, k ≤ i → D[i]? = some y → ltC x y = true) (h2 : ∀ y, 0 < k → D[k - 1]? = some y → ltC x y = false) :
    srtd (D.take k ++ [x] ++ D.drop k) ∧ (D.take k ++ [x] ++ D.drop k).Perm (D ++ [x]) := by
  constructor
  · unfold srtd
    rw [List.append_assoc, List.pairwise_append]
    have hsp : srtd (D.take k ++ D.drop k) := by rw [List.take_append_drop]; exact hs
    unfold srtd at hsp
    rw [List.pairwise_append] at hsp
    refine ⟨hsp.1, ?_, ?_⟩
    · rw [List.singleton_append, List.pairwise_cons]
      refine ⟨fun y hy => ?_, hsp.2.1⟩
      obtain ⟨i, hi⟩ := List.getElem?_of_mem hy
      rw [List.getElem?_drop] at hi
      have := h1 (k + i) y (by omega) hi
      rw [ltC_iff] at this
      rw [ltC_no]; omega
    · intro y hy z hz
      rw [List.singleton_append, List.mem_cons] at hz
      rcases hz with rfl | hz
      · have hk0 : 0 < k := by
          rcases Nat.eq_zero_or_pos k with e | e
          · subst e; simp at hy
          · exact e
        obtain ⟨p, hp⟩ := some_get (show k - 1 < D.length by omega)
        have hl := h2 p hk0 hp
        obtain ⟨i, hi⟩ := List.getElem?_of_mem hy
        have hik : i < k := by
          have := (List.getElem?_eq_some_iff.1 hi).1
          simp at this; omega
        rw [List.getElem?_take_of_lt hik] at hi
        by_cases e : i = k - 1
        · subst e
          rw [hp] at hi; cases hi
          exact hl
        · have hle : ltC p y = false := by
            have hpw := List.pairwise_iff_getElem.1 hs i (k - 1) (List.getElem?_eq_some_iff.1 hi).1 (List.getElem?_eq_some_iff.1 hp).1 (by omega)
            rw [(List.getElem?_eq_some_iff.1 hi).2, (List.getElem?_eq_some_iff.1 hp).2] at hpw
            exact hpw
          exact ltC_trans' hle hl
      · exact hsp.2.2 y hy z hz
  · have : (D.take k ++ [x] ++ D.drop k).Perm (D.take k ++ (D.drop k ++ [x])) := by
      rw [List.append_assoc]
      exact List.Perm.append_left _ List.perm_append_comm
    rw [← List.append_assoc, List.take_append_drop] at this
    exact this
def insC (x : Cu) : List Cu → List Cu
  | [] => [x]
  | y :: ys => if ltC x y then x :: y :: ys else y :: insC x ys
theorem insC_perm (x : Cu) : ∀ L, (insC x L).Perm (x :: L)
  | [] => List.Perm.refl _
  | y :: ys => by
    unfold insC
    split
    · exact List.Perm.refl _
    · exact ((insC_perm x ys).cons y).trans (List.Perm.swap x y ys)
theorem insC_srt (x : Cu) : ∀ L, srtd L → srtd (insC x L)
  | [], _ => by simp [insC, srtd]
  | y :: ys, h => by
    have h' := List.pairwise_cons.1 h
    unfold insC
    split
    · rename_i hlt
      refine List.pairwise_cons.2 ⟨fun z hz => ?_, h⟩
      rw [ltC_iff] at hlt
      rcases List.mem_cons.1 hz with rfl | hz
      · rw [ltC_no]; omega
      · have := h'.1 z hz
        rw [ltC_no] at this ⊢; omega
    · rename_i hlt
      refine List.pairwise_cons.2 ⟨fun z hz => ?_, insC_srt x ys h'.2⟩
      rcases List.mem_cons.1 ((insC_perm x ys).mem_iff.1 hz) with rfl | hz
      · simpa using hlt
      · exact h'.1 z hz
def srtC (L : List Cu) : List Cu := L.foldl (fun acc x => insC x acc) []
theorem srtC_spec : ∀ (L acc : List Cu), srtd acc → srtd (L.foldl (fun acc x => insC x acc) acc) ∧ (L.foldl (fun acc x => insC x acc) acc).Perm (acc ++ L)
  | [], acc, h => ⟨h, by simp⟩
  | x :: L, acc, h => by
    obtain ⟨h1, h2⟩ := srtC_spec L (insC x acc) (insC_srt x acc h)
    refine ⟨h1, h2.trans ?_⟩
    have := (insC_perm x acc).append_right L
    exact this.trans (List.perm_middle.symm)
theorem srtC_len (L : List Cu) : (srtC L).length = L.length := by
  have := (srtC_spec L [] List.Pairwise.nil).2.length_eq
  unfold srtC
  simpa using this
theorem srt_law {L R : List Cu} (hp : R.Perm L) (hs : srtd R) (ht : tieC L) : R = srtC L := by
  obtain ⟨h1, h2⟩ := srtC_spec L [] List.Pairwise.nil
  rw [List.nil_append] at h2
  exact srt_uniq (hp.trans h2.symm) hs h1 (fun x hx y hy => ht x (hp.mem_iff.1 hx) y (hp.mem_iff.1 hy))
theorem tie_all {l : List Ar} {side : Int} {d : Nat} {m : Cu} (hs : 1 ≤ side) (hm : cubeB m = true) (hle : side ≤ m.sd) (hsb : sideB side = true) : tieC (allC l side d m) := fun x hx y hy h1 h2 => by
  obtain ⟨a1, a2, a3⟩ := allC_in l side hs d m hm hle hsb x hx
  obtain ⟨b1, b2, b3⟩ := allC_in l side hs d m hm hle hsb y hy
  rw [ltC_no] at h1 h2
  have e1 : x.ws = y.ws := by omega
  have e2 : x.so = y.so := by omega
  cases x; cases y
  simp at *
  omega
end Go.Proofs.YtaobbkiepggafaaGreat
