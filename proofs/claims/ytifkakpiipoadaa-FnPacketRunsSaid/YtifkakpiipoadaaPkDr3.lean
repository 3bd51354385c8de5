/-
  The draws of module packets: lists of packets.
-/
import Derived.Test.YtifkakpiipoadaaPkDr2
import Derived.Test.YtifkakpiipoadaaPkMark
import Derived.Test.YtifkakpiipoadaaPkAft
namespace Go.Proofs.Ytifkakpiipoadaa
set_option linter.unusedVariables false
set_option linter.unusedSimpArgs false
set_option linter.unnecessarySimpa false
open Go.RowKit
attribute [local go_sem] ext_cell ext_frozen

section
variable {base c : Nat} {w w' w3 : World} {A A3 : Option Addr} {L : List Pk}
theorem PkRes.draw {p : Nat} (h : PkRes base w A c L) (hg : w.grownBy w' (some p)) (hp : p < base) : PkRes base w' A c L :=
  ⟨own_dr h.out hg hp, fun m hm => by
    obtain ⟨b, e, e2, ho⟩ := h.ins m hm
    rw [e] at ho ⊢
    exact ⟨b, rfl, e2, own_dr ho hg hp⟩, h.far⟩
/-- A block that is newer than all of them. -/
theorem PkRes.far_ (h : PkRes base w A c L) {g : Nat} (hg : w.heap.size ≤ g) : some g ≠ (Value.slice A L.length c).ownBlock ∧ ∀ m ∈ L, m.A ≠ some ⟨g, 0, none⟩ := by
  refine ⟨fun e => by have := (h.out.lt g e.symm).2; omega, fun m hm e => ?_⟩
  obtain ⟨b, e1, _, ho⟩ := h.ins m hm
  rw [e1] at e ho
  have := (ho.lt b rfl).2
  simp only [Option.some.injEq, Addr.mk.injEq, and_true] at e
  omega
theorem PkRes.push2 {c3 g cs : Nat} {no : Int} {sm : List Int} (h : PkRes base w A c L) (hs : w.ownsRow base 3 1 (.slice (some ⟨g, 0, none⟩) sm.length cs) sm.length (sm.flatMap encI)) (hf : some g ≠ (Value.slice A L.length c).ownBlock ∧ ∀ m ∈ L, m.A ≠ some ⟨g, 0, none⟩)
    (ho3 : w3.ownsRow base 40 2 (.slice A3 (L.length + 1) c3) (L.length + 1) (L.flatMap encPk ++ encPk ⟨no, sm, some ⟨g, 0, none⟩, cs⟩)) (hg3 : w.grownBy w3 (Value.slice A L.length c).ownBlock)
    (hl3 : (Value.slice A L.length c).ownBlock = (Value.slice A3 (L.length + 1) c3).ownBlock ∨ some w.heap.size = (Value.slice A3 (L.length + 1) c3).ownBlock) : PkRes base w3 A3 c3 (L ++ [⟨no, sm, some ⟨g, 0, none⟩, cs⟩]) := by
  have key : ∀ b, b < w.heap.size → some b ≠ (Value.slice A L.length c).ownBlock → some b ≠ (Value.slice A3 (L.length + 1) c3).ownBlock := fun b hb1 hb2 e => by
    rcases hl3 with r | r
    · exact hb2 (e.trans r.symm)
    · rw [← e] at r
      cases r
      omega
  refine ⟨by simpa using ho3, fun p hp => ?_, ?_⟩
  · rw [List.length_append, List.length_singleton]
    rcases List.mem_append.1 hp with hp | hp
    · obtain ⟨b, e, e2, ho⟩ := h.ins p hp
      have hbl := (ho.lt b (by rw [e]; rfl)).2
      refine ⟨b, e, key b hbl e2, World.ownsRow.kept ho hg3 (.inr ?_)⟩
      rw [e]
      exact fun e3 => e2 e3
    · obtain rfl := List.mem_singleton.1 hp
      exact ⟨g, rfl, key g (hs.lt g rfl).2 hf.1, World.ownsRow.kept hs hg3 (.inr (fun e3 => hf.1 e3))⟩
  · rw [List.pairwise_append]
    refine ⟨h.far, by simp, fun p hp q hq => ?_⟩
    obtain rfl := List.mem_singleton.1 hq
    exact hf.2 p hp
end
theorem flat_setP : ∀ (N : List Pk) (k : Nat) (m' : Pk), k < N.length → (N.set k m').flatMap encPk = ((N.flatMap encPk).set (k * 2) (.int .i64 m'.no)).set (k * 2 + 1) (.slice m'.A m'.sm.length m'.c)
  | [], k, m', h => by simp at h
  | p :: N, 0, m', _ => by simp [encPk]
  | p :: N, k + 1, m', h => by
    have ih := flat_setP N k m' (by simpa using h)
    rw [List.set_cons_succ, List.flatMap_cons, List.flatMap_cons, ih, show (k + 1) * 2 = k * 2 + 1 + 1 by omega]
    rfl
/-- Two packets exchanged. -/
theorem PkRes.swap {base c g i j : Nat} {w : World} {L : List Pk} {a b : Pk} (h : PkRes base w (some ⟨g, 0, none⟩) c L) (hij : i < j) (ha : L[i]? = some a) (hb : L[j]? = some b) :
    PkRes base ((((w.setCell ⟨g, i * 2, none⟩ (.int .i64 b.no)).setCell ⟨g, i * 2 + 1, none⟩ (.slice b.A b.sm.length b.c)).setCell ⟨g, j * 2, none⟩ (.int .i64 a.no)).setCell ⟨g, j * 2 + 1, none⟩ (.slice a.A a.sm.length a.c)) (some ⟨g, 0, none⟩) c ((L.set i b).set j a) := by
  obtain ⟨hi, ra⟩ := List.getElem?_eq_some_iff.1 ha
  obtain ⟨hj, rb⟩ := List.getElem?_eq_some_iff.1 hb
  have s1 := (World.ownsRow.stored h.out (i * 2) (.int .i64 b.no)).1
  have s2 := (World.ownsRow.stored s1 (i * 2 + 1) (.slice b.A b.sm.length b.c)).1
  rw [← flat_setP L i b hi] at s2
  have s3 := (World.ownsRow.stored s2 (j * 2) (.int .i64 a.no)).1
  have s4 := (World.ownsRow.stored s3 (j * 2 + 1) (.slice a.A a.sm.length a.c)).1
  rw [← flat_setP (L.set i b) j a (by simpa using hj)] at s4
  have hg : w.grownBy ((((w.setCell ⟨g, i * 2, none⟩ (.int .i64 b.no)).setCell ⟨g, i * 2 + 1, none⟩ (.slice b.A b.sm.length b.c)).setCell ⟨g, j * 2, none⟩ (.int .i64 a.no)).setCell ⟨g, j * 2 + 1, none⟩ (.slice a.A a.sm.length a.c)) (some g) :=
    only_setCell (p := ⟨g, j * 2 + 1, none⟩) (only_setCell (p := ⟨g, j * 2, none⟩) (only_setCell (p := ⟨g, i * 2 + 1, none⟩) (only_setCell (p := ⟨g, i * 2, none⟩) (World.grownBy.refl w (some g)) (.inl rfl) _) (.inl rfl) _) (.inl rfl) _) (.inl rfl) _
  have hlen : ((L.set i b).set j a).length = L.length := by simp
  refine ⟨by rw [hlen]; exact s4, fun p hp => ?_, ?_⟩
  · have hp' : p ∈ L := by
      rcases List.mem_or_eq_of_mem_set hp with h1 | h1
      · rcases List.mem_or_eq_of_mem_set h1 with h2 | h2
        · exact h2
        · rw [h2]; exact List.mem_of_getElem? hb
      · rw [h1]; exact List.mem_of_getElem? ha
    obtain ⟨q, e, e2, ho⟩ := h.ins p hp'
    rw [hlen]
    exact ⟨q, e, e2, World.ownsRow.kept ho hg (.inr (by rw [e]; exact fun e3 => e2 (by simpa [Value.ownBlock] using e3)))⟩
  · rw [List.pairwise_iff_getElem]
    intro x y hx hy hxy
    have hget : ∀ (x : Nat) (hx : x < ((L.set i b).set j a).length), ∃ (x' : Nat) (hx' : x' < L.length), ((L.set i b).set j a)[x] = L[x'] ∧ (x = i → x' = j) ∧ (x = j → x' = i) ∧ (x ≠ i → x ≠ j → x' = x) := fun x hx => by
      by_cases h1 : x = j
      · subst h1
        exact ⟨i, hi, by rw [List.getElem_set_self, ra], by omega, by omega, by omega⟩
      · rw [List.getElem_set_ne (by omega)]
        by_cases h2 : x = i
        · subst h2
          exact ⟨j, hj, by rw [List.getElem_set_self, rb], by omega, by omega, by omega⟩
        · rw [List.getElem_set_ne (by omega)]
          exact ⟨x, by simpa using hx, rfl, by omega, by omega, by omega⟩
    obtain ⟨x', hx', ex, x1, x2, x3⟩ := hget x hx
    obtain ⟨y', hy', ey, y1, y2, y3⟩ := hget y hy
    rw [ex, ey]
    have hne : x' ≠ y' := by
      by_cases a1 : x = i <;> by_cases a2 : x = j <;> by_cases a3 : y = i <;> by_cases a4 : y = j <;> omega
    rcases Nat.lt_or_gt_of_ne hne with r | r
    · exact List.pairwise_iff_getElem.1 h.far x' y' hx' hy' r
    · exact fun e => List.pairwise_iff_getElem.1 h.far y' x' hy' hx' r e.symm
def few9 (L : List Pk) : Prop := ∀ m ∈ L, m.sm.length ≤ 9
theorem few9_tot : ∀ {L : List Pk}, few9 L → tot L ≤ 10 * L.length
  | [], _ => by simp [tot, totS]
  | m :: L, h => by
    have ih := few9_tot (L := L) (fun q hq => h q (by simp [hq]))
    have := h m (by simp)
    unfold tot at ih ⊢
    rw [totS_cons, List.length_cons]
    omega
theorem few9_one {L : List Pk} {m : Pk} (h : few9 L) (hm : m.sm.length ≤ 9) : few9 (L ++ [m]) := fun q hq => by
  rcases List.mem_append.1 hq with h1 | h1
  · exact h q h1
  · rw [List.mem_singleton.1 h1]; exact hm
theorem few9_swap {L : List Pk} {a b : Pk} {i j : Nat} (h : few9 L) (ha : L[i]? = some a) (hb : L[j]? = some b) : few9 ((L.set i b).set j a) := fun q hq => by
  rcases List.mem_or_eq_of_mem_set hq with h1 | h1
  · rcases List.mem_or_eq_of_mem_set h1 with h2 | h2
    · exact h q h2
    · rw [h2]; exact h b (List.mem_of_getElem? hb)
  · rw [h1]; exact h a (List.mem_of_getElem? ha)
theorem heap_newS (w : World) (p : Addr) (u : Value) (o : Obj) : ((w.setCell p u).alloc o).heap[w.heap.size]? = some o := by
  have h := heap_new1 (w.setCell p u) o
  have e : (w.setCell p u).heap.size = w.heap.size := by simp
  rwa [e] at h
theorem PkRes.apart {base c q : Nat} {w w' : World} {A : Option Addr} {L : List Pk} (h : PkRes base w A c L) (hg : w.grownBy w' (some q)) (hf : some q ≠ (Value.slice A L.length c).ownBlock ∧ ∀ m ∈ L, m.A ≠ some ⟨q, 0, none⟩) : PkRes base w' A c L :=
  ⟨World.ownsRow.kept h.out hg (.inr (fun e => hf.1 e.symm)), fun m hm => by
    obtain ⟨b, e, e2, ho⟩ := h.ins m hm
    refine ⟨b, e, e2, World.ownsRow.kept ho hg (.inr (fun e3 => hf.2 m hm ?_))⟩
    rw [e] at e3 ⊢
    simpa [Value.ownBlock] using e3, h.far⟩
/-- A packet was drawn: its struct lies in block q, its samples in block g, neither of them the list's. -/
structure PkLp (w0 w W : World) (p : Nat) (A : Option Addr) (n c K : Nat) (A' : Option Addr) (c' : Nat) (L : List Pk) (q : Nat) (no : Int) (sm : List Int) (g cs : Nat) : Prop where
  dr : Dr w0 W p A n c K
  only : w.grownBy W (some p)
  res : PkRes w.heap.size W A' c' L
  row : W.ownsRow w.heap.size 3 1 (.slice (some ⟨g, 0, none⟩) sm.length cs) sm.length (sm.flatMap encI)
  box : Box2 W q (.int .i64 no) (.slice (some ⟨g, 0, none⟩) sm.length cs)
  far : some g ≠ (Value.slice A' L.length c').ownBlock ∧ ∀ m ∈ L, m.A ≠ some ⟨g, 0, none⟩
  farq : some q ≠ (Value.slice A' L.length c').ownBlock ∧ ∀ m ∈ L, m.A ≠ some ⟨q, 0, none⟩
  gq : g ≠ q ∧ w.heap.size ≤ q
/-- The packet lies in the list, and its struct still in block q. -/
structure PkLq (w0 w W : World) (p : Nat) (A : Option Addr) (n c K : Nat) (A' : Option Addr) (c' : Nat) (L : List Pk) (q : Nat) (no : Int) (sm : List Int) (g cs : Nat) : Prop where
  dr : Dr w0 W p A n c K
  only : w.grownBy W (some p)
  res : PkRes w.heap.size W A' c' L
  row : RowAt 1 encI W (some ⟨g, 0, none⟩) sm
  box : Box2 W q (.int .i64 no) (.slice (some ⟨g, 0, none⟩) sm.length cs)
  farq : some q ≠ (Value.slice A' L.length c').ownBlock ∧ w.heap.size ≤ q
  gp : g ≠ p
section
variable {w0 w W W' : World} {p : Nat} {A A' A3 : Option Addr} {n c K K' K0 q c' c3 : Nat} {no : Int} {sm : List Int} {g cs : Nat} {L : List Pk}
theorem PkLp.draw (h : PkLp w0 w W p A n c K A' c' L q no sm g cs) (hd : Dr w0 W' p A n c K') (hg : W.grownBy W' (some p)) (hp : p < w.heap.size) : PkLp w0 w W' p A n c K' A' c' L q no sm g cs :=
  ⟨hd, only_two h.only hg, h.res.draw hg hp, own_dr h.row hg hp, h.box.moved hg (by have := h.gq.2; simp; omega), h.far, h.farq, h.gq⟩
theorem PkLp.below (h : PkLp w0 w W p A n c K A' c' L q no sm g cs) (hb : Below W.heap.size W W') : PkLp w0 w W' p A n c K A' c' L q no sm g cs :=
  ⟨h.dr.below hb, only_two h.only (only_of_below hb _), h.res.below hb, own_below h.row hb, h.box.moved (only_of_below hb none) (by simp), h.far, h.farq, h.gq⟩
theorem PkLp.number (h : PkLp w0 w W p A n c K A' c' L q no sm g cs) (h0 : Dr w0 w p A n c K0) (v : Int) : PkLp w0 w (W.setCell ⟨q, 0, none⟩ (.int .i64 v)) p A n c K A' c' L q v sm g cs := by
  have hb : Below w.heap.size W (W.setCell ⟨q, 0, none⟩ (.int .i64 v)) := (Below.refl _ _).setCell (p := ⟨q, 0, none⟩) h.gq.2 _
  have hst : W.grownBy (W.setCell ⟨q, 0, none⟩ (.int .i64 v)) (some q) := only_setCell (World.grownBy.refl W (some q)) (.inl rfl) _
  refine ⟨h0.above h.dr hb, only_above h.only hb, h.res.apart hst h.farq, World.ownsRow.kept h.row hst (.inr ?_), h.box.set0 _, h.far, h.farq, h.gq⟩
  have := h.gq.1
  simp [Value.ownBlock]
  omega
theorem PkLp.push (h : PkLp w0 w W p A n c K A' c' L q no sm g cs) (h0 : Dr w0 w p A n c K0) (ho3 : W'.ownsRow w.heap.size 40 2 (.slice A3 (L.length + 1) c3) (L.length + 1) (L.flatMap encPk ++ encPk ⟨no, sm, some ⟨g, 0, none⟩, cs⟩)) (hg3 : W.grownBy W' (Value.slice A' L.length c').ownBlock)
    (hl3 : (Value.slice A' L.length c').ownBlock = (Value.slice A3 (L.length + 1) c3).ownBlock ∨ some W.heap.size = (Value.slice A3 (L.length + 1) c3).ownBlock) (hp : p < w.heap.size) : PkLq w0 w W' p A n c K A3 c3 (L ++ [⟨no, sm, some ⟨g, 0, none⟩, cs⟩]) q no sm g cs := by
  have hb : Below w.heap.size W W' := (Below.refl _ _).grown hg3 h.only.size (fun k hk => row_mine h.res.out k hk)
  have hres := h.res.push2 h.row h.far ho3 hg3 hl3
  have hgl := (h.row.lt g rfl)
  refine ⟨h0.above h.dr hb, only_above h.only hb, hres, hres.at_.2 ⟨no, sm, some ⟨g, 0, none⟩, cs⟩ (by simp), h.box.moved hg3 h.farq.1, ⟨?_, h.gq.2⟩, by omega⟩
  rw [List.length_append, List.length_singleton]
  rcases hl3 with r | r
  · rw [← r]; exact h.farq.1
  · rw [← r]
    have := h.box.1
    simp
    omega
theorem PkLq.draw (h : PkLq w0 w W p A n c K A' c' L q no sm g cs) (hd : Dr w0 W' p A n c K') (hg : W.grownBy W' (some p)) (hp : p < w.heap.size) : PkLq w0 w W' p A n c K' A' c' L q no sm g cs :=
  ⟨hd, only_two h.only hg, h.res.draw hg hp, fun hne => by
    obtain ⟨b, off, e, hb, hc⟩ := h.row hne
    cases e
    exact ⟨g, 0, rfl, Nat.lt_of_lt_of_le hb hg.size, fun i m hi j u hj => (hg.cell_far ⟨g, 0 + (i * 1 + j), none⟩ hb (by have := h.gp; simp; omega)).trans (hc i m hi j u hj)⟩, h.box.moved hg (by have := h.farq.2; simp; omega), h.farq, h.gp⟩
end
end Go.Proofs.Ytifkakpiipoadaa
