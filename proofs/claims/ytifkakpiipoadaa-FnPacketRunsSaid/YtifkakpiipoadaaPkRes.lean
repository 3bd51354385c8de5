/-
  Packets in memory of a call's own, as a result: the laws' marks over them and what the marks are read back as; copies.
-/
import Derived.Test.YtifkakpiipoadaaPk0
import Derived.Test.YtifkakpiipoadaaPkGood
import Derived.Test.YtifkakpiipoadaaPkMark
import Derived.Test.YtifkakpiipoadaaApp
namespace Go.Proofs.Ytifkakpiipoadaa
set_option linter.unusedVariables false
set_option linter.unusedSimpArgs false
set_option linter.unnecessarySimpa false
open Go.RowKit
attribute [local go_sem] ext_cell ext_frozen

/-- Packets in memory of a call's own: no two share a block, and none shares the row's. -/
structure PkRes (base : Nat) (w : World) (A : Option Addr) (c : Nat) (l : List Pk) : Prop where
  out : w.ownsRow base 40 2 (.slice A l.length c) l.length (l.flatMap encPk)
  ins : ∀ p ∈ l, ∃ h, p.A = some ⟨h, 0, none⟩ ∧ some h ≠ (Value.slice A l.length c).ownBlock ∧ w.ownsRow base 3 1 (.slice p.A p.sm.length p.c) p.sm.length (p.sm.flatMap encI)
  far : l.Pairwise fun p q => p.A ≠ q.A
theorem PkRes.nil_ (base : Nat) (w : World) : PkRes base w none 0 [] := ⟨World.ownsRow_nil _ _ _ _, fun p hp => by simp at hp, List.Pairwise.nil⟩
theorem PkRes.at_ {base c : Nat} {w : World} {A : Option Addr} {l : List Pk} (h : PkRes base w A c l) : PkAt w A l :=
  ⟨RowAt.of_own h.out encPk_len (by omega), fun p hp => by
    obtain ⟨b, _, _, ho⟩ := h.ins p hp
    exact RowAt.of_own ho encI_len (by omega)⟩
theorem PkRes.below {base c : Nat} {w w' : World} {A : Option Addr} {l : List Pk} (h : PkRes base w A c l) (hb : Below w.heap.size w w') : PkRes base w' A c l :=
  ⟨own_below h.out hb, fun p hp => by
    obtain ⟨b, e, e2, ho⟩ := h.ins p hp
    exact ⟨b, e, e2, own_below ho hb⟩, h.far⟩
theorem PkRes.base_ {base base' c : Nat} {w : World} {A : Option Addr} {l : List Pk} (h : PkRes base w A c l) (hb : base' ≤ base) : PkRes base' w A c l :=
  ⟨own_base h.out hb, fun p hp => by
    obtain ⟨b, e, e2, ho⟩ := h.ins p hp
    exact ⟨b, e, e2, own_base ho hb⟩, h.far⟩
/-- One packet more, its samples in a block that is new. -/
theorem PkRes.push {base c c3 g cs q : Nat} {w0 w w3 : World} {A A3 : Option Addr} {L : List Pk} {no : Int} {sm : List Int} (h : PkRes base w0 A c L) (h0 : w0.heap.size ≤ g) (hb : Below w0.heap.size w0 w) (hgw : g < q) (hq : w.heap.size ≤ q)
    (hs : w.ownsRow base 3 1 (.slice (some ⟨g, 0, none⟩) sm.length cs) sm.length (sm.flatMap encI))
    (ho3 : w3.ownsRow base 40 2 (.slice A3 (L.length + 1) c3) (L.length + 1) (L.flatMap encPk ++ encPk ⟨no, sm, some ⟨g, 0, none⟩, cs⟩)) (hg3 : w.grownBy w3 (Value.slice A L.length c).ownBlock)
    (hl3 : (Value.slice A L.length c).ownBlock = (Value.slice A3 (L.length + 1) c3).ownBlock ∨ some q = (Value.slice A3 (L.length + 1) c3).ownBlock) : PkRes base w3 A3 c3 (L ++ [⟨no, sm, some ⟨g, 0, none⟩, cs⟩]) := by
  have hA : ∀ b, (Value.slice A L.length c).ownBlock = some b → b < w0.heap.size := fun b hb => (h.out.lt b hb).2
  have key : ∀ b, b < w0.heap.size → some b ≠ (Value.slice A L.length c).ownBlock → some b ≠ (Value.slice A3 (L.length + 1) c3).ownBlock := fun b hb1 hb2 e => by
    rcases hl3 with r | r
    · exact hb2 (e.trans r.symm)
    · have := hb.size
      rw [← e] at r
      cases r
      omega
  have hgA : some g ≠ (Value.slice A L.length c).ownBlock := fun e => by have := hA g e.symm; omega
  have hgA3 : some g ≠ (Value.slice A3 (L.length + 1) c3).ownBlock := fun e => by
    rcases hl3 with r | r
    · exact hgA (e.trans r.symm)
    · rw [← e] at r
      cases r
      omega
  refine ⟨by simpa using ho3, fun p hp => ?_, ?_⟩
  · rw [List.length_append, List.length_singleton]
    rcases List.mem_append.1 hp with hp | hp
    · obtain ⟨b, e, e2, ho⟩ := h.ins p hp
      have hbl := (ho.lt b (by rw [e]; rfl)).2
      refine ⟨b, e, key b hbl e2, World.ownsRow.kept (own_below ho hb) hg3 (.inr ?_)⟩
      rw [e]
      exact fun e3 => e2 e3
    · obtain rfl := List.mem_singleton.1 hp
      exact ⟨g, rfl, hgA3, World.ownsRow.kept hs hg3 (.inr (fun e3 => hgA e3))⟩
  · rw [List.pairwise_append]
    refine ⟨h.far, by simp, fun p hp q hq => ?_⟩
    obtain rfl := List.mem_singleton.1 hq
    obtain ⟨b, e1, _, ho⟩ := h.ins p hp
    have := (ho.lt b (by rw [e1]; rfl)).2
    rw [e1]
    intro e
    simp only [Option.some.injEq, Addr.mk.injEq, and_true] at e
    omega
theorem flat_setPk : ∀ (N : List Pk) (k : Nat) (m m' : Pk), N[k]? = some m → m'.A = m.A → m'.sm.length = m.sm.length → m'.c = m.c → (N.set k m').flatMap encPk = (N.flatMap encPk).set (k * 2) (.int .i64 m'.no)
  | [], k, m, m', h, _, _, _ => by simp at h
  | p :: N, 0, m, m', h, h1, h2, h3 => by
    simp only [List.getElem?_cons_zero, Option.some.injEq] at h
    subst h
    simp [encPk, h1, h2, h3]
  | p :: N, k + 1, m, m', h, h1, h2, h3 => by
    have ih := flat_setPk N k m m' (by simpa using h) h1 h2 h3
    rw [List.set_cons_succ, List.flatMap_cons, List.flatMap_cons, ih, show (k + 1) * 2 = k * 2 + 1 + 1 by omega]
    rfl
/-- One packet turned: its number, and its samples in their own block. -/
theorem PkRes.turn {base c g b : Nat} {w w1 w2 : World} {N : List Pk} {k : Nat} {m m' : Pk} (h : PkRes base w (some ⟨g, 0, none⟩) c N) (hm : N[k]? = some m) (e1 : m'.A = m.A) (e2 : m'.sm.length = m.sm.length) (e3 : m'.c = m.c) (hb : m.A = some ⟨b, 0, none⟩)
    (hw1 : w1 = w.setCell ⟨g, k * 2, none⟩ (.int .i64 m'.no)) (hg : w1.grownBy w2 (some b)) (ho : w2.ownsRow base 3 1 (.slice (some ⟨b, 0, none⟩) m.sm.length m.c) m.sm.length (m'.sm.flatMap encI)) : PkRes base w2 (some ⟨g, 0, none⟩) c (N.set k m') := by
  have hk : k < N.length := (List.getElem?_eq_some_iff.1 hm).1
  have hst := (World.ownsRow.stored h.out (k * 2) (.int .i64 m'.no)).1
  have hg1 : w.grownBy w1 (some g) := by rw [hw1]; exact only_setCell (World.grownBy.refl w (some g)) (.inl rfl) _
  obtain ⟨b', hb', hne, hoo⟩ := h.ins m (List.mem_of_getElem? hm)
  rw [hb] at hb'
  cases hb'
  have hne' : b ≠ g := fun e => hne (by subst e; rfl)
  have far2 : ∀ (i : Nat) (p : Pk), N[i]? = some p → i ≠ k → p.A ≠ some ⟨b, 0, none⟩ := fun i p hp hik e => by
    obtain ⟨l1, q1⟩ := List.getElem?_eq_some_iff.1 hp
    obtain ⟨l2, q2⟩ := List.getElem?_eq_some_iff.1 hm
    rcases Nat.lt_or_gt_of_ne hik with h1 | h1
    · have := List.pairwise_iff_getElem.1 h.far i k l1 l2 h1
      rw [q1, q2, hb, e] at this
      exact this rfl
    · have := List.pairwise_iff_getElem.1 h.far k i l2 l1 h1
      rw [q1, q2, hb, e] at this
      exact this rfl
  refine ⟨?_, fun p hp => ?_, ?_⟩
  · rw [flat_setPk N k m m' hm e1 e2 e3, List.length_set]
    refine World.ownsRow.kept (w := w1) (by rw [hw1]; exact hst) hg (.inr ?_)
    simp [Value.ownBlock]
    omega
  · rw [List.length_set]
    obtain ⟨i, hi⟩ := List.mem_iff_getElem?.1 hp
    by_cases hik : i = k
    · subst hik
      rw [List.getElem?_set_self hk] at hi
      cases hi
      exact ⟨b, e1.trans hb, hne, by rw [e1, e2, e3, hb]; exact ho⟩
    · rw [List.getElem?_set_ne (by omega)] at hi
      obtain ⟨q, f1, f2, f3⟩ := h.ins p (List.mem_of_getElem? hi)
      refine ⟨q, f1, f2, ?_⟩
      have n1 : q ≠ g := fun e => f2 (by subst e; rfl)
      have n2 : q ≠ b := fun e => far2 i p hi hik (by rw [f1, e])
      rw [f1] at f3 ⊢
      exact World.ownsRow.kept (World.ownsRow.kept f3 hg1 (.inr (by simp [Value.ownBlock]; omega))) hg (.inr (by simp [Value.ownBlock]; omega))
  · rw [List.pairwise_iff_getElem]
    intro i j hi hj hij
    have hA : ∀ (i : Nat) (hi : i < (N.set k m').length), ((N.set k m')[i]).A = (N[i]'(by simpa using hi)).A := fun i hi => by
      by_cases hik : k = i
      · subst hik
        rw [List.getElem_set_self, e1]
        rw [List.getElem?_eq_some_iff] at hm
        obtain ⟨_, hm⟩ := hm
        rw [hm]
      · rw [List.getElem_set_ne hik]
    rw [hA i hi, hA j hj]
    exact List.pairwise_iff_getElem.1 h.far i j _ _ hij

def mkAt (L : List Pk) (i : Nat) (m : Pk) : Pk := ⟨1 + (i : Int) + totS (L.take i), marksI (1 + (i : Int) + totS (L.take i) + 1) m.sm.length, m.A, m.c⟩
def mkTo (L : List Pk) (k : Nat) : List Pk := L.mapIdx fun i m => if i < k then mkAt L i m else m
theorem mkTo_len (L : List Pk) (k : Nat) : (mkTo L k).length = L.length := by simp [mkTo]
theorem mkTo_zero (L : List Pk) : mkTo L 0 = L := by
  apply List.ext_getElem?
  intro i
  rw [mkTo, List.getElem?_mapIdx]
  cases L[i]? <;> simp
theorem mkTo_get {L : List Pk} {k i : Nat} {m : Pk} (h : L[i]? = some m) : (mkTo L k)[i]? = some (if i < k then mkAt L i m else m) := by
  rw [mkTo, List.getElem?_mapIdx, h]; rfl
theorem mkTo_succ {L : List Pk} {k : Nat} {m : Pk} (h : L[k]? = some m) : mkTo L (k + 1) = (mkTo L k).set k (mkAt L k m) := by
  apply List.ext_getElem?
  intro i
  by_cases hik : k = i
  · subst hik
    rw [mkTo_get h, if_pos (by omega), List.getElem?_set_self (by rw [mkTo_len]; exact (List.getElem?_eq_some_iff.1 h).1)]
  · rw [List.getElem?_set_ne hik]
    cases hl : L[i]? with
    | none => rw [List.getElem?_eq_none, List.getElem?_eq_none] <;> rw [mkTo_len] <;> exact List.getElem?_eq_none_iff.1 hl
    | some m' =>
      rw [mkTo_get hl, mkTo_get hl]
      have : (i < k + 1) ↔ i < k := by omega
      simp [this]
def markPk (L : List Pk) : List Pk := mkTo L L.length
theorem markPk_get {L : List Pk} {i : Nat} {m : Pk} (h : L[i]? = some m) : (markPk L)[i]? = some (mkAt L i m) := by
  rw [markPk, mkTo_get h, if_pos (List.getElem?_eq_some_iff.1 h).1]

set_option maxHeartbeats 2000000 in
theorem markPkR_any (L : List Pk) (A : Option Addr) (c base : Nat) (w : World) (ho : PkRes base w A c L) (hbs : base ≤ w.heap.size) (htot : tot L ≤ 2097152) :
    Calls Try.prog 23 #[.slice A L.length c, .int .i64 1] w fun e w' => e = .returned (.int .i64 (1 + tot L)) ∧ PkRes base w' A c (markPk L) ∧ Below base w w' := by
  have HP := Lib.hid ho
  have HT := Lib.hid htot
  have hLl : L.length ≤ 2097152 := by unfold tot at htot; omega
  unfold tot
  clear ho htot
  go_enter Try.func23, Try.ntmps23
  go_wp2_with fail
  go_loopw [1, 5] (fun kv i wr => ∃ (k : Nat) (K : Int), k ≤ L.length ∧ i = .int .i64 k ∧ kv = .int .i64 K ∧ Hid (K = 1 + (k : Int) + totS (L.take k)) ∧ (0 ≤ K ∧ K ≤ 10000000) ∧ Hid (PkRes base wr A c (mkTo L k)) ∧ Hid (Below base w wr)) (fun _ i _ => L.length - (intOf i).toNat)
  case atStart => exact ⟨0, 1, Nat.zero_le _, rfl, rfl, Lib.hid (by simp [totS]), ⟨by omega, by omega⟩, Lib.hid (by rw [mkTo_zero]; exact HP.out), Lib.hid (Below.refl _ _)⟩
  case round =>
    obtain ⟨k, K, hk, rfl, rfl, HK, ⟨hK0, hK1⟩, HR, HB⟩ := hrel
    by_cases hlt : k < L.length
    · obtain ⟨m, hm⟩ := some_get hlt
      have i0 := ib0 k
      have i1 := ib1 hlt
      have hown := HR.out.out
      rw [mkTo_len] at hown
      obtain ⟨g, rfl⟩ : ∃ g, A = some ⟨g, 0, none⟩ := by
        rcases own_form hown with ⟨_, h0, _⟩ | h
        · omega
        · exact h
      have hmk : (mkTo L k)[k]? = some m := by rw [mkTo_get hm, if_neg (by omega)]
      obtain ⟨b, e1, e2, hin⟩ := HR.out.ins m (List.mem_of_getElem? hmk)
      have hbg : b ≠ g := fun e => e2 (by subst e; rfl)
      obtain ⟨o0, r0⟩ := own_cell hown (j := k * 2) (by omega)
      have r1 : wr.cell? ⟨g, k * 2 + 1, none⟩ = some (.slice m.A m.sm.length m.c) := by
        rw [hown.cellAt (k * 2 + 1) (by omega)]
        exact flat_get encPk_len _ k m hmk 1 _ rfl
      have z0 := hown.frozenAt (k * 2)
      rw [e1] at r1 hin
      have hgl := (hown.lt g rfl)
      have hbl := (hin.lt b rfl)
      have HM := Lib.hid hm
      have HMK := Lib.hid hmk
      have hsm : m.sm.length ≤ 2097152 := by have := totS_mem (List.mem_of_getElem? hm); have := HT.out; unfold tot at this; omega
      have hg1 : wr.grownBy (wr.setCell ⟨g, k * 2, none⟩ (.int .i64 K)) (some g) := only_setCell (World.grownBy.refl wr (some g)) (.inl rfl) _
      have HIN2 := Lib.hid (World.ownsRow.kept hin hg1 (.inr (by simp [Value.ownBlock]; omega)))
      have HG1 := Lib.hid hg1
      clear hm hmk hin hg1 hown
      go_wp2_with (go_at_call 24; (with_reducible refine (markIS_any (K + 1) (some ⟨b, 0, none⟩) m.sm.length m.c base (m.sm.flatMap encI) _ HIN2.out (by omega) (by omega) hsm).mono ?_); rintro e w1 ⟨rfl, hom, hgm⟩)
      go_roundw
      case rel =>
        have hgm' : (wr.setCell ⟨g, k * 2, none⟩ (.int .i64 K)).grownBy w1 (some b) := hgm
        have hKe : (mkAt L k m).no = K := by rw [HK.out]; rfl
        refine ⟨k + 1, K + 1 + (m.sm.length : Int), by omega, by go_num, by first | rfl | go_num, Lib.hid ?_, ?_, Lib.hid ?_, Lib.hid ?_⟩
        · have := HK.out; have h2 := totS_succ HM.out; omega
        · have h2 := totS_succ HM.out; have h3 := totS_take_le L (k + 1); have := HT.out; unfold tot at this; have := HK.out; omega
        · rw [mkTo_succ HM.out]
          refine PkRes.turn (m' := mkAt L k m) HR.out HMK.out rfl (by simp [mkAt, marksI_len]) rfl e1 (by rw [hKe]) hgm' ?_
          have : (mkAt L k m).sm = marksI (K + 1) m.sm.length := by rw [HK.out]; rfl
          rw [this]
          exact hom
        · have hbs1 := Nat.le_trans hbs HB.out.size
          exact (HB.out.grown HG1.out hbs1 (fun k hk => by cases hk; exact hgl.1)).grown hgm' (Nat.le_trans hbs1 HG1.out.size) (fun k hk => by cases hk; exact hbl.1)
      case measure => simp [intOf]; omega
    · obtain rfl : k = L.length := by omega
      have HF := Lib.hid (show K = 1 + ((L.length + totS L : Nat) : Int) by have := HK.out; rw [List.take_length] at this; omega)
      go_wp2
      go_ret
      exact ⟨ret_int HF.out, HR.out, HB.out⟩

set_option maxHeartbeats 2000000 in
theorem heldPkR_any (L : List Pk) (A : Option Addr) (c : Nat) (w : World) (hr : PkAt w A (markPk L)) (htot : tot L ≤ 2097152) :
    Calls Try.prog 32 #[.slice A L.length c, .int .i64 1] w fun e w' => e = .returned (.int .i64 (1 + tot L)) ∧ w = w' := by
  have HP := Lib.hid hr
  have HT := Lib.hid htot
  have hLl : L.length ≤ 2097152 := by unfold tot at htot; omega
  unfold tot
  clear hr htot
  go_enter Try.func32, Try.ntmps32
  go_wp2_with fail
  go_loop [1, 5] (fun kv i => ∃ (k : Nat) (K : Int), k ≤ L.length ∧ i = .int .i64 k ∧ kv = .int .i64 K ∧ Hid (K = 1 + (k : Int) + totS (L.take k)) ∧ (0 ≤ K ∧ K ≤ 10000000)) (fun _ i => L.length - (intOf i).toNat)
  case atStart => exact ⟨0, 1, Nat.zero_le _, rfl, rfl, Lib.hid (by simp [totS]), ⟨by omega, by omega⟩⟩
  case round =>
    obtain ⟨k, K, hk, rfl, rfl, HK, ⟨hK0, hK1⟩⟩ := hrel
    by_cases hlt : k < L.length
    · obtain ⟨m, hm⟩ := some_get hlt
      have i0 := ib0 k
      have i1 := ib1 hlt
      obtain ⟨b, off, rfl, hb, q0, q1, hs⟩ := HP.out.pk (markPk_get hm)
      have hKe : (mkAt L k m).no = K := by rw [HK.out]; rfl
      have hSe : (mkAt L k m).sm = marksI (K + 1) m.sm.length := by rw [HK.out]; rfl
      rw [hKe] at q0
      rw [hSe, marksI_len] at q1
      rw [hSe] at hs
      have HM := Lib.hid hm
      have hsm : m.sm.length ≤ 2097152 := by have := totS_mem (List.mem_of_getElem? hm); have := HT.out; unfold tot at this; omega
      have HH := Lib.hid (heldIS_any (K + 1) (mkAt L k m).A m.sm.length (mkAt L k m).c w hs (by omega) (by omega) hsm)
      have hnn : ¬ K + 1 + (m.sm.length : Int) < 0 := by omega
      clear hm hs hKe hSe
      go_wp2_with (go_at_call 25; (with_reducible refine (HH.out).mono ?_); rintro e w' ⟨rfl, rfl⟩)
      go_round
      case rel =>
        refine ⟨k + 1, K + 1 + (m.sm.length : Int), by omega, by go_num, by first | rfl | go_num, Lib.hid ?_, ?_⟩
        · have := HK.out; have h2 := totS_succ HM.out; omega
        · have h2 := totS_succ HM.out; have h3 := totS_take_le L (k + 1); have := HT.out; unfold tot at this; have := HK.out; omega
      case measure => simp [intOf]; omega
    · obtain rfl : k = L.length := by omega
      have HF := Lib.hid (show K = 1 + ((L.length + totS L : Nat) : Int) by have := HK.out; rw [List.take_length] at this; omega)
      go_wp2
      go_ret
      exact ⟨ret_int HF.out, rfl⟩

set_option maxHeartbeats 1000000 in
theorem l1Own_any (l : List Int) (A : Option Addr) (c : Nat) (w : World) (hr : RowAt 1 encI w A l) (hlen : l.length ≤ 2097152) :
    Calls Try.prog 69 #[.slice A l.length c] w fun e w' => ∃ g c', e = .returned (.slice (some ⟨g, 0, none⟩) l.length c') ∧ w'.ownsRow w.heap.size 3 1 (.slice (some ⟨g, 0, none⟩) l.length c') l.length (l.flatMap encI) ∧ Below w.heap.size w w' := by
  have HR := Lib.hid hr
  clear hr
  go_enter Try.func69, Try.ntmps69
  go_wp2_with (at_builtin; refine wpList_appS rfl _ _ 29 3 1 8 _ rfl Try.underlying29 infoI rfl (by decide) w.heap.size _ 0 [] (by rfl) (own_empty (heap_new1 _ _) (Nat.le_refl _)) _ _ _ (l.flatMap encI) (by rfl) (flat_len encI_len l) ((RowAt.below HR.out (balloc (bref _) _)).news encI_len) (cellsI_one l) l.length (Nat.zero_add _) _ (List.nil_append _) (by omega) (by decide) (by simp) ?_; intro A1 c1 w1 ho1 hg1 hl1)
  go_ret
  obtain ⟨g, rfl⟩ : ∃ g, A1 = some ⟨g, 0, none⟩ := by
    rcases own_form ho1 with ⟨rfl, _, _⟩ | h
    · simp [Value.ownBlock] at hl1
    · exact h
  exact ⟨g, c1, rfl, ho1, bgrown (balloc (bref _) _) hg1 (by intro k hk; simp [Value.ownBlock] at hk; omega)⟩
set_option maxHeartbeats 1000000 in
theorem copyI_any (l : List Int) (A : Option Addr) (c : Nat) (w : World) (hr : RowAt 1 encI w A l) (hlen : l.length ≤ 2097152) :
    Calls Try.prog 72 #[.slice A l.length c] w fun e w' => ∃ g c', e = .returned (.slice (some ⟨g, 0, none⟩) l.length c') ∧ w'.ownsRow w.heap.size 3 1 (.slice (some ⟨g, 0, none⟩) l.length c') l.length (l.flatMap encI) ∧ Below w.heap.size w w' := by
  have HR := Lib.hid hr
  clear hr
  go_enter Try.func72, Try.ntmps72
  go_wp2_with (at_builtin; refine wpList_appS rfl _ _ 29 3 1 8 _ rfl Try.underlying29 infoI rfl (by decide) w.heap.size _ 0 [] (by rfl) (own_empty (heap_new1 _ _) (Nat.le_refl _)) _ _ _ (l.flatMap encI) (by rfl) (flat_len encI_len l) ((RowAt.below HR.out (balloc (bref _) _)).news encI_len) (cellsI_one l) l.length (Nat.zero_add _) _ (List.nil_append _) (by omega) (by decide) (by simp) ?_; intro A1 c1 w1 ho1 hg1 hl1)
  go_ret
  obtain ⟨g, rfl⟩ : ∃ g, A1 = some ⟨g, 0, none⟩ := by
    rcases own_form ho1 with ⟨rfl, _, _⟩ | h
    · simp [Value.ownBlock] at hl1
    · exact h
  exact ⟨g, c1, rfl, ho1, bgrown (balloc (bref _) _) hg1 (by intro k hk; simp [Value.ownBlock] at hk; omega)⟩
set_option maxHeartbeats 1000000 in
theorem copyPk_any (l : List Pk) (A : Option Addr) (c : Nat) (w : World) (hr : RowAt 2 encPk w A l) (hlen : l.length ≤ 2097152) :
    Calls Try.prog 71 #[.slice A l.length c] w fun e w' => ∃ g c', e = .returned (.slice (some ⟨g, 0, none⟩) l.length c') ∧ w'.ownsRow w.heap.size 40 2 (.slice (some ⟨g, 0, none⟩) l.length c') l.length (l.flatMap encPk) ∧ Below w.heap.size w w' := by
  have HR := Lib.hid hr
  clear hr
  go_enter Try.func71, Try.ntmps71
  go_wp2_with (at_builtin; refine wpList_appS rfl _ _ 25 40 2 32 _ rfl Try.underlying25 infoPk rfl (by decide) w.heap.size _ 0 [] (by rfl) (own_empty (heap_new1 _ _) (Nat.le_refl _)) _ _ _ (l.flatMap encPk) (by rfl) (flat_len encPk_len l) ((RowAt.below HR.out (balloc (bref _) _)).news encPk_len) (cellsPk_one l) l.length (Nat.zero_add _) _ (List.nil_append _) (by omega) (by decide) (by simp) ?_; intro A1 c1 w1 ho1 hg1 hl1)
  go_ret
  obtain ⟨g, rfl⟩ : ∃ g, A1 = some ⟨g, 0, none⟩ := by
    rcases own_form ho1 with ⟨rfl, _, _⟩ | h
    · simp [Value.ownBlock] at hl1
    · exact h
  exact ⟨g, c1, rfl, ho1, bgrown (balloc (bref _) _) hg1 (by intro k hk; simp [Value.ownBlock] at hk; omega)⟩
end Go.Proofs.Ytifkakpiipoadaa
