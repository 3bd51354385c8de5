/-
  Rows of ints in memory of a call's own, as a result: the laws' marks over them and what the marks are read back as.
-/
import Derived.Test.YtjjinblahmcplaaInts1
import Derived.Test.YtjjinblahmcplaaKit
import Derived.Test.YtjjinblahmcplaaApp
namespace Go.Proofs.Ytjjinblahmcplaa
open Go.RowKit
attribute [local go_sem] ext_cell ext_frozen

structure Rw where
  l : List Int
  A : Option Addr
  c : Nat
def encRw (p : Rw) : List Value := [.slice p.A p.l.length p.c]
theorem encRw_len (p : Rw) : (encRw p).length = 1 := rfl
theorem encRw_one (p : Rw) : ∀ v ∈ encRw p, v.oneCell' = true := by
  intro v hv
  simp [encRw] at hv
  subst hv
  rfl
theorem infoSs : (Try.prog.info? 42).map (fun i => (i.zero, i.size, i.bytes)) = some (some (.slice none 0 0), 1, 24) := by kernel_rfl
def totR : List Rw → Nat
  | [] => 0
  | p :: L => p.l.length + totR L
theorem totR_app : ∀ (a b : List Rw), totR (a ++ b) = totR a + totR b
  | [], b => by simp [totR]
  | p :: a, b => by rw [List.cons_append, totR, totR, totR_app a b]; omega
theorem totR_succ {L : List Rw} {k : Nat} {m : Rw} (h : L[k]? = some m) : totR (L.take (k + 1)) = totR (L.take k) + m.l.length := by
  rw [List.take_add_one, h, totR_app]
  simp [totR]
theorem totR_take_le : ∀ (L : List Rw) (k : Nat), totR (L.take k) ≤ totR L
  | [], k => by simp
  | p :: L, 0 => by simp [totR]
  | p :: L, k + 1 => by
    have := totR_take_le L k
    simp only [List.take_succ_cons, totR]
    omega
theorem totR_mem : ∀ {L : List Rw} {p : Rw}, p ∈ L → p.l.length ≤ totR L
  | [], p, h => by simp at h
  | q :: L, p, h => by
    simp only [totR]
    rcases List.mem_cons.1 h with rfl | h
    · omega
    · have := totR_mem h
      omega
theorem totR_eq {L : List Rw} {G : List (List Int)} (h : L.map Rw.l = G) : totR L = (G.map List.length).sum := by
  subst h
  induction L with
  | nil => rfl
  | cons p L ih => simp [totR, ih]
def SsAt (w : World) (A : Option Addr) (L : List Rw) : Prop := RowAt 1 encRw w A L ∧ ∀ p ∈ L, RowAt 1 encI w p.A p.l
theorem SsAt.below {w w' : World} {A : Option Addr} {L : List Rw} (h : SsAt w A L) (hb : Below w.heap.size w w') : SsAt w' A L := ⟨h.1.below hb, fun p hp => (h.2 p hp).below hb⟩
theorem SsAt.rw_ {w : World} {k : Nat} {A : Option Addr} {L : List Rw} {m : Rw} (h : SsAt w A L) (hm : L[k]? = some m) :
    ∃ b off, A = some ⟨b, off, none⟩ ∧ b < w.heap.size ∧ w.cell? ⟨b, off + k, none⟩ = some (.slice m.A m.l.length m.c) ∧ RowAt 1 encI w m.A m.l := by
  obtain ⟨b, off, e, hb, hc⟩ := h.1.at_ hm
  exact ⟨b, off, e, hb, by simpa using hc k m hm 0 _ rfl, h.2 m (List.mem_of_getElem? hm)⟩
/-- Rows in memory of a call's own: no two share a block, and none shares the outer one's. -/
structure SsRes (base : Nat) (w : World) (A : Option Addr) (c : Nat) (L : List Rw) : Prop where
  out : w.ownsRow base 42 1 (.slice A L.length c) L.length (L.flatMap encRw)
  ins : ∀ p ∈ L, ∃ h, p.A = some ⟨h, 0, none⟩ ∧ some h ≠ (Value.slice A L.length c).ownBlock ∧ w.ownsRow base 3 1 (.slice p.A p.l.length p.c) p.l.length (p.l.flatMap encI)
  far : L.Pairwise fun p q => p.A ≠ q.A
theorem SsRes.nil_ (base : Nat) (w : World) : SsRes base w none 0 [] := ⟨World.ownsRow_nil _ _ _ _, fun p hp => by simp at hp, List.Pairwise.nil⟩
theorem SsRes.at_ {base c : Nat} {w : World} {A : Option Addr} {L : List Rw} (h : SsRes base w A c L) : SsAt w A L :=
  ⟨RowAt.of_own h.out encRw_len (by omega), fun p hp => by
    obtain ⟨b, _, _, ho⟩ := h.ins p hp
    exact RowAt.of_own ho encI_len (by omega)⟩
theorem SsRes.below {base c : Nat} {w w' : World} {A : Option Addr} {L : List Rw} (h : SsRes base w A c L) (hb : Below w.heap.size w w') : SsRes base w' A c L :=
  ⟨own_below h.out hb, fun p hp => by
    obtain ⟨b, e, e2, ho⟩ := h.ins p hp
    exact ⟨b, e, e2, own_below ho hb⟩, h.far⟩
theorem SsRes.base_ {base base' c : Nat} {w : World} {A : Option Addr} {L : List Rw} (h : SsRes base w A c L) (hb : base' ≤ base) : SsRes base' w A c L :=
  ⟨own_base h.out hb, fun p hp => by
    obtain ⟨b, e, e2, ho⟩ := h.ins p hp
    exact ⟨b, e, e2, own_base ho hb⟩, h.far⟩
theorem SsRes.kept {base c : Nat} {w w' : World} {A : Option Addr} {L : List Rw} {r : Option Nat} (h : SsRes base w A c L) (hg : w.grownBy w' r) (hr : ∀ b, r = some b → b < base) : SsRes base w' A c L := by
  have far : ∀ {E K n cc : Nat} {AA : Option Addr} {xs : List Value}, w.ownsRow base E K (.slice AA n cc) n xs → w'.ownsRow base E K (.slice AA n cc) n xs := fun {E K n cc AA xs} ho => by
    refine World.ownsRow.kept ho hg ?_
    cases e : (Value.slice AA n cc).ownBlock with
    | none => exact .inl rfl
    | some q =>
      right
      intro e2
      have h1 := (ho.lt q e).1
      have h2 := hr q e2.symm
      omega
  exact ⟨far h.out, fun p hp => by
    obtain ⟨b, e, e2, ho⟩ := h.ins p hp
    exact ⟨b, e, e2, far ho⟩, h.far⟩
/-- One row more, in a block that is new. -/
theorem SsRes.push {base c c3 g cs q : Nat} {w0 w w3 : World} {A A3 : Option Addr} {L : List Rw} {l : List Int} (h : SsRes base w0 A c L) (h0 : w0.heap.size ≤ g) (hb : Below w0.heap.size w0 w) (hgw : g < q) (hq : w.heap.size ≤ q)
    (hs : w.ownsRow base 3 1 (.slice (some ⟨g, 0, none⟩) l.length cs) l.length (l.flatMap encI))
    (ho3 : w3.ownsRow base 42 1 (.slice A3 (L.length + 1) c3) (L.length + 1) (L.flatMap encRw ++ encRw ⟨l, some ⟨g, 0, none⟩, cs⟩)) (hg3 : w.grownBy w3 (Value.slice A L.length c).ownBlock)
    (hl3 : (Value.slice A L.length c).ownBlock = (Value.slice A3 (L.length + 1) c3).ownBlock ∨ some q = (Value.slice A3 (L.length + 1) c3).ownBlock) : SsRes base w3 A3 c3 (L ++ [⟨l, some ⟨g, 0, none⟩, cs⟩]) := by
  have hA : ∀ b, (Value.slice A L.length c).ownBlock = some b → b < w0.heap.size := fun b hb => (h.out.lt b hb).2
  have key : ∀ b, b < w0.heap.size → some b ≠ (Value.slice A L.length c).ownBlock → some b ≠ (Value.slice A3 (L.length + 1) c3).ownBlock := fun b hb1 hb2 e => by
    rcases hl3 with r | r
    · exact hb2 (e.trans r.symm)
    · have := hb.size
      rw [← e] at r
      cases r
      omega
  have hgA : some g ≠ (Value.slice A L.length c).ownBlock := fun e => by have := hA g e.symm; omega
  have hgA3 : some g ≠ (Value.slice A3 (L.length + 1) c3).ownBlock := fun e => by
    rcases hl3 with r | r
    · exact hgA (e.trans r.symm)
    · rw [← e] at r
      cases r
      omega
  refine ⟨by simpa using ho3, fun p hp => ?_, ?_⟩
  · rw [List.length_append, List.length_singleton]
    rcases List.mem_append.1 hp with hp | hp
    · obtain ⟨b, e, e2, ho⟩ := h.ins p hp
      have hbl := (ho.lt b (by rw [e]; rfl)).2
      refine ⟨b, e, key b hbl e2, World.ownsRow.kept (own_below ho hb) hg3 (.inr ?_)⟩
      rw [e]
      exact fun e3 => e2 e3
    · obtain rfl := List.mem_singleton.1 hp
      exact ⟨g, rfl, hgA3, World.ownsRow.kept hs hg3 (.inr (fun e3 => hgA e3))⟩
  · rw [List.pairwise_append]
    refine ⟨h.far, by simp, fun p hp q hq => ?_⟩
    obtain rfl := List.mem_singleton.1 hq
    obtain ⟨b, e1, _, ho⟩ := h.ins p hp
    have := (ho.lt b (by rw [e1]; rfl)).2
    rw [e1]
    intro e
    simp only [Option.some.injEq, Addr.mk.injEq, and_true] at e
    omega
theorem flat_setRw : ∀ (N : List Rw) (k : Nat) (m m' : Rw), N[k]? = some m → m'.A = m.A → m'.l.length = m.l.length → m'.c = m.c → (N.set k m').flatMap encRw = N.flatMap encRw
  | [], k, m, m', h, _, _, _ => by simp at h
  | p :: N, 0, m, m', h, h1, h2, h3 => by
    simp only [List.getElem?_cons_zero, Option.some.injEq] at h
    subst h
    simp [encRw, h1, h2, h3]
  | p :: N, k + 1, m, m', h, h1, h2, h3 => by
    have ih := flat_setRw N k m m' (by simpa using h) h1 h2 h3
    rw [List.set_cons_succ, List.flatMap_cons, List.flatMap_cons, ih]
/-- One row turned, in its own block. -/
theorem SsRes.turn {base c b : Nat} {w w2 : World} {A : Option Addr} {N : List Rw} {k : Nat} {m m' : Rw} (h : SsRes base w A c N) (hm : N[k]? = some m) (e1 : m'.A = m.A) (e2 : m'.l.length = m.l.length) (e3 : m'.c = m.c) (hb : m.A = some ⟨b, 0, none⟩)
    (hg : w.grownBy w2 (some b)) (ho : w2.ownsRow base 3 1 (.slice (some ⟨b, 0, none⟩) m.l.length m.c) m.l.length (m'.l.flatMap encI)) : SsRes base w2 A c (N.set k m') := by
  have hk : k < N.length := (List.getElem?_eq_some_iff.1 hm).1
  obtain ⟨b', hb', hne, hoo⟩ := h.ins m (List.mem_of_getElem? hm)
  rw [hb] at hb'
  cases hb'
  have far2 : ∀ (i : Nat) (p : Rw), N[i]? = some p → i ≠ k → p.A ≠ some ⟨b, 0, none⟩ := fun i p hp hik e => by
    obtain ⟨l1, q1⟩ := List.getElem?_eq_some_iff.1 hp
    obtain ⟨l2, q2⟩ := List.getElem?_eq_some_iff.1 hm
    rcases Nat.lt_or_gt_of_ne hik with h1 | h1
    · have := List.pairwise_iff_getElem.1 h.far i k l1 l2 h1
      rw [q1, q2, hb, e] at this
      exact this rfl
    · have := List.pairwise_iff_getElem.1 h.far k i l2 l1 h1
      rw [q1, q2, hb, e] at this
      exact this rfl
  refine ⟨?_, fun p hp => ?_, ?_⟩
  · rw [flat_setRw N k m m' hm e1 e2 e3, List.length_set]
    exact World.ownsRow.kept h.out hg (.inr (fun e => hne e.symm))
  · rw [List.length_set]
    obtain ⟨i, hi⟩ := List.mem_iff_getElem?.1 hp
    by_cases hik : i = k
    · subst hik
      rw [List.getElem?_set_self hk] at hi
      cases hi
      exact ⟨b, e1.trans hb, hne, by rw [e1, e2, e3, hb]; exact ho⟩
    · rw [List.getElem?_set_ne (by omega)] at hi
      obtain ⟨q, f1, f2, f3⟩ := h.ins p (List.mem_of_getElem? hi)
      refine ⟨q, f1, f2, ?_⟩
      have n2 : q ≠ b := fun e => far2 i p hi hik (by rw [f1, e])
      rw [f1] at f3 ⊢
      exact World.ownsRow.kept f3 hg (.inr (by simp [Value.ownBlock]; omega))
  · rw [List.pairwise_iff_getElem]
    intro i j hi hj hij
    have hA : ∀ (i : Nat) (hi : i < (N.set k m').length), ((N.set k m')[i]).A = (N[i]'(by simpa using hi)).A := fun i hi => by
      by_cases hik : k = i
      · subst hik
        rw [List.getElem_set_self, e1]
        rw [List.getElem?_eq_some_iff] at hm
        obtain ⟨_, hm⟩ := hm
        rw [hm]
      · rw [List.getElem_set_ne hik]
    rw [hA i hi, hA j hj]
    exact List.pairwise_iff_getElem.1 h.far i j _ _ hij

def rwAt (L : List Rw) (i : Nat) (m : Rw) : Rw := ⟨marksI (1 + totR (L.take i)) m.l.length, m.A, m.c⟩
def rwTo (L : List Rw) (k : Nat) : List Rw := L.mapIdx fun i m => if i < k then rwAt L i m else m
theorem rwTo_len (L : List Rw) (k : Nat) : (rwTo L k).length = L.length := by simp [rwTo]
theorem rwTo_zero (L : List Rw) : rwTo L 0 = L := by
  apply List.ext_getElem?
  intro i
  rw [rwTo, List.getElem?_mapIdx]
  cases L[i]? <;> simp
theorem rwTo_get {L : List Rw} {k i : Nat} {m : Rw} (h : L[i]? = some m) : (rwTo L k)[i]? = some (if i < k then rwAt L i m else m) := by
  rw [rwTo, List.getElem?_mapIdx, h]; rfl
theorem rwTo_succ {L : List Rw} {k : Nat} {m : Rw} (h : L[k]? = some m) : rwTo L (k + 1) = (rwTo L k).set k (rwAt L k m) := by
  apply List.ext_getElem?
  intro i
  by_cases hik : k = i
  · subst hik
    rw [rwTo_get h, if_pos (by omega), List.getElem?_set_self (by rw [rwTo_len]; exact (List.getElem?_eq_some_iff.1 h).1)]
  · rw [List.getElem?_set_ne hik]
    cases hl : L[i]? with
    | none => rw [List.getElem?_eq_none, List.getElem?_eq_none] <;> rw [rwTo_len] <;> exact List.getElem?_eq_none_iff.1 hl
    | some m' =>
      rw [rwTo_get hl, rwTo_get hl]
      have : (i < k + 1) ↔ i < k := by omega
      simp [this]
def markRw (L : List Rw) : List Rw := rwTo L L.length
theorem markRw_get {L : List Rw} {i : Nat} {m : Rw} (h : L[i]? = some m) : (markRw L)[i]? = some (rwAt L i m) := by
  rw [markRw, rwTo_get h, if_pos (List.getElem?_eq_some_iff.1 h).1]

set_option maxHeartbeats 2000000 in
theorem markSsR_any (L : List Rw) (A : Option Addr) (c base : Nat) (w : World) (ho : SsRes base w A c L) (hbs : base ≤ w.heap.size) (hLl : L.length ≤ 2097152) (htot : totR L ≤ 2097152) :
    Calls Try.prog 45 #[.slice A L.length c, .int .i64 1] w fun e w' => e = .returned (.int .i64 (1 + totR L)) ∧ SsRes base w' A c (markRw L) ∧ Below base w w' := by
  have HP := Lib.hid ho
  have HT := Lib.hid htot
  clear ho htot
  go_enter Try.func45, Try.ntmps45
  go_wp2_with fail
  go_loopw [1, 5] (fun kv i wr => ∃ (k : Nat) (K : Int), k ≤ L.length ∧ i = .int .i64 k ∧ kv = .int .i64 K ∧ Hid (K = 1 + totR (L.take k)) ∧ (0 ≤ K ∧ K ≤ 10000000) ∧ Hid (SsRes base wr A c (rwTo L k)) ∧ Hid (Below base w wr)) (fun _ i _ => L.length - (intOf i).toNat)
  case atStart => exact ⟨0, 1, Nat.zero_le _, rfl, rfl, Lib.hid (by simp [totR]), ⟨by omega, by omega⟩, Lib.hid (by rw [rwTo_zero]; exact HP.out), Lib.hid (Below.refl _ _)⟩
  case round =>
    obtain ⟨k, K, hk, rfl, rfl, HK, ⟨hK0, hK1⟩, HR, HB⟩ := hrel
    by_cases hlt : k < L.length
    · obtain ⟨m, hm⟩ := some_get hlt
      have i0 := ib0 k
      have i1 := ib1 hlt
      have hmk : (rwTo L k)[k]? = some m := by rw [rwTo_get hm, if_neg (by omega)]
      obtain ⟨bo, oo, rfl, hbo, r0, _⟩ := HR.out.at_.rw_ hmk
      obtain ⟨b, e1, e2, hin⟩ := HR.out.ins m (List.mem_of_getElem? hmk)
      rw [e1] at r0 hin
      have hbl := (hin.lt b rfl)
      have HM := Lib.hid hm
      have HMK := Lib.hid hmk
      have hsm : m.l.length ≤ 2097152 := by have := totR_mem (List.mem_of_getElem? hm); have := HT.out; omega
      have HIN2 := Lib.hid hin
      clear hm hmk hin
      go_wp2_with (go_at_call 33; (with_reducible refine (markIS_any K (some ⟨b, 0, none⟩) m.l.length m.c base (m.l.flatMap encI) _ HIN2.out (by omega) (by omega) hsm).mono ?_); rintro e w1 ⟨rfl, hom, hgm⟩)
      go_roundw
      case rel =>
        have hgm' : wr.grownBy w1 (some b) := hgm
        refine ⟨k + 1, K + 1 * (m.l.length : Int), by omega, by go_num, by first | rfl | go_num, Lib.hid ?_, ?_, Lib.hid ?_, Lib.hid ?_⟩
        · have := HK.out; have h2 := totR_succ HM.out; omega
        · have h2 := totR_succ HM.out; have h3 := totR_take_le L (k + 1); have := HT.out; have := HK.out; omega
        · rw [rwTo_succ HM.out]
          refine SsRes.turn (m' := rwAt L k m) HR.out HMK.out rfl (by simp [rwAt, marksI_len]) rfl e1 hgm' ?_
          have : (rwAt L k m).l = marksI K m.l.length := by rw [HK.out]; rfl
          rw [this]
          exact hom
        · have hbs1 := Nat.le_trans hbs HB.out.size
          exact HB.out.grown hgm' hbs1 (fun k hk => by cases hk; exact hbl.1)
      case measure => simp [intOf]; omega
    · obtain rfl : k = L.length := by omega
      have HF := Lib.hid (show K = 1 + (totR L : Int) by have := HK.out; rw [List.take_length] at this; omega)
      go_wp2
      go_ret
      exact ⟨ret_int HF.out, HR.out, HB.out⟩

set_option maxHeartbeats 2000000 in
theorem heldSsR_any (L : List Rw) (A : Option Addr) (c : Nat) (w : World) (hr : SsAt w A (markRw L)) (hLl : L.length ≤ 2097152) (htot : totR L ≤ 2097152) :
    Calls Try.prog 46 #[.slice A L.length c, .int .i64 1] w fun e w' => e = .returned (.int .i64 (1 + totR L)) ∧ w = w' := by
  have HP := Lib.hid hr
  have HT := Lib.hid htot
  clear hr htot
  go_enter Try.func46, Try.ntmps46
  go_wp2_with fail
  go_loop [1, 5] (fun kv i => ∃ (k : Nat) (K : Int), k ≤ L.length ∧ i = .int .i64 k ∧ kv = .int .i64 K ∧ Hid (K = 1 + totR (L.take k)) ∧ (0 ≤ K ∧ K ≤ 10000000)) (fun _ i => L.length - (intOf i).toNat)
  case atStart => exact ⟨0, 1, Nat.zero_le _, rfl, rfl, Lib.hid (by simp [totR]), ⟨by omega, by omega⟩⟩
  case round =>
    obtain ⟨k, K, hk, rfl, rfl, HK, ⟨hK0, hK1⟩⟩ := hrel
    by_cases hlt : k < L.length
    · obtain ⟨m, hm⟩ := some_get hlt
      have i0 := ib0 k
      have i1 := ib1 hlt
      obtain ⟨b, off, rfl, hb, q1, hs⟩ := HP.out.rw_ (markRw_get hm)
      have hSe : (rwAt L k m).l = marksI K m.l.length := by rw [HK.out]; rfl
      rw [hSe, marksI_len] at q1
      rw [hSe] at hs
      have HM := Lib.hid hm
      have hsm : m.l.length ≤ 2097152 := by have := totR_mem (List.mem_of_getElem? hm); have := HT.out; omega
      have HH := Lib.hid (heldIS_any K (rwAt L k m).A m.l.length (rwAt L k m).c w hs (by omega) (by omega) hsm)
      have hnn : ¬ K + 1 * (m.l.length : Int) < 0 := by omega
      have hnn' : ¬ K + (m.l.length : Int) < 0 := by omega
      clear hm hs hSe
      go_wp2_with (go_at_call 34; (with_reducible refine (HH.out).mono ?_); rintro e w' ⟨rfl, rfl⟩)
      go_round
      case rel =>
        refine ⟨k + 1, K + 1 * (m.l.length : Int), by omega, by go_num, by first | rfl | go_num, Lib.hid ?_, ?_⟩
        · have := HK.out; have h2 := totR_succ HM.out; omega
        · have h2 := totR_succ HM.out; have h3 := totR_take_le L (k + 1); have := HT.out; have := HK.out; omega
      case measure => simp [intOf]; omega
    · obtain rfl : k = L.length := by omega
      have HF := Lib.hid (show K = 1 + (totR L : Int) by have := HK.out; rw [List.take_length] at this; omega)
      go_wp2
      go_ret
      exact ⟨ret_int HF.out, rfl⟩

theorem map_get {L L' : List Rw} (hp : L'.map Rw.l = L.map Rw.l) {k : Nat} {m : Rw} (h : L[k]? = some m) : ∃ m', L'[k]? = some m' ∧ m'.l = m.l := by
  have e : (L'.map Rw.l)[k]? = some m.l := by rw [hp, List.getElem?_map, h]; rfl
  rw [List.getElem?_map] at e
  cases h' : L'[k]? with
  | none => rw [h'] at e; cases e
  | some m' => rw [h'] at e; exact ⟨m', rfl, by simpa using e⟩
set_option maxHeartbeats 2000000 in
theorem eqSs_same (n : Nat) (L L' : List Rw) (A A' : Option Addr) (c c' : Nat) (w : World) (hn : L.length = n) (hp : L'.map Rw.l = L.map Rw.l) (hr : SsAt w A L) (hr' : SsAt w A' L') (hlen : n ≤ 2097152) (htot : totR L ≤ 2097152) :
    Calls Try.prog 44 #[.slice A n c, .slice A' n c'] w fun e w' => e = .returned (.bool true) ∧ Below w.heap.size w w' := by
  subst hn
  have HR := Lib.hid hr
  have HR' := Lib.hid hr'
  have HP := Lib.hid hp
  have HT := Lib.hid htot
  clear hr hr' hp htot
  go_enter Try.func44, Try.ntmps44
  go_wp2_with fail
  go_loopw [5] (fun i wr => ∃ k : Nat, k ≤ L.length ∧ i = .int .i64 k ∧ Below w.heap.size w wr) (fun i _ => L.length - (intOf i).toNat)
  case atStart => exact ⟨0, Nat.zero_le _, rfl, bref _⟩
  case round =>
    obtain ⟨k, hk, rfl, hbr⟩ := hrel
    by_cases hlt : k < L.length
    · obtain ⟨m, hm⟩ := some_get hlt
      obtain ⟨m', hm', e1⟩ := map_get HP.out hm
      have i0 := ib0 k
      have i1 := ib1 hlt
      have hms : m.l.length ≤ 2097152 := by have := totR_mem (List.mem_of_getElem? hm); have := HT.out; omega
      obtain ⟨b, off, rfl, hb, q1, qs⟩ := (HR.out.below hbr).rw_ hm
      obtain ⟨b', off', rfl, hb', r1, rs⟩ := (HR'.out.below hbr).rw_ hm'
      rw [e1] at r1 rs
      have HH := Lib.hid (fun W (h : Below wr.heap.size wr W) => eqIS_same m.l m.A m'.A m.c m'.c W (RowAt.below qs h) (RowAt.below rs h) hms)
      clear hm hm' qs rs e1
      go_wp2_with fail
      (refine wp_region_calm (by kernel_rfl) (by kernel_rfl) ?_; (repeat (go_big_quiet_step (((go_at_call 31; with_reducible exact calm_of (HH.out _ (Ext.is _))))))); refine wpQuiet_nil ?_; intro xw; have hb1 := xw.is; generalize xw.w = w1 at hb1 ⊢; clear xw)
      go_wp2
      go_roundw
      case rel => exact ⟨k + 1, by omega, by go_num, bstep hbr hb1⟩
      case measure => simp [intOf]; omega
    · obtain rfl : k = L.length := by omega
      go_wp2
      go_ret
      exact ⟨rfl, hbr⟩
def MkSs (G : List (List Int)) (ok : Bool) (w : World) (e : Ending) (w' : World) : Prop :=
  ∃ (L : List Rw) (A : Option Addr) (c : Nat), e = .returned (.tuple #[.slice A G.length c, .bool ok]) ∧ L.map Rw.l = G ∧ SsRes w.heap.size w' A c L ∧ Below w.heap.size w w'
end Go.Proofs.Ytjjinblahmcplaa
