/-
  The laws' marks over packets: they turn the packets' own blocks and no other.
-/
import Derived.Test.YtifkakpiipoadaaPk0
import Derived.Test.YtifkakpiipoadaaPkGood
namespace Go.Proofs.Ytifkakpiipoadaa
set_option linter.unusedVariables false
set_option linter.unusedSimpArgs false
set_option linter.unnecessarySimpa false
open Go.RowKit
attribute [local go_sem] ext_cell ext_frozen

theorem tot_pl : ∀ {l' l : List Pk}, l'.map Pk.pl = l.map Pk.pl → tot l' = tot l := fun {l' l} h => by
  have h1 : ∀ (a b : List Pk), a.map Pk.pl = b.map Pk.pl → totS a = totS b := by
    intro a
    induction a with
    | nil => intro b hb; cases b <;> simp_all
    | cons p a ih =>
      intro b hb
      cases b with
      | nil => simp at hb
      | cons q b =>
        simp only [List.map_cons, List.cons.injEq] at hb
        rw [totS_cons, totS_cons, ih b hb.2]
        have := hb.1
        unfold Pk.pl at this
        rw [(Prod.mk.inj this).2]
  have h2 := congrArg List.length h
  simp only [List.length_map] at h2
  unfold tot
  rw [h1 l' l h, h2]

/-- Only the packets' own blocks have been turned. -/
structure Turned (g : Nat) (l : List Pk) (w w' : World) : Prop where
  os : w'.os = w.os
  tape : w'.tape = w.tape
  output : w'.output = w.output
  size : w.heap.size ≤ w'.heap.size
  block : ∀ i, i < w.heap.size → i ≠ g → (∀ p ∈ l, p.A ≠ some ⟨i, 0, none⟩) → w'.heap[i]? = w.heap[i]?
theorem Turned.below {base g : Nat} {l : List Pk} {w w' : World} (h : Turned g l w w') (ho : PkOwn base g w l) : Below base w w' :=
  ⟨h.os, h.tape, h.output, h.size, fun i hi => h.block i (by have := (ho.out.lt g rfl); omega) (by have := (ho.out.lt g rfl).1; omega) (fun p hp e => by
    obtain ⟨b, e1, _, _, ho1⟩ := ho.ins p hp
    have := (ho1.lt b rfl).1
    rw [e1] at e
    simp only [Option.some.injEq, Addr.mk.injEq, and_true] at e
    omega)⟩
/-- All blocks of the packets lie below a bound. -/
theorem PkOwn.far_ {base g : Nat} {w : World} {l : List Pk} (h : PkOwn base g w l) {b : Nat} (hb : w.heap.size ≤ b) : b ≠ g ∧ ∀ p ∈ l, p.A ≠ some ⟨b, 0, none⟩ := by
  refine ⟨by have := (h.out.lt g rfl).2; omega, fun p hp e => ?_⟩
  obtain ⟨c, e1, _, _, ho⟩ := h.ins p hp
  have := (ho.lt c rfl).2
  rw [e1] at e
  simp only [Option.some.injEq, Addr.mk.injEq, and_true] at e
  omega
theorem Turned.kept {g base E K n : Nat} {v : Value} {xs : List Value} {l : List Pk} {w w' : World} (h : Turned g l w w') (ho : w.ownsRow base E K v n xs) (hf : ∀ b, v.ownBlock = some b → b ≠ g ∧ ∀ p ∈ l, p.A ≠ some ⟨b, 0, none⟩) : w'.ownsRow base E K v n xs := by
  refine ⟨ho.1, ?_⟩
  rcases ho.2 with h1 | ⟨b, cap, cur, hv, hg, hh, r⟩
  · exact .inl h1
  · obtain ⟨f1, f2⟩ := hf b (by rw [hv]; rfl)
    exact .inr ⟨b, cap, cur, hv, hg, (h.block b (Array.getElem?_eq_some_iff.1 hh).1 f1 f2).trans hh, r⟩
theorem Turned.refl (g : Nat) (l : List Pk) (w : World) : Turned g l w w := ⟨rfl, rfl, rfl, Nat.le_refl _, fun _ _ _ _ => rfl⟩
theorem Turned.grown {g : Nat} {l : List Pk} {w W w' : World} (h : Turned g l w W) {b : Nat} (hg : W.grownBy w' (some b)) (hb : b = g ∨ ∃ p ∈ l, p.A = some ⟨b, 0, none⟩) : Turned g l w w' :=
  ⟨hg.os.trans h.os, hg.tape.trans h.tape, hg.output.trans h.output, Nat.le_trans h.size hg.size, fun i hi h1 h2 => (hg.block i (Nat.lt_of_lt_of_le hi h.size) (fun e => by
    simp only [Option.some.injEq] at e
    rcases hb with e2 | ⟨p, hp, e2⟩
    · exact h1 (by omega)
    · obtain rfl : b = i := by omega
      exact h2 p hp e2)).trans (h.block i hi h1 h2)⟩

set_option maxHeartbeats 2000000 in
theorem markPkS_any (L : List Pk) (g base : Nat) (w : World) (ho : PkOwn base g w L) (htot : tot L ≤ 2097152) :
    Calls Try.prog 23 #[.slice (some ⟨g, 0, none⟩) L.length L.length, .int .i64 1] w fun e w' => e = .returned (.int .i64 (1 + tot L)) ∧ Turned g L w w' := by
  have HP := Lib.hid ho
  have HT := Lib.hid htot
  have hLl : L.length ≤ 2097152 := by unfold tot at htot; omega
  unfold tot
  clear ho htot
  go_enter Try.func23, Try.ntmps23
  go_wp2_with fail
  go_loopw [1, 5] (fun kv i wr => ∃ (k : Nat) (xs : List Value) (K : Int), k ≤ L.length ∧ i = .int .i64 k ∧ kv = .int .i64 K ∧ Hid (K = 1 + (k : Int) + totS (L.take k)) ∧ (0 ≤ K ∧ K ≤ 10000000) ∧ wr.ownsRow base 40 2 (.slice (some ⟨g, 0, none⟩) L.length L.length) L.length xs ∧ Hid (∀ i p, L[i]? = some p → xs[i * 2 + 1]? = some (.slice p.A p.sm.length p.c)) ∧
    Hid (∀ p ∈ L, ∃ ys, wr.ownsRow base 3 1 (.slice p.A p.sm.length p.c) p.sm.length ys) ∧ Hid (Turned g L w wr)) (fun _ i _ => L.length - (intOf i).toNat)
  case atStart => 
    refine ⟨0, L.flatMap encPk, 1, Nat.zero_le _, rfl, rfl, Lib.hid (by simp [totS]), ⟨by omega, by omega⟩, HP.out.out, Lib.hid (fun i p hp => flat_get encPk_len L i p hp 1 _ rfl), Lib.hid (fun p hp => ?_), Lib.hid (Turned.refl _ _ _)⟩
    obtain ⟨b, e1, e2, _, ho⟩ := HP.out.ins p hp
    exact ⟨_, by rw [e1, e2]; exact ho⟩
  case round =>
    obtain ⟨k, xs, K, hk, rfl, rfl, HK, ⟨hK0, hK1⟩, hown, HXS, HIN, HTU⟩ := hrel
    by_cases hlt : k < L.length
    · obtain ⟨m, hm⟩ := some_get hlt
      have i0 := ib0 k
      have i1 := ib1 hlt
      obtain ⟨b, e1, e2, e3, _⟩ := HP.out.ins m (List.mem_of_getElem? hm)
      obtain ⟨ys, hin⟩ := HIN.out m (List.mem_of_getElem? hm)
      obtain ⟨o0, r0⟩ := own_cell hown (j := k * 2) (by omega)
      have r1 : wr.cell? ⟨g, k * 2 + 1, none⟩ = some (.slice m.A m.sm.length m.c) := by
        rw [hown.cellAt (k * 2 + 1) (by omega)]
        exact HXS.out k m hm
      have z0 := hown.frozenAt (k * 2)
      rw [e1, e2] at r1 hin
      have HO := Lib.hid hown
      have HM := Lib.hid hm
      have hsm : m.sm.length ≤ 2097152 := by have := totS_mem (List.mem_of_getElem? hm); have := HT.out; unfold tot at this; omega
      have hst := World.ownsRow.stored hown (k * 2) (.int .i64 K)
      have hg1 : wr.grownBy (wr.setCell ⟨g, k * 2, none⟩ (.int .i64 K)) (some g) := only_setCell (World.grownBy.refl wr (some g)) (.inl rfl) _
      have hin2 := World.ownsRow.kept hin hg1 (.inr (by simp [Value.ownBlock]; omega))
      have HIN2 := Lib.hid hin2
      have HST := Lib.hid hst.1
      have HG1 := Lib.hid hg1
      clear hm hin hin2 hst hg1 hown
      go_wp2_with (go_at_call 24; (with_reducible refine (markIS_any (K + 1) (some ⟨b, 0, none⟩) m.sm.length m.sm.length base ys _ HIN2.out (by omega) (by omega) hsm).mono ?_); rintro e w1 ⟨rfl, hom, hgm⟩)
      go_roundw
      case rel =>
        have hgm' : (wr.setCell ⟨g, k * 2, none⟩ (.int .i64 K)).grownBy w1 (some b) := hgm
        refine ⟨k + 1, xs.set (k * 2) (.int .i64 K), K + 1 + (m.sm.length : Int), by omega, by go_num, rfl, Lib.hid ?_, ?_, ?_, Lib.hid ?_, Lib.hid ?_, Lib.hid ?_⟩
        · have := HK.out; have h2 := totS_succ HM.out; omega
        · have h2 := totS_succ HM.out; have h3 := totS_take_le L (k + 1); have := HT.out; unfold tot at this; have := HK.out; omega
        · exact World.ownsRow.kept HST.out hgm' (.inr (by simp [Value.ownBlock]; omega))
        · intro i p hp
          rw [List.getElem?_set_ne (by omega)]
          exact HXS.out i p hp
        · intro p hp
          obtain ⟨bp, f1, f2, f3, _⟩ := HP.out.ins p hp
          by_cases hpb : bp = b
          · -- the same block: the same packet
            subst hpb
            obtain ⟨i, hi⟩ := List.mem_iff_getElem?.1 hp
            have hik : i = k := by
              rcases Nat.lt_trichotomy i k with h | h | h
              · exfalso
                obtain ⟨l1, q1⟩ := List.getElem?_eq_some_iff.1 hi
                obtain ⟨l2, q2⟩ := List.getElem?_eq_some_iff.1 HM.out
                have := List.pairwise_iff_getElem.1 HP.out.far i k l1 l2 h
                rw [q1, q2, e1, f1] at this
                exact this rfl
              · exact h
              · exfalso
                obtain ⟨l1, q1⟩ := List.getElem?_eq_some_iff.1 hi
                obtain ⟨l2, q2⟩ := List.getElem?_eq_some_iff.1 HM.out
                have := List.pairwise_iff_getElem.1 HP.out.far k i l2 l1 h
                rw [q1, q2, e1, f1] at this
                exact this rfl
            subst hik
            have : p = m := by have := HM.out; rw [hi] at this; cases this; rfl
            subst this
            exact ⟨_, by rw [e1, e2]; exact hom⟩
          · obtain ⟨zs, hz⟩ := HIN.out p hp
            rw [f1] at hz ⊢
            refine ⟨zs, World.ownsRow.kept (World.ownsRow.kept hz HG1.out (.inr (by simp [Value.ownBlock]; omega))) hgm' (.inr (by simp [Value.ownBlock]; omega))⟩
        · exact (HTU.out.grown HG1.out (.inl rfl)).grown hgm' (.inr ⟨m, List.mem_of_getElem? HM.out, e1⟩)
      case measure => simp [intOf]; omega
    · obtain rfl : k = L.length := by omega
      have HF := Lib.hid (show K = 1 + ((L.length + totS L : Nat) : Int) by have := HK.out; rw [List.take_length] at this; omega)
      have HT2 := HTU
      clear HXS HIN
      go_wp2
      go_ret
      exact ⟨ret_int HF.out, HT2.out⟩
theorem bturn {a W w1 : World} {B : Nat} (h : Below a.heap.size a W) (ht : Below B W w1) (hB : a.heap.size ≤ B) : Below a.heap.size a w1 :=
  ⟨ht.os.trans h.os, ht.tape.trans h.tape, ht.output.trans h.output, Nat.le_trans h.size ht.size, fun i hi => (ht.block i (by omega)).trans (h.block i hi)⟩
end Go.Proofs.Ytifkakpiipoadaa
