/-
  spec.l16Lengths: the table of the longest pairings' lengths.
-/
import Derived.Test.YtlinjkfbcekepaaQuTab
import Derived.StillTailTactics
namespace Go.Proofs.Ytlinjkfbcekepaa
set_option linter.unusedVariables false
set_option linter.unusedSimpArgs false
set_option linter.unnecessarySimpa false
open Go.RowKit
attribute [local go_sem] ext_cell ext_frozen

def OutAt (w : World) (g : Nat) (R : Nat → Nat) (n m : Nat) : Prop := g < w.heap.size ∧ ∀ j, j < n → w.cell? ⟨g, j, none⟩ = some (rowV R m j) ∧ g ≠ R j
theorem OutAt.below {w w' : World} {g n m : Nat} {R : Nat → Nat} (h : OutAt w g R n m) (hb : Below w.heap.size w w') : OutAt w' g R n m :=
  ⟨Nat.lt_of_lt_of_le h.1 hb.size, fun j hj => ⟨(hb.cell (p := ⟨g, j, none⟩) h.1).trans (h.2 j hj).1, (h.2 j hj).2⟩⟩
theorem OutAt.store {w : World} {g n m i k : Nat} {R : Nat → Nat} (h : OutAt w g R n m) (hi : i < n) (v : Value) : OutAt (w.setCell ⟨R i, k, none⟩ v) g R n m :=
  ⟨by simpa [World.setCell] using h.1, fun j hj => ⟨by
    rw [World.cell?_setCell_other]
    · exact (h.2 j hj).1
    · intro e
      simp only [Addr.mk.injEq, and_true] at e
      exact (h.2 i hi).2 e.1.symm, (h.2 j hj).2⟩⟩
theorem own_out {w : World} {base g n m c : Nat} {R : Nat → Nat} (h : w.ownsRow base 54 1 (.slice (some ⟨g, 0, none⟩) n c) n (rowVs R m n)) (hne : ∀ j, j < n → (Value.slice (some ⟨g, 0, none⟩) n c).ownBlock ≠ some (R j)) : OutAt w g R n m :=
  ⟨(h.lt g rfl).2, fun j hj => ⟨by
    have hc := h.cellAt j (by omega)
    rw [hc]
    exact rowVs_get hj, fun e => hne j hj (by rw [← e]; rfl)⟩⟩

theorem l1Most_same (a b : Int) (w : World) : Calls Try.prog 106 #[.int .i64 a, .int .i64 b] w fun e w'' => e = .returned (.int .i64 (maxI a b)) ∧ w'' = w := (l1Most_any a b w).mono fun _ _ h => ⟨h.1, h.2.symm⟩
theorem keep4 {w : World} {g i k k2 Ri Ri1 : Nat} {va vb vc vd v : Value} (hg : g ≠ Ri) (hne : Ri1 ≠ Ri) (hk : k2 ≠ k) (h0 : w.cell? ⟨g, i, none⟩ = some va) (h1 : w.cell? ⟨g, i + 1, none⟩ = some vb) (h2 : w.cell? ⟨Ri1, k, none⟩ = some vc) (h3 : w.cell? ⟨Ri, k2, none⟩ = some vd) :
    (w.setCell ⟨Ri, k, none⟩ v).drew.cell? ⟨g, i, none⟩ = some va ∧ (w.setCell ⟨Ri, k, none⟩ v).drew.cell? ⟨g, i + 1, none⟩ = some vb ∧ (w.setCell ⟨Ri, k, none⟩ v).drew.cell? ⟨Ri1, k, none⟩ = some vc ∧ (w.setCell ⟨Ri, k, none⟩ v).drew.cell? ⟨Ri, k2, none⟩ = some vd := by
  refine ⟨(World.cell?_setCell_other _ _ _ _ ?_).trans h0, (World.cell?_setCell_other _ _ _ _ ?_).trans h1, (World.cell?_setCell_other _ _ _ _ ?_).trans h2, (World.cell?_setCell_other _ _ _ _ ?_).trans h3⟩
  all_goals
    intro e
    simp only [Addr.mk.injEq, and_true] at e
    omega
def zAt (w : World) (b k : Nat) : Int := match w.cell? ⟨b, k, none⟩ with | some (.int .i64 v) => v | _ => 0
theorem zAt_of {w : World} {b k : Nat} {v : Int} (h : w.cell? ⟨b, k, none⟩ = some (.int .i64 v)) : w.cell? ⟨b, k, none⟩ = some (.int .i64 (zAt w b k)) := by
  unfold zAt; rw [h]
theorem keep3 {w : World} {g i k k2 Ri Ri1 : Nat} {va vb vc : Value} {u v : Int} (hg : g ≠ Ri) (hne : Ri1 ≠ Ri) (h0 : w.cell? ⟨g, i, none⟩ = some va) (h1 : w.cell? ⟨g, i + 1, none⟩ = some vb) (h2 : w.cell? ⟨Ri1, k2, none⟩ = some vc) (h3 : w.cell? ⟨Ri, k, none⟩ = some (.int .i64 u)) :
    (w.setCell ⟨Ri, k, none⟩ (.int .i64 v)).drew.cell? ⟨g, i, none⟩ = some va ∧ (w.setCell ⟨Ri, k, none⟩ (.int .i64 v)).drew.cell? ⟨g, i + 1, none⟩ = some vb ∧ (w.setCell ⟨Ri, k, none⟩ (.int .i64 v)).drew.cell? ⟨Ri1, k2, none⟩ = some vc ∧
    (w.setCell ⟨Ri, k, none⟩ (.int .i64 v)).drew.cell? ⟨Ri, k, none⟩ = some (.int .i64 (zAt (w.setCell ⟨Ri, k, none⟩ (.int .i64 v)).drew Ri k)) := by
  refine ⟨(World.cell?_setCell_other _ _ _ _ ?_).trans h0, (World.cell?_setCell_other _ _ _ _ ?_).trans h1, (World.cell?_setCell_other _ _ _ _ ?_).trans h2, zAt_of (v := v) (World.cell?_setCell_same _ _ _ h3)⟩
  all_goals
    intro e
    simp only [Addr.mk.injEq, and_true] at e
    omega
/-- The table as it stands for the reader: outer cells and rows. -/
def TabAt (w : World) (base g : Nat) (n m : Nat) (T : Nat → Nat → Int) : Prop := ∃ R, OutAt w g R n m ∧ RowsAt w base R n m T

set_option maxRecDepth 100000 in
set_option maxHeartbeats 4000000 in
theorem l16Lengths_any (a b : List Qu) (A B : Option Addr) (ca cb : Nat) (t f : Int) (w : World) (ha : RowAt 4 encQu w A a) (hb : RowAt 4 encQu w B b) (hla : a.length ≤ 10) (hlb : b.length ≤ 10) (hga : ∀ m ∈ a, oneQu m = true) (hgb : ∀ m ∈ b, oneQu m = true) (hw : winB t f = true) :
    Calls Try.prog 99 #[.slice A a.length ca, .slice B b.length cb, .int .i64 t, .int .i64 f] w fun e w' => ∃ g c', e = .returned (.slice (some ⟨g, 0, none⟩) (a.length + 1) c') ∧ TabAt w' w.heap.size g (a.length + 1) b.length (lpL (pB a b t f) a.length b.length) ∧ w.heap.size ≤ g ∧ Below w.heap.size w w' := by
  have HA := Lib.hid ha
  have HB := Lib.hid hb
  have HGA := Lib.hid hga
  have HGB := Lib.hid hgb
  have HW := Lib.hid hw
  clear ha hb hga hgb hw
  have hmk := fun W => mk_row (m := b.length) (by omega) W
  go_enter Try.func99, Try.ntmps99
  go_wp2_with fail
  go_loopw [9, 10] (fun v i wr => ∃ (k : Nat) (R : Nat → Nat) (A' : Option Addr) (c' : Nat), k ≤ a.length + 1 ∧ i = .int .i64 k ∧ v = .slice A' k c' ∧ Below w.heap.size w wr ∧ Hid (wr.ownsRow w.heap.size 54 1 (.slice A' k c') k (rowVs R b.length k)) ∧ Hid (RowsAt wr w.heap.size R k b.length (fun _ _ => 0)) ∧ Hid (∀ j, j < k → (Value.slice A' k c').ownBlock ≠ some (R j))) (fun _ i _ => a.length + 1 - (intOf i).toNat)
  case atStart => exact ⟨0, fun _ => 0, some ⟨w.heap.size, 0, none⟩, 0, Nat.zero_le _, rfl, rfl, balloc (bref _) _, Lib.hid (own_made (cur := #[]) rfl (Nat.zero_le _)), Lib.hid ⟨fun j hj => absurd hj (by omega), fun i j hi => absurd hi (by omega)⟩, Lib.hid (fun j hj => absurd hj (by omega))⟩
  case round =>
    obtain ⟨k, R, A', c', hk, rfl, rfl, hbr, HO, HRW, HNE⟩ := hrel
    have hsz := hbr.size
    by_cases hlt : k < a.length + 1
    · have i1 : (k : Int) ≤ (a.length : Int) := by omega
      go_wp2_with (at_builtin; go_loud (refine wpList_app rfl _ _ 98 54 1 24 _ rfl Try.underlying98 infoII rfl (by decide) w.heap.size _ k _ (by rfl) ((HO.out.alloc _).alloc _) (wr.heap.size + 1) #[.slice (some ⟨wr.heap.size, 0, none⟩) (b.length + 1) (b.length + 1)] (by rfl) (by have h := heap_new1 (wr.alloc (.cells (madeCells #[.int .i64 0] (b.length + 1)) 3)) (.cells #[.slice (some ⟨wr.heap.size, 0, none⟩) (b.length + 1) (b.length + 1)] 54); rwa [World.size_alloc] at h) rfl (fun u hu => by simp at hu; subst hu; rfl) (by omega) (by decide) (by simp; omega) ?_; intro g5 c5 w5 ho5 hg5 hl5))
      go_roundw
      case rel =>
        have hown := HO.out
        have hoL : ∀ k', (Value.slice A' k c').ownBlock = some k' → k' < wr.heap.size := fun k' e => (hown.lt k' e).2
        refine ⟨k + 1, fun j => if j = k then wr.heap.size else R j, some ⟨g5, 0, none⟩, c5, by omega, by go_num, rfl, bgrown (balloc (balloc hbr _) _) hg5 (fun k hk => row_mine hown k hk), Lib.hid (by rw [rowVs_push]; exact ho5), Lib.hid ?_, Lib.hid (fun j hj e => ?_)⟩
        · have h1 := (HRW.out.below (balloc (balloc (bref wr) (.cells (madeCells #[.int .i64 0] (b.length + 1)) 3)) (.cells #[.slice (some ⟨wr.heap.size, 0, none⟩) (b.length + 1) (b.length + 1)] 54))).grown hg5 (fun j hj e => HNE.out j hj e.symm)
          refine h1.push hsz (Nat.lt_of_lt_of_le (by simp; omega) hg5.size) (fun j hj => (HRW.out.1 j hj).2.1) (fun q hq => ?_)
          obtain ⟨c1, c2⟩ := mk_cell (m := b.length) wr hq
          have hne : some wr.heap.size ≠ (Value.slice A' k c').ownBlock := fun e => by
            have := hoL _ e.symm
            omega
          have hB := (balloc (bref (wr.alloc (.cells (madeCells #[.int .i64 0] (b.length + 1)) 3))) (.cells #[.slice (some ⟨wr.heap.size, 0, none⟩) (b.length + 1) (b.length + 1)] 54))
          exact ⟨(hg5.cell_far ⟨wr.heap.size, q, none⟩ (by simp; omega) hne).trans ((hB.cell (p := ⟨wr.heap.size, q, none⟩) (by simp)).trans c1), (hg5.frozen_far ⟨wr.heap.size, q, none⟩ (by simp; omega) hne).trans ((hB.frozen (p := ⟨wr.heap.size, q, none⟩) (by simp)).trans c2)⟩
        · have e' : g5 = if j = k then wr.heap.size else R j := by simpa [Value.ownBlock] using e
          by_cases ej : j = k
          · rw [if_pos ej] at e'
            rcases hl5 with r | r
            · have := hoL g5 (r.trans (by simp [Value.ownBlock]))
              omega
            · simp [Value.ownBlock] at r
              omega
          · rw [if_neg ej] at e'
            have hj' : j < k := by omega
            rcases hl5 with r | r
            · exact HNE.out j hj' (r.trans (by simp [Value.ownBlock, e']))
            · have := (HRW.out.1 j hj').2.1
              simp [Value.ownBlock] at r
              omega
      case measure => simp [intOf]; omega
    · obtain rfl : k = a.length + 1 := by omega
      obtain ⟨g, rfl⟩ : ∃ g, A' = some ⟨g, 0, none⟩ := by
        rcases own_form HO.out with ⟨_, h0, _⟩ | h
        · omega
        · exact h
      have HOUT := Lib.hid (own_out HO.out HNE.out)
      have hgw := row_mine HO.out g rfl
      have HT0 := Lib.hid HRW.out
      clear HO HNE HRW
      have hno : ¬ ((a.length : Int) + 1 ≤ (a.length : Int)) := by omega
      have hno2 : decide ((a.length : Int) + 1 ≤ (a.length : Int)) = false := by simp; omega
      go_wp2_with fail
      try simp only [hno2]
      go_loopw [11] (fun v wr => ∃ (i1 : Nat) (T : Nat → Nat → Int), i1 ≤ a.length ∧ v = .int .i64 ((i1 : Int) - 1) ∧ Below w.heap.size w wr ∧ Hid (OutAt wr g R (a.length + 1) b.length) ∧ Hid (RowsAt wr w.heap.size R (a.length + 1) b.length T) ∧ Hid (∀ j q, i1 ≤ j → j ≤ a.length → q ≤ b.length → T j q = lpL (pB a b t f) a.length b.length j q) ∧ Hid (∀ j, T j b.length = 0)) (fun v _ => (intOf v + 1).toNat)
      case atStart => exact ⟨a.length, fun _ _ => 0, Nat.le_refl _, rfl, hbr, HOUT, HT0, Lib.hid (fun j q h1 h2 _ => by rw [lpL_row _ _ _ (by omega)]), Lib.hid (fun _ => rfl)⟩
      case round =>
        obtain ⟨i1, T, hi1, rfl, hb1, HO1, HR1, HT1, HZ1⟩ := hrel
        rcases i1 with _ | i
        · have e0 : ((0 : Nat) : Int) - 1 = -1 := rfl
          simp only [e0]
          go_wp2
          go_ret
          exact ⟨g, c', rfl, ⟨R, HO1.out, HR1.out.ext (fun j q hj hq => HT1.out j q (Nat.zero_le _) (by omega) hq)⟩, hgw, hb1⟩
        · have e0 : ((i + 1 : Nat) : Int) - 1 = (i : Int) := by omega
          simp only [e0]
          have hi0 := ib0 i
          have HIA := Lib.hid hi1
          obtain ⟨wo, rfl⟩ : ∃ wo : World, wo = wr := ⟨_, rfl⟩
          go_wp2_with fail
          go_loopw [12] (fun v wi => ∃ (k1 : Nat) (T : Nat → Nat → Int), k1 ≤ b.length ∧ v = .int .i64 ((k1 : Int) - 1) ∧ Below w.heap.size w wi ∧ Hid (OutAt wi g R (a.length + 1) b.length) ∧ Hid (RowsAt wi w.heap.size R (a.length + 1) b.length T) ∧ Hid (∀ j q, i + 1 ≤ j → j ≤ a.length → q ≤ b.length → T j q = lpL (pB a b t f) a.length b.length j q) ∧ Hid (∀ q, k1 ≤ q → q ≤ b.length → T i q = lpL (pB a b t f) a.length b.length i q) ∧ Hid (∀ j, T j b.length = 0)) (fun v _ => (intOf v + 1).toNat)
          case atStart => exact ⟨b.length, T, Nat.le_refl _, rfl, hb1, HO1, HR1, HT1, Lib.hid (fun q h1 h2 => by rw [show q = b.length by omega, HZ1.out, lpL_col _ _ _ (Nat.le_refl _)]), HZ1⟩
          case round =>
            obtain ⟨k1, T, hk1, rfl, hb2, HO2, HR2, HT2, HK2, HZ2⟩ := hrel
            rcases k1 with _ | k
            · have e1 : ((0 : Nat) : Int) - 1 = -1 := rfl
              simp only [e1]
              go_wp2_with fail
              go_roundw
              case rel => exact ⟨i, T, by have := HIA.out; omega, by go_num, hb2, HO2, HR2, Lib.hid (fun j q h1 h2 h3 => by
                by_cases e : j = i
                · subst e; exact HK2.out q (Nat.zero_le _) h3
                · exact HT2.out j q (by omega) h2 h3), HZ2⟩
              case measure => simp [intOf]
            · have e1 : ((k + 1 : Nat) : Int) - 1 = (k : Int) := by omega
              simp only [e1]
              have hia := HIA.out
              have hk0 := ib0 k
              have hs2 := hb2.size
              have y0 : wr.cell? ⟨g, i, none⟩ = some (.slice (some ⟨R i, 0, none⟩) (b.length + 1) (b.length + 1)) := (HO2.out.2 i (by omega)).1
              have y1 : wr.cell? ⟨g, i + 1, none⟩ = some (.slice (some ⟨R (i + 1), 0, none⟩) (b.length + 1) (b.length + 1)) := (HO2.out.2 (i + 1) (by omega)).1
              have z0 := ((HR2.out.1 (i + 1) (by omega)).2.2 k (by omega)).1
              have z1 := ((HR2.out.1 i (by omega)).2.2 (k + 1) (by omega)).1
              have z2 := ((HR2.out.1 (i + 1) (by omega)).2.2 (k + 1) (by omega)).1
              obtain ⟨z3, f3⟩ := (HR2.out.1 i (by omega)).2.2 k (by omega)
              rw [HT2.out (i + 1) k (Nat.le_refl _) (by omega) (by omega)] at z0
              rw [HK2.out (k + 1) (by omega) (by omega)] at z1
              rw [HT2.out (i + 1) (k + 1) (Nat.le_refl _) (by omega) (by omega)] at z2
              have b0 := lpL_nn (pB a b t f) a.length b.length (i + 1) k
              have b1 := lpL_nn (pB a b t f) a.length b.length i (k + 1)
              have b2 := lpL_nn (pB a b t f) a.length b.length (i + 1) (k + 1)
              have HL := Lib.hid (lpL_in (pB a b t f) a.length b.length (i := i) (k := k) (by omega) (by omega))
              have hne : R (i + 1) ≠ R i := fun e => by have := HR2.out.2 _ _ (by omega) (by omega) e; omega
              have HU2 := HT2.out (i + 1) (k + 1) (Nat.le_refl _) (by omega) (by omega)
              generalize lpL (pB a b t f) a.length b.length (i + 1) k = u0 at z0 b0 HL
              generalize lpL (pB a b t f) a.length b.length i (k + 1) = u1 at z1 b1 HL
              generalize lpL (pB a b t f) a.length b.length (i + 1) (k + 1) = u2 at z2 b2 HL HU2
              have HU2 := Lib.hid HU2
              have hi1' : (i : Int) < (a.length : Int) + 1 := by omega
              have hi2' : (i : Int) + 1 < (a.length : Int) + 1 := by omega
              have hi3' : 0 ≤ (i : Int) + 1 := by omega
              have hk1' : (k : Int) < (b.length : Int) + 1 := by omega
              have hk2' : (k : Int) + 1 < (b.length : Int) + 1 := by omega
              have hk3' : 0 ≤ (k : Int) + 1 := by omega
              have hil : i < a.length := by omega
              have hkl : k < b.length := by omega
              have hil2 : (i : Int) < (a.length : Int) := by omega
              have hkl2 : (k : Int) < (b.length : Int) := by omega
              have w1' : IntKind.i64.wrap ((i : Int) + 1) = (i : Int) + 1 := by rw [IntKind.wrap_i64]; omega
              have w2' : IntKind.i64.wrap ((k : Int) + 1) = (k : Int) + 1 := by rw [IntKind.wrap_i64]; omega
              have t1 : ((i : Int) + 1).toNat = i + 1 := by omega
              have t2 : ((k : Int) + 1).toNat = k + 1 := by omega
              go_wp2_with fail
              have hgR := (HO2.out.2 i (by omega)).2
              go_region_held3 (fun w' => w'.cell? ⟨g, i, none⟩ = some (.slice (some ⟨R i, 0, none⟩) (b.length + 1) (b.length + 1)) ∧ w'.cell? ⟨g, i + 1, none⟩ = some (.slice (some ⟨R (i + 1), 0, none⟩) (b.length + 1) (b.length + 1)) ∧ w'.cell? ⟨R (i + 1), k, none⟩ = some (.int .i64 u0) ∧ w'.cell? ⟨R i, k + 1, none⟩ = some (.int .i64 u1)) (first | exact keep4 hgR hne (by omega) y0 y1 z0 z1 | go_keep) (first | (go_at_call 106; (with_reducible refine (l1Most_any _ _ _).mono ?_); rintro e w' ⟨rfl, rfl⟩) | fail)
              have HO3 := Lib.hid (HO2.out.store (i := i) (k := k) (by omega) (.int .i64 (maxI u0 u1)))
              have HR3 := Lib.hid (HR2.out.store (i := i) (k := k) (by omega) (by omega) (maxI u0 u1))
              have hb3 : Below w.heap.size w (wr.setCell ⟨R i, k, none⟩ (.int .i64 (maxI u0 u1))).drew := bdrew (bset hb2 (p := ⟨R i, k, none⟩) (HR2.out.1 i (by omega)).1 _)
              obtain ⟨w3, hw3⟩ : ∃ w3 : World, w3 = (wr.setCell ⟨R i, k, none⟩ (.int .i64 (maxI u0 u1))).drew := ⟨_, rfl⟩
              have HO4 := Lib.hid (show OutAt w3 g R (a.length + 1) b.length by subst hw3; exact HO3.out)
              have HR4 := Lib.hid (show RowsAt w3 w.heap.size R (a.length + 1) b.length (updT T i k (maxI u0 u1)) by subst hw3; exact HR3.out)
              rw [← hw3] at hb3 ⊢
              clear hw3 HO3 HR3 y0 y1 z0 z1 z2 z3 f3
              obtain ⟨x, hx⟩ := some_get hil
              obtain ⟨y, hy⟩ := some_get hkl
              have hP := pB_at (t := t) (f := f) hx hy
              obtain ⟨bA, oA, rfl, hbA, p0, p1, p2, p3⟩ := (HA.out.below hb3).qu hx
              obtain ⟨bB, oB, rfl, hbB, r0, r1, r2, r3⟩ := (HB.out.below hb3).qu hy
              have hmt := fun W => l16Match_any x y t f W (HGA.out x (List.mem_of_getElem? hx)) (HGB.out y (List.mem_of_getElem? hy)) HW.out
              have ha1 := ib1 hil
              have hb1' := ib1 hkl
              have HC := Lib.hid (fun (X : Ext w3) => hmt X.w)
              clear hmt hx hy
              cases hm : matchB t f x y
              · rw [hm] at hP HC
                go_wp2_with fail
                (refine wp_region_calm (by kernel_rfl) (by kernel_rfl) ?_; (repeat (go_big_quiet_step (((go_at_call 60; exact calm_of (HC.out _)))))); refine wpQuiet_nil ?_; intro xw; have hb5 := xw.is; generalize xw.w = w5 at hb5 ⊢; clear xw)
                go_wp2_with fail
                go_roundw
                case rel => exact ⟨k, updT T i k (maxI u0 u1), by omega, by go_num, bstep hb3 hb5, Lib.hid (HO4.out.below hb5), Lib.hid (HR4.out.below hb5), Lib.hid (fun j q h1 h2 h3 => by
                  unfold updT; rw [if_neg (by omega)]; exact HT2.out j q h1 h2 h3), Lib.hid (fun q h1 h2 => by
                  unfold updT
                  by_cases e : q = k
                  · subst e
                    rw [if_pos ⟨rfl, rfl⟩, HL.out, hP]
                    unfold maxI
                    simp only [Bool.false_eq_true, if_false]
                    split <;> omega
                  · rw [if_neg (by omega)]; exact HK2.out q (by omega) h2), Lib.hid (fun j => by
                  unfold updT; rw [if_neg (by omega)]; exact HZ2.out j)⟩
                case measure => simp [intOf]
              · rw [hm] at hP HC
                go_wp2_with fail
                (refine wp_region_calm (by kernel_rfl) (by kernel_rfl) ?_; (repeat (go_big_quiet_step (((go_at_call 60; exact calm_of (HC.out _)))))); refine wpQuiet_nil ?_; intro xw; have hb5 := xw.is; generalize xw.w = w5 at hb5 ⊢; clear xw)
                have HO5 := Lib.hid (HO4.out.below hb5)
                have HR5 := Lib.hid (HR4.out.below hb5)
                have y0 : w5.cell? ⟨g, i, none⟩ = some (.slice (some ⟨R i, 0, none⟩) (b.length + 1) (b.length + 1)) := (HO5.out.2 i (by omega)).1
                have y1 : w5.cell? ⟨g, i + 1, none⟩ = some (.slice (some ⟨R (i + 1), 0, none⟩) (b.length + 1) (b.length + 1)) := (HO5.out.2 (i + 1) (by omega)).1
                obtain ⟨z0, f3⟩ := (HR5.out.1 i (by omega)).2.2 k (by omega)
                have z2 := ((HR5.out.1 (i + 1) (by omega)).2.2 (k + 1) (by omega)).1
                have eu : updT T i k (maxI u0 u1) i k = maxI u0 u1 := by unfold updT; rw [if_pos ⟨rfl, rfl⟩]
                have HE2 := Lib.hid (show updT T i k (maxI u0 u1) (i + 1) (k + 1) = u2 by
                  unfold updT; rw [if_neg (by omega)]; exact HU2.out)
                rw [eu] at z0
                rw [HE2.out] at z2
                have w3' : IntKind.i64.wrap (u2 + 1) = u2 + 1 := by rw [IntKind.wrap_i64]; omega
                clear p0 p1 p2 p3 r0 r1 r2 r3
                go_wp2_with fail
                have hs5 := hb5.size
                have y0 : w5.drew.cell? ⟨g, i, none⟩ = some (.slice (some ⟨R i, 0, none⟩) (b.length + 1) (b.length + 1)) := y0
                have y1 : w5.drew.cell? ⟨g, i + 1, none⟩ = some (.slice (some ⟨R (i + 1), 0, none⟩) (b.length + 1) (b.length + 1)) := y1
                have z0 : w5.drew.cell? ⟨R i, k, none⟩ = some (.int .i64 (maxI u0 u1)) := z0
                have z2 : w5.drew.cell? ⟨R (i + 1), k + 1, none⟩ = some (.int .i64 u2) := z2
                have f3 : w5.drew.frozen? ⟨R i, k, none⟩ = false := f3
                have HO6 := Lib.hid (show OutAt w5.drew g R (a.length + 1) b.length from HO5.out)
                have HR6 := Lib.hid (show RowsAt w5.drew w.heap.size R (a.length + 1) b.length (updT T i k (maxI u0 u1)) from HR5.out)
                have hb6 : Below w.heap.size w w5.drew := bdrew (bstep hb3 hb5)
                refine wp_region_still_tail 24 (by kernel_rfl) (by kernel_rfl) ?_
                simp only [List.take_succ_cons, List.take_zero, List.drop_succ_cons, List.drop_zero]
                change wpStill _ _ w5.drew _ _ _
                change wpStill _ _ _ (fun a' => wpList _ _ _ _ a' w5.drew) _ _
                generalize w5.drew = w6 at y0 y1 z0 z2 f3 HO6 HR6 hb6 ⊢
                repeat (first | still_step | still_call (l1Most_same _ _ _))
                refine wpStill_nil ?_
                go_wp2_with fail
                go_roundw
                case rel => exact ⟨k, updT (updT T i k (maxI u0 u1)) i k (maxI (maxI u0 u1) (u2 + 1)), by omega, by go_num, bset hb6 (p := ⟨R i, k, none⟩) (HR6.out.1 i (by omega)).1 _, Lib.hid (HO6.out.store (by omega) _), Lib.hid (HR6.out.store (by omega) (by omega) _), Lib.hid (fun j q h1 h2 h3 => by
                  unfold updT; rw [if_neg (by omega), if_neg (by omega)]; exact HT2.out j q h1 h2 h3), Lib.hid (fun q h1 h2 => by
                  unfold updT
                  by_cases e : q = k
                  · subst e
                    rw [if_pos ⟨rfl, rfl⟩, HL.out, hP]
                    unfold maxI
                    simp only [if_true]
                    repeat' split
                    all_goals omega
                  · rw [if_neg (by omega), if_neg (by omega)]; exact HK2.out q (by omega) h2), Lib.hid (fun j => by
                  unfold updT; rw [if_neg (by omega), if_neg (by omega)]; exact HZ2.out j)⟩
                case measure => simp [intOf]
end Go.Proofs.Ytlinjkfbcekepaa
