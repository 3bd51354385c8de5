/-
  impl.longest: the longest pairing.
-/
import Derived.Test.YtlinjkfbcekepaaQuPrs
namespace Go.Proofs.Ytlinjkfbcekepaa
set_option linter.unusedVariables false
set_option linter.unusedSimpArgs false
set_option linter.unnecessarySimpa false
open Go.RowKit
attribute [local go_sem] ext_cell ext_frozen

theorem mk_out {n : Nat} (hn : n ≤ 1048576) (w : World) : (Instr.makeSlice 98 (.int .i64 ((n : Int) + 1)) (.int .i64 ((n : Int) + 1))).run Try.prog w = .ok (.slice (some ⟨w.heap.size, 0, none⟩) (n + 1) (n + 1)) (w.alloc (.cells (madeCells #[.slice none 0 0] (n + 1)) 54)) := by
  obtain ⟨i0, hi0, hz0, hz1, hz2⟩ := info_parts infoII
  have h := run_make (P := Try.prog) w 98 54 i0 (.slice none 0 0) Try.underlying98 hi0 hz0 .i64 .i64 ((n : Int) + 1) ((n : Int) + 1) (by omega) (by omega) (by rw [hz2]; omega) (by omega)
  have e : ((n : Int) + 1).toNat = n + 1 := by omega
  rw [e, hz1, Nat.mul_one] at h
  exact h
/-- The outer row with k rows in it; the others are nil. -/
def PartAt (w : World) (g : Nat) (R : Nat → Nat) (k n m : Nat) : Prop := g < w.heap.size ∧ ∀ j, j ≤ n → w.frozen? ⟨g, j, none⟩ = false ∧ w.cell? ⟨g, j, none⟩ = some (if j < k then rowV R m j else .slice none 0 0) ∧ (j < k → g ≠ R j)
theorem PartAt.made {n m : Nat} {R : Nat → Nat} (w : World) : PartAt (w.alloc (.cells (madeCells #[.slice none 0 0] (n + 1)) 54)) w.heap.size R 0 n m := by
  have hs : (madeCells #[Value.slice none 0 0] (n + 1)).size = n + 1 := size_madeCells _ _
  refine ⟨by simp, fun j hj => ⟨by simp [go_sem], ?_, fun h => absurd h (by omega)⟩⟩
  have hg : (madeCells #[Value.slice none 0 0] (n + 1))[j]? = some (.slice none 0 0) := by
    rw [Array.getElem?_eq_getElem (by omega)]
    simp [madeCells, Nat.mod_one]
  simp [go_sem, hs, hg]
theorem PartAt.below {w w' : World} {g k n m : Nat} {R : Nat → Nat} (h : PartAt w g R k n m) (hb : Below w.heap.size w w') : PartAt w' g R k n m :=
  ⟨Nat.lt_of_lt_of_le h.1 hb.size, fun j hj => ⟨(hb.frozen (p := ⟨g, j, none⟩) h.1).trans (h.2 j hj).1, (hb.cell (p := ⟨g, j, none⟩) h.1).trans (h.2 j hj).2.1, (h.2 j hj).2.2⟩⟩
theorem PartAt.push {w : World} {g k n m b : Nat} {R : Nat → Nat} (h : PartAt w g R k n m) (hk : k ≤ n) (hb : g ≠ b) : PartAt (w.setCell ⟨g, k, none⟩ (.slice (some ⟨b, 0, none⟩) (m + 1) (m + 1))) g (fun j => if j = k then b else R j) (k + 1) n m := by
  refine ⟨by simpa [World.setCell] using h.1, fun j hj => ⟨by simpa using (h.2 j hj).1, ?_, fun hjk => ?_⟩⟩
  · by_cases e : j = k
    · subst e
      rw [World.cell?_setCell_same _ _ _ (h.2 j hj).2.1]
      simp [rowV]
    · rw [World.cell?_setCell_other, (h.2 j hj).2.1]
      · by_cases hjk : j < k
        · simp [hjk, show j < k + 1 by omega, rowV, e]
        · simp [hjk, show ¬ j < k + 1 by omega]
      · intro e2
        simp only [Addr.mk.injEq, and_true, true_and] at e2
        exact e e2.symm
  · by_cases e : j = k
    · simpa [e] using hb
    · simp only [if_neg e]
      exact (h.2 j hj).2.2 (by omega)
theorem PartAt.out {w : World} {g n m : Nat} {R : Nat → Nat} (h : PartAt w g R (n + 1) n m) : OutAt w g R (n + 1) m :=
  ⟨h.1, fun j hj => ⟨by rw [(h.2 j (by omega)).2.1, if_pos hj], (h.2 j (by omega)).2.2 hj⟩⟩
theorem RowsAt.set_out {w : World} {base g n m k : Nat} {R : Nat → Nat} {T : Nat → Nat → Int} (h : RowsAt w base R n m T) (hg : ∀ j, j < n → g ≠ R j) (v : Value) : RowsAt (w.setCell ⟨g, k, none⟩ v) base R n m T :=
  ⟨fun j hj => by
    obtain ⟨h1, h2, h3⟩ := h.1 j hj
    refine ⟨h1, by simpa [World.setCell] using h2, fun q hq => ⟨?_, by simpa using (h3 q hq).2⟩⟩
    rw [World.cell?_setCell_other]
    · exact (h3 q hq).1
    · intro e
      simp only [Addr.mk.injEq, and_true] at e
      exact hg j hj e.1, h.2⟩
set_option maxRecDepth 100000 in
set_option maxHeartbeats 8000000 in
theorem longest_any (a b : List Qu) (A B : Option Addr) (ca cb : Nat) (t f : Int) (w : World) (ha : RowAt 4 encQu w A a) (hb : RowAt 4 encQu w B b) (hla : a.length ≤ 10) (hlb : b.length ≤ 10) (hga : ∀ m ∈ a, oneQu m = true) (hgb : ∀ m ∈ b, oneQu m = true) (hw : winB t f = true) :
    Calls Try.prog 65 #[.slice A a.length ca, .slice B b.length cb, .int .i64 t, .int .i64 f] w (MkS 66 2 (lpP a b t f 0 0).length ((lpP a b t f 0 0).flatMap encP2) w) := by
  have HA := Lib.hid ha
  have HB := Lib.hid hb
  have HGA := Lib.hid hga
  have HGB := Lib.hid hgb
  have HW := Lib.hid hw
  clear ha hb hga hgb hw
  have hmk := fun W => mk_row (m := b.length) (by omega) W
  have hmo := fun W => mk_out (n := a.length) (by omega) W
  have HP0 := Lib.hid (PartAt.made (n := a.length) (m := b.length) (R := fun _ => 0) w)
  go_enter Try.func65, Try.ntmps65
  go_wp2_with fail
  clear hmo
  go_loopw [23] (fun i wr => ∃ (k : Nat) (R : Nat → Nat), k ≤ a.length + 1 ∧ i = .int .i64 k ∧ Below w.heap.size w wr ∧ w.heap.size < wr.heap.size ∧ Hid (PartAt wr w.heap.size R k a.length b.length) ∧ Hid (RowsAt wr w.heap.size R k b.length (fun _ _ => 0))) (fun i _ => a.length + 1 - (intOf i).toNat)
  case atStart => exact ⟨0, fun _ => 0, Nat.zero_le _, rfl, balloc (bref _) _, by simp, HP0, Lib.hid ⟨fun j hj => absurd hj (by omega), fun i j hi => absurd hi (by omega)⟩⟩
  case round =>
    obtain ⟨k, R, hk, rfl, hbr, hlw, HP, HR⟩ := hrel
    by_cases hlt : k < a.length + 1
    · have i0 := ib0 k
      have i1 : (k : Int) < (a.length : Int) + 1 := by omega
      have hP2 := HP.out.below (balloc (bref wr) (.cells (madeCells #[.int .i64 0] (b.length + 1)) 3))
      obtain ⟨f0, c0, _⟩ := hP2.2 k (by omega)
      rw [if_neg (Nat.lt_irrefl k)] at c0
      have HPP := Lib.hid (hP2.push (k := k) (b := wr.heap.size) (by omega) (by omega))
      have hR2 := HR.out.below (balloc (bref wr) (.cells (madeCells #[.int .i64 0] (b.length + 1)) 3))
      have HRR := Lib.hid (hR2.push (b := wr.heap.size) (by omega) (by simp) (fun j hj => (HR.out.1 j hj).2.1) (fun q hq => mk_cell wr hq))
      clear hP2 hR2
      go_wp2_with fail
      go_roundw
      case rel =>
        simp only [← World.setCell_alloc_past _ _ _ _ hlw]
        refine ⟨k + 1, fun j => if j = k then wr.heap.size else R j, by omega, by go_num, bset (balloc hbr _) (p := ⟨w.heap.size, k, none⟩) (Nat.le_refl _) _, by simp [World.setCell]; omega, HPP, Lib.hid (HRR.out.set_out (fun j hj => (HPP.out.2 j (by omega)).2.2 hj) _)⟩
      case measure => simp [intOf]; omega
    · obtain rfl : k = a.length + 1 := by omega
      have HOUT := Lib.hid HP.out.out
      have HT0 := HR
      clear HP HR HP0
      have ec : ((a.length + 1 : Nat) : Int) = (a.length : Int) + 1 := by omega
      simp only [ec]
      have hno2 : decide ((a.length : Int) + 1 < (a.length : Int) + 1) = false := by simp
      go_wp2_with fail
      try simp only [hno2]
      go_loopw [11] (fun v wr => ∃ (i1 : Nat) (T : Nat → Nat → Int), i1 ≤ a.length ∧ v = .int .i64 ((i1 : Int) - 1) ∧ Below w.heap.size w wr ∧ Hid (OutAt wr w.heap.size R (a.length + 1) b.length) ∧ Hid (RowsAt wr w.heap.size R (a.length + 1) b.length T) ∧ Hid (∀ j q, i1 ≤ j → j ≤ a.length → q ≤ b.length → T j q = lpL (pB a b t f) a.length b.length j q) ∧ Hid (∀ j, T j b.length = 0)) (fun v _ => (intOf v + 1).toNat)
      case atStart => exact ⟨a.length, fun _ _ => 0, Nat.le_refl _, rfl, hbr, HOUT, HT0, Lib.hid (fun j q h1 h2 _ => by rw [lpL_row _ _ _ (by omega)]), Lib.hid (fun _ => rfl)⟩
      case round =>
        obtain ⟨i1, T, hi1, rfl, hb1, HO1, HR1, HT1, HZ1⟩ := hrel
        rcases i1 with _ | i
        · have e0 : ((0 : Nat) : Int) - 1 = -1 := rfl
          simp only [e0]
          have HT := Lib.hid (show TabAt wr w.heap.size w.heap.size (a.length + 1) b.length (lpL (pB a b t f) a.length b.length) from ⟨R, HO1.out, HR1.out.ext (fun j q hj hq => HT1.out j q (Nat.zero_le _) (by omega) hq)⟩)
          clear HO1 HR1 HT1 HZ1
          have hno3 : decide (0 ≤ (-1 : Int)) = false := by simp
          go_wp2_with fail
          try simp only [hno3]
          obtain ⟨w1, hw1⟩ : ∃ w1, w1 = wr := ⟨_, rfl⟩
          rw [← hw1]
          have HT := Lib.hid (show TabAt w1 w.heap.size w.heap.size (a.length + 1) b.length (lpL (pB a b t f) a.length b.length) by rw [hw1]; exact HT.out)
          have hb1 : Below w.heap.size w w1 := by rw [hw1]; exact hb1
          clear hw1
          have hs1 := hb1.size
          go_loopw [13, 14, 109] (fun o nv iv wr => ∃ (i k : Nat) (D : List P2) (A' : Option Addr) (c' : Nat), i ≤ a.length ∧ k ≤ b.length ∧ iv = .int .i64 i ∧ nv = .int .i64 k ∧ o = .slice A' D.length c' ∧ D.length ≤ i ∧ Hid (lpP a b t f 0 0 = D ++ lpP a b t f i k) ∧ (D.length : Int) + lpL (pB a b t f) a.length b.length i k = lpL (pB a b t f) a.length b.length 0 0 ∧ Below w.heap.size w wr ∧ Below w1.heap.size w1 wr ∧ Hid (wr.ownsRow w1.heap.size 66 2 (.slice A' D.length c') D.length (D.flatMap encP2))) (fun _ _ i _ => a.length - (intOf i).toNat)
          case atStart => exact ⟨0, 0, [], some ⟨w1.heap.size, 0, none⟩, 0, Nat.zero_le _, Nat.zero_le _, rfl, rfl, rfl, Nat.le_refl _, Lib.hid (by simp), by simp, balloc hb1 _, balloc (bref _) _, Lib.hid (own_made (cur := #[]) rfl (Nat.zero_le _))⟩
          case round =>
            obtain ⟨i, k, D, A', c', hi, hk, rfl, rfl, rfl, hD, HD, hL, hbr, hb2, HO⟩ := hrel
            have b0 := lpL_nn (pB a b t f) a.length b.length 0 0
            by_cases hlt : i < a.length
            · obtain ⟨wo, rfl⟩ : ∃ wo : World, wo = wr := ⟨_, rfl⟩
              go_wp2_with fail
              go_loopw [13, 14, 16] (fun o nv v wi => ∃ y : Nat, k ≤ y ∧ y ≤ b.length ∧ v = .int .i64 y ∧ o = .slice A' D.length c' ∧ nv = .int .i64 k ∧ Below w.heap.size w wi ∧ Below w1.heap.size w1 wi ∧ Hid (wi.ownsRow w1.heap.size 66 2 (.slice A' D.length c') D.length (D.flatMap encP2)) ∧ Hid (∀ y', k ≤ y' → y' < y → lpHit (pB a b t f) a.length b.length i y' (lpL (pB a b t f) a.length b.length i k) = false)) (fun _ _ v _ => b.length - (intOf v).toNat)
              case atStart => exact ⟨k, Nat.le_refl _, hk, rfl, rfl, rfl, hbr, hb2, HO, Lib.hid (fun y' h1 h2 => absurd h2 (by omega))⟩
              case round =>
                obtain ⟨y, hy1, hy2, rfl, rfl, rfl, hbr, hb2, HO, HM⟩ := hrel
                by_cases hly : y < b.length
                · obtain ⟨qx, hx⟩ := some_get hlt
                  obtain ⟨qy, hy⟩ := some_get hly
                  have hP := pB_at (t := t) (f := f) hx hy
                  obtain ⟨bA, oA, rfl, hbA, p0, p1, p2, p3⟩ := (HA.out.below hbr).qu hx
                  obtain ⟨bB, oB, rfl, hbB, r0, r1, r2, r3⟩ := (HB.out.below hbr).qu hy
                  have hmt := fun W => match_any qx qy t f W (HGA.out qx (List.mem_of_getElem? hx)) (HGB.out qy (List.mem_of_getElem? hy)) HW.out
                  have i0 := ib0 i
                  have j0 := ib0 y
                  have ha1 := ib1 hlt
                  have hb1' := ib1 hly
                  obtain ⟨R2, HO2, HR2⟩ := HT.out.below hb2
                  have hgz := HO2.1
                  have y0 : wr.cell? ⟨w.heap.size, 0, none⟩ = some (.slice (some ⟨R2 0, 0, none⟩) (b.length + 1) (b.length + 1)) := (HO2.2 0 (by omega)).1
                  have y1 : wr.cell? ⟨w.heap.size, i + 1, none⟩ = some (.slice (some ⟨R2 (i + 1), 0, none⟩) (b.length + 1) (b.length + 1)) := (HO2.2 (i + 1) (by omega)).1
                  have z0 := ((HR2.1 0 (by omega)).2.2 0 (by omega)).1
                  have z1 := ((HR2.1 (i + 1) (by omega)).2.2 (y + 1) (by omega)).1
                  have hz0 := (HR2.1 0 (by omega)).2.1
                  have hz1 := (HR2.1 (i + 1) (by omega)).2.1
                  clear HO2 HR2
                  have b2 := lpL_nn (pB a b t f) a.length b.length (i + 1) (y + 1)
                  have HX := Lib.hid (show lpHit (pB a b t f) a.length b.length i y (lpL (pB a b t f) a.length b.length i k) = (matchB t f qx qy && decide (lpL (pB a b t f) a.length b.length (i + 1) (y + 1) + 1 = lpL (pB a b t f) a.length b.length i k)) by unfold lpHit; rw [hP])
                  have HG := Lib.hid (fun (h : lpHit (pB a b t f) a.length b.length i y (lpL (pB a b t f) a.length b.length i k) = true) => lpG_some (pB a b t f) a.length b.length (q := k) hlt hy1 hly h HM.out)
                  have hi2 : (i : Int) + 1 < (a.length : Int) + 1 := by omega
                  have hi3 : 0 ≤ (i : Int) + 1 := by omega
                  have hk2 : (y : Int) + 1 < (b.length : Int) + 1 := by omega
                  have hk3 : 0 ≤ (y : Int) + 1 := by omega
                  have hn1 : (0 : Int) < (a.length : Int) + 1 := by omega
                  have hn2 : (0 : Int) < (b.length : Int) + 1 := by omega
                  have t1 : ((i : Int) + 1).toNat = i + 1 := by omega
                  have t2 : ((y : Int) + 1).toNat = y + 1 := by omega
                  have w1' : IntKind.i64.wrap ((i : Int) + 1) = (i : Int) + 1 := by rw [IntKind.wrap_i64]; omega
                  have w2' : IntKind.i64.wrap ((y : Int) + 1) = (y : Int) + 1 := by rw [IntKind.wrap_i64]; omega
                  have w3' : IntKind.i64.wrap ((D.length : Int) + 1) = (D.length : Int) + 1 := by rw [IntKind.wrap_i64]; omega
                  generalize hu : lpL (pB a b t f) a.length b.length (i + 1) (y + 1) = u at z1 b2 HX
                  generalize hvv : lpL (pB a b t f) a.length b.length i k = v at hL HM HX HG ⊢
                  generalize hv0 : lpL (pB a b t f) a.length b.length 0 0 = v0 at z0 hL b0 ⊢
                  have HV0 := Lib.hid hv0
                  clear hv0
                  have HU := Lib.hid hu
                  have HVV := Lib.hid hvv
                  clear hu hvv
                  have w4' : IntKind.i64.wrap ((D.length : Int) + 1 + u) = (D.length : Int) + 1 + u := by rw [IntKind.wrap_i64]; omega
                  have HC := Lib.hid hmt
                  clear hmt hx hy hP
                  cases hm : matchB t f qx qy
                  · have HC2 := Lib.hid (fun W => by have := HC.out W; rw [hm] at this; exact this)
                    clear HC
                    go_wp2_with fail
                    (refine wp_region_calm (by kernel_rfl) (by kernel_rfl) ?_; (repeat (go_big_quiet_step (((go_at_call 63; exact calm_of (HC2.out _)))))); refine wpQuiet_nil ?_; intro xw; have hb5 := xw.is; generalize xw.w = w5 at hb5 ⊢; clear xw)
                    go_wp2_with fail
                    go_roundw
                    case rel => exact ⟨y + 1, by omega, by omega, by go_num, rfl, rfl, bstep hbr hb5, bstep hb2 hb5, Lib.hid (own_below HO.out hb5), Lib.hid (fun y' h1 h2 => by
                      by_cases e : y' = y
                      · subst e; rw [HX.out, hm]; rfl
                      · exact HM.out y' h1 (by omega))⟩
                    case measure => simp [intOf]; omega
                  · have HC2 := Lib.hid (fun W => by have := HC.out W; rw [hm] at this; exact this)
                    clear HC
                    by_cases he : (D.length : Int) + 1 + u = v0
                    · have he2 : u + 1 = v := by omega
                      have HG2 := Lib.hid (HG.out (by rw [HX.out, hm, he2]; simp))
                      go_wp2_with fail
                      (refine wp_region_calm (by kernel_rfl) (by kernel_rfl) ?_; (repeat (go_big_quiet_step (((go_at_call 63; exact calm_of (HC2.out _)))))); refine wpQuiet_nil ?_; intro xw; have hb5 := xw.is; generalize xw.w = w5 at hb5 ⊢; clear xw)
                      have HO4 := Lib.hid (own_below HO.out hb5)
                      have hs5 := hb5.size
                      have hs2 := hb2.size
                      go_wp2_with (at_builtin; refine wpList_app rfl _ _ 34 66 2 16 _ rfl Try.underlying34 infoP2 rfl (by decide) w1.heap.size _ D.length _ (by rfl) (HO4.out.alloc _) _ _ (by rfl) (heap_new1 _ _) rfl (encP2_one ⟨(i : Int), (y : Int)⟩) (by omega) (by decide) (by simp; omega) ?_; intro g5 c5 w6 ho5 hg5 hl5)
                      go_roundw
                      case rel =>
                        refine ⟨i + 1, y + 1, D ++ [⟨(i : Int), (y : Int)⟩], some ⟨g5, 0, none⟩, c5, by omega, by omega, by go_num, by go_num, by simp, by simp; omega, Lib.hid ?_, ?_, ?_, ?_, Lib.hid ?_⟩
                        · rw [HD.out]; unfold lpP; rw [HG2.out]; simp [pr2]
                        · rw [HU.out, HV0.out]; simp; omega
                        · exact bgrown (balloc (bstep hbr hb5) _) hg5 (fun k hk => Nat.le_trans hs1 (row_mine HO.out k hk))
                        · exact bgrown (balloc (bstep hb2 hb5) _) hg5 (fun k hk => row_mine HO.out k hk)
                        · simpa [encP2] using ho5
                      case measure => simp [intOf]; omega
                    · go_wp2_with fail
                      (refine wp_region_calm (by kernel_rfl) (by kernel_rfl) ?_; (repeat (go_big_quiet_step (((go_at_call 63; exact calm_of (HC2.out _)))))); refine wpQuiet_nil ?_; intro xw; have hb5 := xw.is; generalize xw.w = w5 at hb5 ⊢; clear xw)
                      go_wp2_with fail
                      go_roundw
                      case rel => exact ⟨y + 1, by omega, by omega, by go_num, rfl, rfl, bstep hbr hb5, bstep hb2 hb5, Lib.hid (own_below HO.out hb5), Lib.hid (fun y' h1 h2 => by
                        by_cases e : y' = y
                        · subst e; rw [HX.out, hm, decide_eq_false (by omega)]; rfl
                        · exact HM.out y' h1 (by omega))⟩
                      case measure => simp [intOf]; omega
                · obtain rfl : y = b.length := by omega
                  obtain ⟨e1, e2⟩ := lpG_none (pB a b t f) a.length b.length (q := k) hlt HM.out
                  go_wp2_with fail
                  go_roundw
                  case rel => exact ⟨i + 1, k, D, A', c', by omega, hk, by go_num, rfl, rfl, by omega, Lib.hid (by rw [HD.out]; unfold lpP; rw [e1]), by rw [e2]; exact hL, hbr, hb2, HO⟩
                  case measure => simp [intOf]; omega
            · obtain rfl : i = a.length := by omega
              have HF := Lib.hid (show lpP a b t f 0 0 = D by
                rw [HD.out]; unfold lpP; rw [lpG_row _ _ _ (Nat.le_refl _)]; simp)
              go_wp2_with fail
              go_ret
              rw [HF.out]
              exact ⟨A', c', rfl, own_base HO.out hs1, hbr⟩
        · have e0 : ((i + 1 : Nat) : Int) - 1 = (i : Int) := by omega
          simp only [e0]
          have hi0 := ib0 i
          have HIA := Lib.hid hi1
          obtain ⟨wo, rfl⟩ : ∃ wo : World, wo = wr := ⟨_, rfl⟩
          go_wp2_with fail
          go_loopw [12] (fun v wi => ∃ (k1 : Nat) (T : Nat → Nat → Int), k1 ≤ b.length ∧ v = .int .i64 ((k1 : Int) - 1) ∧ Below w.heap.size w wi ∧ Hid (OutAt wi w.heap.size R (a.length + 1) b.length) ∧ Hid (RowsAt wi w.heap.size R (a.length + 1) b.length T) ∧ Hid (∀ j q, i + 1 ≤ j → j ≤ a.length → q ≤ b.length → T j q = lpL (pB a b t f) a.length b.length j q) ∧ Hid (∀ q, k1 ≤ q → q ≤ b.length → T i q = lpL (pB a b t f) a.length b.length i q) ∧ Hid (∀ j, T j b.length = 0)) (fun v _ => (intOf v + 1).toNat)
          case atStart => exact ⟨b.length, T, Nat.le_refl _, rfl, hb1, HO1, HR1, HT1, Lib.hid (fun q h1 h2 => by rw [show q = b.length by omega, HZ1.out, lpL_col _ _ _ (Nat.le_refl _)]), HZ1⟩
          case round =>
            obtain ⟨k1, T, hk1, rfl, hb2, HO2, HR2, HT2, HK2, HZ2⟩ := hrel
            rcases k1 with _ | k
            · have e1 : ((0 : Nat) : Int) - 1 = -1 := rfl
              simp only [e1]
              go_wp2_with fail
              go_roundw
              case rel => exact ⟨i, T, by have := HIA.out; omega, by go_num, hb2, HO2, HR2, Lib.hid (fun j q h1 h2 h3 => by
                by_cases e : j = i
                · subst e; exact HK2.out q (Nat.zero_le _) h3
                · exact HT2.out j q (by omega) h2 h3), HZ2⟩
              case measure => simp [intOf]
            · have e1 : ((k + 1 : Nat) : Int) - 1 = (k : Int) := by omega
              simp only [e1]
              have hia := HIA.out
              have hk0 := ib0 k
              have hs2 := hb2.size
              have y0 : wr.cell? ⟨w.heap.size, i, none⟩ = some (.slice (some ⟨R i, 0, none⟩) (b.length + 1) (b.length + 1)) := (HO2.out.2 i (by omega)).1
              have y1 : wr.cell? ⟨w.heap.size, i + 1, none⟩ = some (.slice (some ⟨R (i + 1), 0, none⟩) (b.length + 1) (b.length + 1)) := (HO2.out.2 (i + 1) (by omega)).1
              have z0 := ((HR2.out.1 (i + 1) (by omega)).2.2 k (by omega)).1
              have z1 := ((HR2.out.1 i (by omega)).2.2 (k + 1) (by omega)).1
              have z2 := ((HR2.out.1 (i + 1) (by omega)).2.2 (k + 1) (by omega)).1
              obtain ⟨z3, f3⟩ := (HR2.out.1 i (by omega)).2.2 k (by omega)
              rw [HT2.out (i + 1) k (Nat.le_refl _) (by omega) (by omega)] at z0
              rw [HK2.out (k + 1) (by omega) (by omega)] at z1
              rw [HT2.out (i + 1) (k + 1) (Nat.le_refl _) (by omega) (by omega)] at z2
              have b0 := lpL_nn (pB a b t f) a.length b.length (i + 1) k
              have b1 := lpL_nn (pB a b t f) a.length b.length i (k + 1)
              have b2 := lpL_nn (pB a b t f) a.length b.length (i + 1) (k + 1)
              have HL := Lib.hid (lpL_in (pB a b t f) a.length b.length (i := i) (k := k) (by omega) (by omega))
              have hne : R (i + 1) ≠ R i := fun e => by have := HR2.out.2 _ _ (by omega) (by omega) e; omega
              have HU2 := HT2.out (i + 1) (k + 1) (Nat.le_refl _) (by omega) (by omega)
              generalize lpL (pB a b t f) a.length b.length (i + 1) k = u0 at z0 b0 HL
              generalize lpL (pB a b t f) a.length b.length i (k + 1) = u1 at z1 b1 HL
              generalize lpL (pB a b t f) a.length b.length (i + 1) (k + 1) = u2 at z2 b2 HL HU2
              have HU2 := Lib.hid HU2
              have hi1' : (i : Int) < (a.length : Int) + 1 := by omega
              have hi2' : (i : Int) + 1 < (a.length : Int) + 1 := by omega
              have hi3' : 0 ≤ (i : Int) + 1 := by omega
              have hk1' : (k : Int) < (b.length : Int) + 1 := by omega
              have hk2' : (k : Int) + 1 < (b.length : Int) + 1 := by omega
              have hk3' : 0 ≤ (k : Int) + 1 := by omega
              have hil : i < a.length := by omega
              have hkl : k < b.length := by omega
              have hil2 : (i : Int) < (a.length : Int) := by omega
              have hkl2 : (k : Int) < (b.length : Int) := by omega
              have w1' : IntKind.i64.wrap ((i : Int) + 1) = (i : Int) + 1 := by rw [IntKind.wrap_i64]; omega
              have w2' : IntKind.i64.wrap ((k : Int) + 1) = (k : Int) + 1 := by rw [IntKind.wrap_i64]; omega
              have t1 : ((i : Int) + 1).toNat = i + 1 := by omega
              have t2 : ((k : Int) + 1).toNat = k + 1 := by omega
              have hgR := (HO2.out.2 i (by omega)).2
              go_wp2_with fail
              have HO6 := Lib.hid (show OutAt wr.drew w.heap.size R (a.length + 1) b.length from HO2.out)
              have HR6 := Lib.hid (show RowsAt wr.drew w.heap.size R (a.length + 1) b.length T from HR2.out)
              have hb6 : Below w.heap.size w wr.drew := bdrew hb2
              have y0 : wr.drew.cell? ⟨w.heap.size, i, none⟩ = some (.slice (some ⟨R i, 0, none⟩) (b.length + 1) (b.length + 1)) := y0
              have y1 : wr.drew.cell? ⟨w.heap.size, i + 1, none⟩ = some (.slice (some ⟨R (i + 1), 0, none⟩) (b.length + 1) (b.length + 1)) := y1
              have z0 : wr.drew.cell? ⟨R (i + 1), k, none⟩ = some (.int .i64 u0) := z0
              have z1 : wr.drew.cell? ⟨R i, k + 1, none⟩ = some (.int .i64 u1) := z1
              have z3 : wr.drew.cell? ⟨R i, k, none⟩ = some (.int .i64 (T i k)) := z3
              have f3 : wr.drew.frozen? ⟨R i, k, none⟩ = false := f3
              refine wp_region_still_tail 23 (by kernel_rfl) (by kernel_rfl) ?_
              simp only [List.take_succ_cons, List.take_zero, List.drop_succ_cons, List.drop_zero]
              change wpStill _ _ wr.drew _ _ _
              change wpStill _ _ _ (fun a' => wpList _ _ _ _ a' wr.drew) _ _
              generalize wr.drew = w6 at y0 y1 z0 z1 z3 f3 HO6 HR6 hb6 ⊢
              repeat still_step
              refine wpStill_nil ?_
              generalize hM : (if u0 < u1 then u1 else u0) = M
              have hMb : 0 ≤ M ∧ M ≤ a.length := by rw [← hM]; split <;> omega
              have HMX := Lib.hid hM
              clear hM
              go_wp2_with fail
              have HO3 := Lib.hid (HO6.out.store (i := i) (k := k) (by omega) (.int .i64 M))
              have HR3 := Lib.hid (HR6.out.store (i := i) (k := k) (by omega) (by omega) M)
              have hb3 : Below w.heap.size w (w6.setCell ⟨R i, k, none⟩ (.int .i64 M)) := bset hb6 (p := ⟨R i, k, none⟩) (HR6.out.1 i (by omega)).1 _
              obtain ⟨w3, hw3⟩ : ∃ w3 : World, w3 = w6.setCell ⟨R i, k, none⟩ (.int .i64 M) := ⟨_, rfl⟩
              have HO4 := Lib.hid (show OutAt w3 w.heap.size R (a.length + 1) b.length by subst hw3; exact HO3.out)
              have HR4 := Lib.hid (show RowsAt w3 w.heap.size R (a.length + 1) b.length (updT T i k M) by subst hw3; exact HR3.out)
              rw [← hw3] at hb3 ⊢
              clear hw3 HO3 HR3 y0 y1 z0 z1 z2 z3 f3
              obtain ⟨x, hx⟩ := some_get hil
              obtain ⟨y, hy⟩ := some_get hkl
              have hP := pB_at (t := t) (f := f) hx hy
              obtain ⟨bA, oA, rfl, hbA, p0, p1, p2, p3⟩ := (HA.out.below hb3).qu hx
              obtain ⟨bB, oB, rfl, hbB, r0, r1, r2, r3⟩ := (HB.out.below hb3).qu hy
              have hmt := fun W => match_any x y t f W (HGA.out x (List.mem_of_getElem? hx)) (HGB.out y (List.mem_of_getElem? hy)) HW.out
              have ha1 := ib1 hil
              have hb1' := ib1 hkl
              have HC := Lib.hid (fun (X : Ext w3) => hmt X.w)
              clear hmt hx hy
              cases hm : matchB t f x y
              · rw [hm] at hP HC
                go_wp2_with fail
                (refine wp_region_calm (by kernel_rfl) (by kernel_rfl) ?_; (repeat (go_big_quiet_step (((go_at_call 63; exact calm_of (HC.out _)))))); refine wpQuiet_nil ?_; intro xw; have hb5 := xw.is; generalize xw.w = w5 at hb5 ⊢; clear xw)
                go_wp2_with fail
                go_roundw
                case rel => exact ⟨k, updT T i k M, by omega, by go_num, bstep hb3 hb5, Lib.hid (HO4.out.below hb5), Lib.hid (HR4.out.below hb5), Lib.hid (fun j q h1 h2 h3 => by
                  unfold updT; rw [if_neg (by omega)]; exact HT2.out j q h1 h2 h3), Lib.hid (fun q h1 h2 => by
                  unfold updT
                  by_cases e : q = k
                  · subst e
                    rw [if_pos ⟨rfl, rfl⟩, HL.out, hP]
                    simp only [Bool.false_eq_true, if_false]
                    have h1 := HMX.out
                    split at h1 <;> omega
                  · rw [if_neg (by omega)]; exact HK2.out q (by omega) h2), Lib.hid (fun j => by
                  unfold updT; rw [if_neg (by omega)]; exact HZ2.out j)⟩
                case measure => simp [intOf]
              · rw [hm] at hP HC
                go_wp2_with fail
                (refine wp_region_calm (by kernel_rfl) (by kernel_rfl) ?_; (repeat (go_big_quiet_step (((go_at_call 63; exact calm_of (HC.out _)))))); refine wpQuiet_nil ?_; intro xw; have hb5 := xw.is; generalize xw.w = w5 at hb5 ⊢; clear xw)
                have HO5 := Lib.hid (HO4.out.below hb5)
                have HR5 := Lib.hid (HR4.out.below hb5)
                have y0 : w5.cell? ⟨w.heap.size, i, none⟩ = some (.slice (some ⟨R i, 0, none⟩) (b.length + 1) (b.length + 1)) := (HO5.out.2 i (by omega)).1
                have y1 : w5.cell? ⟨w.heap.size, i + 1, none⟩ = some (.slice (some ⟨R (i + 1), 0, none⟩) (b.length + 1) (b.length + 1)) := (HO5.out.2 (i + 1) (by omega)).1
                obtain ⟨z0, f3⟩ := (HR5.out.1 i (by omega)).2.2 k (by omega)
                have z2 := ((HR5.out.1 (i + 1) (by omega)).2.2 (k + 1) (by omega)).1
                have eu : updT T i k M i k = M := by unfold updT; rw [if_pos ⟨rfl, rfl⟩]
                have HE2 := Lib.hid (show updT T i k M (i + 1) (k + 1) = u2 by
                  unfold updT; rw [if_neg (by omega)]; exact HU2.out)
                rw [eu] at z0
                rw [HE2.out] at z2
                have w3' : IntKind.i64.wrap (1 + u2) = 1 + u2 := by rw [IntKind.wrap_i64]; omega
                clear p0 p1 p2 p3 r0 r1 r2 r3
                go_wp2_with fail
                have hs5 := hb5.size
                have y0 : w5.drew.cell? ⟨w.heap.size, i, none⟩ = some (.slice (some ⟨R i, 0, none⟩) (b.length + 1) (b.length + 1)) := y0
                have y1 : w5.drew.cell? ⟨w.heap.size, i + 1, none⟩ = some (.slice (some ⟨R (i + 1), 0, none⟩) (b.length + 1) (b.length + 1)) := y1
                have z0 : w5.drew.cell? ⟨R i, k, none⟩ = some (.int .i64 (M)) := z0
                have z2 : w5.drew.cell? ⟨R (i + 1), k + 1, none⟩ = some (.int .i64 u2) := z2
                have f3 : w5.drew.frozen? ⟨R i, k, none⟩ = false := f3
                have HO6 := Lib.hid (show OutAt w5.drew w.heap.size R (a.length + 1) b.length from HO5.out)
                have HR6 := Lib.hid (show RowsAt w5.drew w.heap.size R (a.length + 1) b.length (updT T i k M) from HR5.out)
                have hb6 : Below w.heap.size w w5.drew := bdrew (bstep hb3 hb5)
                refine wp_region_still_tail 24 (by kernel_rfl) (by kernel_rfl) ?_
                simp only [List.take_succ_cons, List.take_zero, List.drop_succ_cons, List.drop_zero]
                change wpStill _ _ w5.drew _ _ _
                change wpStill _ _ _ (fun a' => wpList _ _ _ _ a' w5.drew) _ _
                generalize w5.drew = w6 at y0 y1 z0 z2 f3 HO6 HR6 hb6 ⊢
                repeat still_step
                refine wpStill_nil ?_
                generalize hM2 : (if M < 1 + u2 then 1 + u2 else M) = M2
                have HM2 := Lib.hid hM2
                clear hM2
                go_wp2_with fail
                go_roundw
                case rel => exact ⟨k, updT (updT T i k M) i k (M2), by omega, by go_num, bset hb6 (p := ⟨R i, k, none⟩) (HR6.out.1 i (by omega)).1 _, Lib.hid (HO6.out.store (by omega) _), Lib.hid (HR6.out.store (by omega) (by omega) _), Lib.hid (fun j q h1 h2 h3 => by
                  unfold updT; rw [if_neg (by omega), if_neg (by omega)]; exact HT2.out j q h1 h2 h3), Lib.hid (fun q h1 h2 => by
                  unfold updT
                  by_cases e : q = k
                  · subst e
                    rw [if_pos ⟨rfl, rfl⟩, HL.out, hP]
                    simp only [if_true]
                    have h1 := HMX.out
                    have h2 := HM2.out
                    split at h1 <;> split at h2 <;> omega
                  · rw [if_neg (by omega), if_neg (by omega)]; exact HK2.out q (by omega) h2), Lib.hid (fun j => by
                  unfold updT; rw [if_neg (by omega), if_neg (by omega)]; exact HZ2.out j)⟩
                case measure => simp [intOf]
end Go.Proofs.Ytlinjkfbcekepaa
