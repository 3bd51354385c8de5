/-
  The mean difference of sizes: impl and spec answer alike.
-/
import Derived.Test.YtlinjkfbcekepaaQuSzP
import Derived.Test.YtlinjkfbcekepaaQuLngL
namespace Go.Proofs.Ytlinjkfbcekepaa
set_option linter.unusedVariables false
set_option linter.unusedSimpArgs false
set_option linter.unnecessarySimpa false
open Go.RowKit
attribute [local go_sem] ext_cell ext_frozen

set_option maxRecDepth 100000 in
set_option maxHeartbeats 4000000 in
theorem sSize_any (a b : List Qu) (A B : Option Addr) (ca cb : Nat) (t f : Int) (w : World) (ha : RowAt 4 encQu w A a) (hb : RowAt 4 encQu w B b) (hla : a.length ≤ 2097152) (hlb : b.length ≤ 2097152) :
    Calls Try.prog 32 #[.slice A a.length ca, .slice B b.length cb, .int .i64 t, .int .i64 f] w fun e w' => e = .returned (.tuple #[.int .i64 (szR a b t f).1, .int .i64 (szR a b t f).2.1, .bool (szR a b t f).2.2]) ∧ Below w.heap.size w w' := by
  have HA := Lib.hid ha
  have HB := Lib.hid hb
  clear ha hb
  cases hg : bothB a b t f
  · have HE := Lib.hid (show szR a b t f = (0, 0, false) by simp [szR, hg])
    go_enter Try.func32, Try.ntmps32
    go_wp2_with (go_at_call 66; (with_reducible refine (sBoth_any a b _ _ _ _ t f _ HA.out HB.out hla hlb).mono ?_); rw [hg]; rintro e w1 ⟨rfl, hb1⟩)
    go_ret3
    exact ⟨ret_iib HE.out, hb1⟩
  · obtain ⟨hga, hgb, hw⟩ := bothB_true hg
    have HL := Lib.hid (fun W h1 h2 => l16Pairs_any a b A B ca cb t f W h1 h2 (goodQu_len hga) (goodQu_len hgb) (goodQu_all hga) (goodQu_all hgb) hw)
    have HBD := Lib.hid (fun k h => szS_bd (t := t) (f := f) (goodQu_all hga) (goodQu_all hgb) k h)
    have HGA := Lib.hid (goodQu_all hga)
    have HGB := Lib.hid (goodQu_all hgb)
    have hDl := lpP_len a b t f 0 0
    have hal := goodQu_len hga
    have HIN := Lib.hid (fun k p h => lpP_in (a := a) (b := b) (t := t) (f := f) (k := k) (p := p) h)
    by_cases h0 : (lpP a b t f 0 0).length = 0
    · have HE := Lib.hid (show szR a b t f = (0, 0, false) by simp [szR, hg, h0])
      clear hga hgb hw
      generalize lpP a b t f 0 0 = D at HL h0 HBD HIN hDl
      go_enter Try.func32, Try.ntmps32
      go_wp2_with (first | (go_at_call 66; (with_reducible refine (sBoth_any a b _ _ _ _ t f _ HA.out HB.out hla hlb).mono ?_); rw [hg]; rintro e w1 ⟨rfl, hb1⟩) | (go_at_call 67; (with_reducible refine (HL.out _ (HA.out.below hb1) (HB.out.below hb1)).mono ?_); rw [h0]; rintro e w2 ⟨A2, c2, rfl, ho2, hb2⟩))
      go_ret3
      exact ⟨ret_iib HE.out, bstep hb1 hb2⟩
    · have HE := Lib.hid (show szR a b t f = ((fracI (szS a b (lpP a b t f 0 0) (lpP a b t f 0 0).length) ((lpP a b t f 0 0).length : Int)).1, (fracI (szS a b (lpP a b t f 0 0) (lpP a b t f 0 0).length) ((lpP a b t f 0 0).length : Int)).2, true) by simp [szR, hg, h0])
      clear hga hgb hw
      generalize lpP a b t f 0 0 = D at HL h0 HBD HIN hDl HE
      have h0' : ((D.length : Int) == 0) = false := by rw [beq_eq_false_iff_ne]; omega
      have h0'' : ¬ (D.length : Int) = 0 := by omega
      go_enter Try.func32, Try.ntmps32
      go_wp2_with (first | (go_at_call 66; (with_reducible refine (sBoth_any a b _ _ _ _ t f _ HA.out HB.out hla hlb).mono ?_); rw [hg]; rintro e w1 ⟨rfl, hb1⟩) | (go_at_call 67; (with_reducible refine (HL.out _ (HA.out.below hb1) (HB.out.below hb1)).mono ?_); rintro e w2 ⟨A2, c2, rfl, ho2, hb2⟩))
      have HD := Lib.hid (RowAt.of_own ho2 encP2_len (by decide))
      have hbw := bstep hb1 hb2
      clear ho2
      go_loopw [12, 13] (fun sv iv wr => ∃ k : Nat, k ≤ D.length ∧ iv = .int .i64 k ∧ sv = .int .i64 (szS a b D k) ∧ Below w.heap.size w wr ∧ Below w2.heap.size w2 wr) (fun _ iv _ => D.length - (intOf iv).toNat)
      case atStart => exact ⟨0, Nat.zero_le _, rfl, rfl, hbw, bref _⟩
      case round =>
        obtain ⟨k, hk, rfl, rfl, hbr, hb3⟩ := hrel
        by_cases hlt : k < D.length
        · obtain ⟨p, hp⟩ := some_get hlt
          obtain ⟨i, j, x, y, rfl, hi, hj, hx, hy⟩ := HIN.out k p hp
          have HN := Lib.hid (szS_succ (a := a) (b := b) hp)
          have HD2 := Lib.hid (szD_at hx hy)
          obtain ⟨_, _, _, bx⟩ := oneQu_bounds (HGA.out x (List.mem_of_getElem? hx))
          obtain ⟨_, _, _, by_⟩ := oneQu_bounds (HGB.out y (List.mem_of_getElem? hy))
          have hbd := HBD.out k (by omega)
          obtain ⟨bD, oD, rfl, hbD, d0, d1⟩ := (HD.out.below hb3).p2 hp
          obtain ⟨bA, oA, rfl, hbA, p0, p1, p2, p3⟩ := (HA.out.below hbr).qu hx
          obtain ⟨bB, oB, rfl, hbB, r0, r1, r2, r3⟩ := (HB.out.below hbr).qu hy
          have k0 := ib0 k
          have k1 := ib1 hlt
          have i0 := ib0 i
          have i1 := ib1 hi
          have j0 := ib0 j
          have j1 := ib1 hj
          clear hp hx hy
          generalize hS : szS a b D k = S at hbd HN ⊢
          have hwS : IntKind.i64.wrap (S + y.sz) = S + y.sz := by rw [IntKind.wrap_i64]; omega
          have hwS2 : IntKind.i64.wrap (S + y.sz - x.sz) = S + y.sz - x.sz := by rw [IntKind.wrap_i64]; omega
          go_wp2_with fail
          (refine wp_region_calm (by kernel_rfl) (by kernel_rfl) ?_; (repeat (go_big_quiet_step ((fail)))); refine wpQuiet_nil ?_; intro xw; have hb5 := xw.is; generalize xw.w = w5 at hb5 ⊢; clear xw)
          go_wp2_with fail
          go_roundw
          case rel => exact ⟨k + 1, by omega, by go_num, by rw [HN.out, HD2.out]; simp; omega, bstep hbr hb5, bstep hb3 hb5⟩
          case measure => simp [intOf]; omega
        · obtain rfl : k = D.length := by omega
          have hbd := HBD.out D.length (Nat.le_refl _)
          have HFR := Lib.hid (fun W => l2Reduce_any (szS a b D D.length) (D.length : Int) W (by omega) (by omega))
          generalize szS a b D D.length = S at HFR HE hbd ⊢
          go_wp2_with (go_at_call 79; (with_reducible refine (HFR.out _).mono ?_); rintro e w4 ⟨rfl, hb4⟩)
          go_ret3
          exact ⟨ret_iib HE.out, bstep hbr hb4⟩
set_option maxRecDepth 100000 in
set_option maxHeartbeats 4000000 in
theorem iSize_any (a b : List Qu) (A B : Option Addr) (ca cb : Nat) (t f : Int) (w : World) (ha : RowAt 4 encQu w A a) (hb : RowAt 4 encQu w B b) (hla : a.length ≤ 2097152) (hlb : b.length ≤ 2097152) :
    Calls Try.prog 31 #[.slice A a.length ca, .slice B b.length cb, .int .i64 t, .int .i64 f] w fun e w' => e = .returned (.tuple #[.int .i64 (szR a b t f).1, .int .i64 (szR a b t f).2.1, .bool (szR a b t f).2.2]) ∧ Below w.heap.size w w' := by
  have HA := Lib.hid ha
  have HB := Lib.hid hb
  have HL := Lib.hid (iLng_any a b A B ca cb t f w ha hb hla hlb)
  clear ha hb
  cases hg : bothB a b t f
  · have HE := Lib.hid (show szR a b t f = (0, 0, false) by simp [szR, hg])
    go_enter Try.func31, Try.ntmps31
    go_wp2_with (go_at_call 19; (with_reducible refine (HL.out).mono ?_); rw [hg]; rintro e w1 ⟨A1, c1, rfl, ho1, hb1⟩)
    go_ret3
    exact ⟨ret_iib HE.out, hb1⟩
  · obtain ⟨hga, hgb, hw⟩ := bothB_true hg
    have HLL := Lib.hid (show lngL a b t f = lpP a b t f 0 0 by simp [lngL, hg])
    have HBD := Lib.hid (fun k h => szS_bd (t := t) (f := f) (goodQu_all hga) (goodQu_all hgb) k h)
    have HGA := Lib.hid (goodQu_all hga)
    have HGB := Lib.hid (goodQu_all hgb)
    have hDl := lpP_len a b t f 0 0
    have hal := goodQu_len hga
    have HIN := Lib.hid (fun k p h => lpP_in (a := a) (b := b) (t := t) (f := f) (k := k) (p := p) h)
    rw [HLL.out] at HL
    clear HLL
    by_cases h0 : (lpP a b t f 0 0).length = 0
    · have HE := Lib.hid (show szR a b t f = (0, 0, false) by simp [szR, hg, h0])
      clear hga hgb hw
      generalize lpP a b t f 0 0 = D at HL h0 HBD HIN hDl
      go_enter Try.func31, Try.ntmps31
      go_wp2_with (go_at_call 19; (with_reducible refine (HL.out).mono ?_); rw [hg, h0]; rintro e w1 ⟨A1, c1, rfl, ho1, hb1⟩)
      go_ret3
      exact ⟨ret_iib HE.out, hb1⟩
    · have HE := Lib.hid (show szR a b t f = ((fracI (szS a b (lpP a b t f 0 0) (lpP a b t f 0 0).length) ((lpP a b t f 0 0).length : Int)).1, (fracI (szS a b (lpP a b t f 0 0) (lpP a b t f 0 0).length) ((lpP a b t f 0 0).length : Int)).2, true) by simp [szR, hg, h0])
      clear hga hgb hw
      generalize lpP a b t f 0 0 = D at HL h0 HBD HIN hDl HE
      have h0' : ((D.length : Int) == 0) = false := by rw [beq_eq_false_iff_ne]; omega
      have h0'' : ¬ (D.length : Int) = 0 := by omega
      go_enter Try.func31, Try.ntmps31
      go_wp2_with (go_at_call 19; (with_reducible refine (HL.out).mono ?_); rw [hg]; rintro e w2 ⟨A2, c2, rfl, ho2, hbw⟩)
      have HD := Lib.hid (RowAt.of_own ho2 encP2_len (by decide))
      clear ho2
      go_loopw [13, 35] (fun sv iv wr => ∃ k : Nat, k ≤ D.length ∧ iv = .int .i64 k ∧ sv = .int .i64 (szS a b D k) ∧ Below w.heap.size w wr ∧ Below w2.heap.size w2 wr) (fun _ iv _ => D.length - (intOf iv).toNat)
      case atStart => exact ⟨0, Nat.zero_le _, rfl, rfl, hbw, bref _⟩
      case round =>
        obtain ⟨k, hk, rfl, rfl, hbr, hb3⟩ := hrel
        by_cases hlt : k < D.length
        · obtain ⟨p, hp⟩ := some_get hlt
          obtain ⟨i, j, x, y, rfl, hi, hj, hx, hy⟩ := HIN.out k p hp
          have HN := Lib.hid (szS_succ (a := a) (b := b) hp)
          have HD2 := Lib.hid (szD_at hx hy)
          obtain ⟨_, _, _, bx⟩ := oneQu_bounds (HGA.out x (List.mem_of_getElem? hx))
          obtain ⟨_, _, _, by_⟩ := oneQu_bounds (HGB.out y (List.mem_of_getElem? hy))
          have hbd := HBD.out k (by omega)
          obtain ⟨bD, oD, rfl, hbD, d0, d1⟩ := (HD.out.below hb3).p2 hp
          obtain ⟨bA, oA, rfl, hbA, p0, p1, p2, p3⟩ := (HA.out.below hbr).qu hx
          obtain ⟨bB, oB, rfl, hbB, r0, r1, r2, r3⟩ := (HB.out.below hbr).qu hy
          have k0 := ib0 k
          have k1 := ib1 hlt
          have i0 := ib0 i
          have i1 := ib1 hi
          have j0 := ib0 j
          have j1 := ib1 hj
          clear hp hx hy
          generalize hS : szS a b D k = S at hbd HN ⊢
          have hwS : IntKind.i64.wrap (y.sz - x.sz) = y.sz - x.sz := by rw [IntKind.wrap_i64]; omega
          have hwS2 : IntKind.i64.wrap (S + (y.sz - x.sz)) = S + (y.sz - x.sz) := by rw [IntKind.wrap_i64]; omega
          go_wp2_with fail
          (refine wp_region_calm (by kernel_rfl) (by kernel_rfl) ?_; (repeat (go_big_quiet_step ((fail)))); refine wpQuiet_nil ?_; intro xw; have hb5 := xw.is; generalize xw.w = w5 at hb5 ⊢; clear xw)
          go_wp2_with fail
          go_roundw
          case rel => exact ⟨k + 1, by omega, by go_num, by rw [HN.out, HD2.out], bstep (balloc hbr _) hb5, bstep (balloc hb3 _) hb5⟩
          case measure => simp [intOf]; omega
        · obtain rfl : k = D.length := by omega
          have hbd := HBD.out D.length (Nat.le_refl _)
          have HFR := Lib.hid (fun W => fraction_any (szS a b D D.length) (D.length : Int) W (by omega) (by omega))
          generalize szS a b D D.length = S at HFR HE hbd ⊢
          go_wp2_with (go_at_call 78; (with_reducible refine (HFR.out _).mono ?_); rintro e w4 ⟨rfl, hb4⟩)
          go_ret3
          exact ⟨ret_iib HE.out, bstep hbr hb4⟩
end Go.Proofs.Ytlinjkfbcekepaa
