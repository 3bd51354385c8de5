/-
  spec.l16Next: the first pair with which a longest pairing goes on.
-/
import Derived.Test.YtlinjkfbcekepaaQuLen
namespace Go.Proofs.Ytlinjkfbcekepaa
set_option linter.unusedVariables false
set_option linter.unusedSimpArgs false
set_option linter.unnecessarySimpa false
open Go.RowKit
attribute [local go_sem] ext_cell ext_frozen

def nxtOK (P : Nat → Nat → Bool) (n m i k x y : Nat) : Prop := i ≤ x ∧ x < n ∧ k ≤ y ∧ y < m ∧ lpHit P n m x y (lpL P n m i k) = true ∧ (∀ y', k ≤ y' → y' < y → lpHit P n m x y' (lpL P n m i k) = false) ∧ ∀ x', i ≤ x' → x' < x → ∀ y', k ≤ y' → y' < m → lpHit P n m x' y' (lpL P n m i k) = false
theorem nxt_G {P : Nat → Nat → Bool} {n m i k x y : Nat} (h : nxtOK P n m i k x y) : lpG P n m i k = (x, y) :: lpG P n m (x + 1) (y + 1) ∧ lpL P n m (x + 1) (y + 1) = lpL P n m i k - 1 := by
  obtain ⟨h1, h2, h3, h4, h5, h6, h7⟩ := h
  obtain ⟨e1, e2⟩ := lpG_skip P n m x h1 (by omega) h7
  rw [← e2] at h5 h6
  rw [e1, ← e2]
  exact ⟨lpG_some P n m h2 h3 h4 h5 h6, (lpHit_next P n m h5).2⟩

set_option maxRecDepth 100000 in
set_option maxHeartbeats 4000000 in
theorem l16Next_any (a b : List Qu) (A B : Option Addr) (ca cb : Nat) (t f : Int) (g ct base i k : Nat) (w : World) (ha : RowAt 4 encQu w A a) (hb : RowAt 4 encQu w B b) (hla : a.length ≤ 10) (hlb : b.length ≤ 10) (hga : ∀ m ∈ a, oneQu m = true) (hgb : ∀ m ∈ b, oneQu m = true) (hw : winB t f = true)
    (hT : TabAt w base g (a.length + 1) b.length (lpL (pB a b t f) a.length b.length)) (hi : i ≤ a.length) (hk : k ≤ b.length) (hp : 0 < lpL (pB a b t f) a.length b.length i k) :
    Calls Try.prog 100 #[.slice A a.length ca, .slice B b.length cb, .int .i64 t, .int .i64 f, .slice (some ⟨g, 0, none⟩) (a.length + 1) ct, .int .i64 i, .int .i64 k] w fun e w' => ∃ x y : Nat, e = .returned (.tuple #[.int .i64 x, .int .i64 y]) ∧ nxtOK (pB a b t f) a.length b.length i k x y ∧ Below w.heap.size w w' := by
  have HA := Lib.hid ha
  have HB := Lib.hid hb
  have HGA := Lib.hid hga
  have HGB := Lib.hid hgb
  have HW := Lib.hid hw
  have HP := Lib.hid (lp_some (pB a b t f) a.length b.length hi hp)
  obtain ⟨R, hO, hR⟩ := hT
  have HO := Lib.hid hO
  have HR := Lib.hid hR
  have hv := lpL_nn (pB a b t f) a.length b.length i k
  clear ha hb hga hgb hw hO hR hp
  go_enter Try.func100, Try.ntmps100
  go_wp2_with fail
  go_loopw [16] (fun v wr => ∃ x : Nat, i ≤ x ∧ x ≤ a.length ∧ v = .int .i64 x ∧ Below w.heap.size w wr ∧ Hid (∀ x', i ≤ x' → x' < x → ∀ y', k ≤ y' → y' < b.length → lpHit (pB a b t f) a.length b.length x' y' (lpL (pB a b t f) a.length b.length i k) = false)) (fun v _ => a.length - (intOf v).toNat)
  case atStart => exact ⟨i, Nat.le_refl _, hi, rfl, bref _, Lib.hid (fun x' h1 h2 => absurd h2 (by omega))⟩
  case round =>
    obtain ⟨x, hx1, hx2, rfl, hb1, HN⟩ := hrel
    by_cases hlt : x < a.length
    · obtain ⟨wo, rfl⟩ : ∃ wo : World, wo = wr := ⟨_, rfl⟩
      go_wp2_with fail
      go_loopw [17] (fun v wi => ∃ y : Nat, k ≤ y ∧ y ≤ b.length ∧ v = .int .i64 y ∧ Below w.heap.size w wi ∧ Hid (∀ y', k ≤ y' → y' < y → lpHit (pB a b t f) a.length b.length x y' (lpL (pB a b t f) a.length b.length i k) = false)) (fun v _ => b.length - (intOf v).toNat)
      case atStart => exact ⟨k, Nat.le_refl _, hk, rfl, hb1, Lib.hid (fun y' h1 h2 => absurd h2 (by omega))⟩
      case round =>
        obtain ⟨y, hy1, hy2, rfl, hb2, HM⟩ := hrel
        by_cases hly : y < b.length
        · obtain ⟨qx, hx⟩ := some_get hlt
          obtain ⟨qy, hy⟩ := some_get hly
          have hP := pB_at (t := t) (f := f) hx hy
          obtain ⟨bA, oA, rfl, hbA, p0, p1, p2, p3⟩ := (HA.out.below hb2).qu hx
          obtain ⟨bB, oB, rfl, hbB, r0, r1, r2, r3⟩ := (HB.out.below hb2).qu hy
          have hmt := fun W => l16Match_any qx qy t f W (HGA.out qx (List.mem_of_getElem? hx)) (HGB.out qy (List.mem_of_getElem? hy)) HW.out
          have i0 := ib0 x
          have j0 := ib0 y
          have ha1 := ib1 hlt
          have hb1' := ib1 hly
          have HO2 := HO.out.below hb2
          have HR2 := HR.out.below hb2
          have hgz := HO2.1
          have y0 : wr.cell? ⟨g, i, none⟩ = some (.slice (some ⟨R i, 0, none⟩) (b.length + 1) (b.length + 1)) := (HO2.2 i (by omega)).1
          have y1 : wr.cell? ⟨g, x + 1, none⟩ = some (.slice (some ⟨R (x + 1), 0, none⟩) (b.length + 1) (b.length + 1)) := (HO2.2 (x + 1) (by omega)).1
          have z0 := ((HR2.1 i (by omega)).2.2 k (by omega)).1
          have z1 := ((HR2.1 (x + 1) (by omega)).2.2 (y + 1) (by omega)).1
          have hz0 := (HR2.1 i (by omega)).2.1
          have hz1 := (HR2.1 (x + 1) (by omega)).2.1
          have b2 := lpL_nn (pB a b t f) a.length b.length (x + 1) (y + 1)
          have HX := Lib.hid (show lpHit (pB a b t f) a.length b.length x y (lpL (pB a b t f) a.length b.length i k) = (matchB t f qx qy && decide (lpL (pB a b t f) a.length b.length (x + 1) (y + 1) + 1 = lpL (pB a b t f) a.length b.length i k)) by unfold lpHit; rw [hP])
          generalize lpL (pB a b t f) a.length b.length (x + 1) (y + 1) = u at z1 b2 HX
          generalize hvv : lpL (pB a b t f) a.length b.length i k = v at z0 hv HN HM HX ⊢
          have hvv := Lib.hid hvv
          have hi1 : (i : Int) < (a.length : Int) + 1 := by omega
          have hi2 : (x : Int) + 1 < (a.length : Int) + 1 := by omega
          have hi3 : 0 ≤ (x : Int) + 1 := by omega
          have hk1 : (k : Int) < (b.length : Int) + 1 := by omega
          have hk2 : (y : Int) + 1 < (b.length : Int) + 1 := by omega
          have hk3 : 0 ≤ (y : Int) + 1 := by omega
          have ii0 := ib0 i
          have kk0 := ib0 k
          have w1' : IntKind.i64.wrap ((x : Int) + 1) = (x : Int) + 1 := by rw [IntKind.wrap_i64]; omega
          have w2' : IntKind.i64.wrap ((y : Int) + 1) = (y : Int) + 1 := by rw [IntKind.wrap_i64]; omega
          have w3' : IntKind.i64.wrap (u + 1) = u + 1 := by rw [IntKind.wrap_i64]; omega
          have t1 : ((x : Int) + 1).toNat = x + 1 := by omega
          have t2 : ((y : Int) + 1).toNat = y + 1 := by omega
          have HC := Lib.hid hmt
          clear hmt hx hy hP
          cases hm : matchB t f qx qy
          · have HC2 := Lib.hid (fun W => by have := HC.out W; rw [hm] at this; exact this)
            clear HC
            go_wp2_with fail
            (refine wp_region_calm (by kernel_rfl) (by kernel_rfl) ?_; (repeat (go_big_quiet_step (((go_at_call 60; exact calm_of (HC2.out _)))))); refine wpQuiet_nil ?_; intro xw; have hb5 := xw.is; generalize xw.w = w5 at hb5 ⊢; clear xw)
            go_wp2_with fail
            go_roundw
            case rel => exact ⟨y + 1, by omega, by omega, by go_num, bstep hb2 hb5, Lib.hid (fun y' h1 h2 => by
              by_cases e : y' = y
              · subst e; rw [HX.out, hm]; rfl
              · exact HM.out y' h1 (by omega))⟩
            case measure => simp [intOf]; omega
          · have HC2 := Lib.hid (fun W => by have := HC.out W; rw [hm] at this; exact this)
            clear HC
            by_cases he : u + 1 = v
            · go_wp2_with fail
              (refine wp_region_calm (by kernel_rfl) (by kernel_rfl) ?_; (repeat (go_big_quiet_step (((go_at_call 60; exact calm_of (HC2.out _)))))); refine wpQuiet_nil ?_; intro xw; have hb5 := xw.is; generalize xw.w = w5 at hb5 ⊢; clear xw)
              go_wp2_with fail
              go_ret2
              refine ⟨x, y, rfl, ⟨hx1, hlt, hy1, hly, ?_, ?_, ?_⟩, bstep hb2 hb5⟩
              · rw [hvv.out, HX.out, hm, he]; simp
              · rw [hvv.out]; exact HM.out
              · rw [hvv.out]; exact HN.out
            · go_wp2_with fail
              (refine wp_region_calm (by kernel_rfl) (by kernel_rfl) ?_; (repeat (go_big_quiet_step (((go_at_call 60; exact calm_of (HC2.out _)))))); refine wpQuiet_nil ?_; intro xw; have hb5 := xw.is; generalize xw.w = w5 at hb5 ⊢; clear xw)
              go_wp2_with fail
              go_roundw
              case rel => exact ⟨y + 1, by omega, by omega, by go_num, bstep hb2 hb5, Lib.hid (fun y' h1 h2 => by
                by_cases e : y' = y
                · subst e; rw [HX.out, hm]; simp [he]
                · exact HM.out y' h1 (by omega))⟩
              case measure => simp [intOf]; omega
        · obtain rfl : y = b.length := by omega
          go_wp2_with fail
          go_roundw
          case rel => exact ⟨x + 1, by omega, by omega, by go_num, hb2, Lib.hid (fun x' h1 h2 => by
            by_cases e : x' = x
            · subst e; exact HM.out
            · exact HN.out x' h1 (by omega))⟩
          case measure => simp [intOf]; omega
    · obtain rfl : x = a.length := by omega
      exact absurd HN.out HP.out
end Go.Proofs.Ytlinjkfbcekepaa
