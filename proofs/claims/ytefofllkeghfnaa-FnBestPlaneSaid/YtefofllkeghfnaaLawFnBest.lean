/-
  Proved here: for every code, no plane explains more of the drawn motions than the best one, and it misses the fewest (FnBestPlane returns true). No condition.
-/
import Derived.Test.YtefofllkeghfnaaMoPl
import Derived.Test.YtefofllkeghfnaaMoDrw
import Derived.Test.YtefofllkeghfnaaVin
import Derived.Test.YtefofllkeghfnaaByte
namespace Go.Proofs.Ytefofllkeghfnaa
open Go.RowKit Go.WideShapes Go.ChangeShapes Go.ChangeAt

set_option maxRecDepth 100000 in
set_option maxHeartbeats 8000000 in
theorem lawBestPl_walk (A : Option Addr) (n c : Nat) (w : World) (hr : CodeAt w A n) (hm : n ≤ 9223372036854775807) :
    Calls Try.prog 12 #[.slice A n c] w fun e w' => e = .returned (.bool true) ∧ Below w.heap.size w w' := by
  have HC := Lib.hid hr
  clear hr
  by_cases hn : n ≤ 65536
  · have hg : ¬ (65536 < (n : Int)) := by omega
    go_enter Try.func12, Try.ntmps12
    go_wp2_with fail
    refine (vBig_any _ _ _ _).mono ?_; rintro e w' ⟨rfl, rfl⟩
    rw [decide_eq_false (show ¬ 65536 < (n : Int) by omega)]
    go_wp2_with fail
    refine (drawBest_any A n c _ HC.out hn).mono ?_; rintro e w1 ⟨l, B, cb, rfl, ⟨hl, ho1⟩, hb1⟩
    have HR := Lib.hid (RowAt.of_own ho1 encMo_len (by decide))
    clear ho1
    obtain ⟨P, Q, O, hE⟩ : ∃ P Q O, bestL l = (P, Q, O) := ⟨_, _, _, rfl⟩
    obtain ⟨F, T, hF⟩ : ∃ F T, fewL l = (F, T) := ⟨_, _, rfl⟩
    have HE := Lib.hid hE
    have HF := Lib.hid hF
    clear hE hF
    go_wp2_with fail
    refine (iBestP_any l B cb _ HR.out (by omega)).mono ?_; rw [HE.out]; rintro e w2 ⟨rfl, hb2⟩
    have c2 := bstep hb1 hb2
    go_wp2_with fail
    refine (sBestP_any l B cb _ (HR.out.below hb2) (by omega)).mono ?_; rw [HE.out]; rintro e w3 ⟨rfl, hb3⟩
    have c3 := bstep c2 hb3
    have d3 := bstep hb2 hb3
    go_wp2_with fail
    refine (iFew_any l B cb _ (HR.out.below d3) (by omega)).mono ?_; rw [HF.out]; rintro e w4 ⟨rfl, hb4⟩
    have c4 := bstep c3 hb4
    have d4 := bstep d3 hb4
    go_wp2_with fail
    refine (sFew_any l B cb _ (HR.out.below d4) (by omega)).mono ?_; rw [HF.out]; rintro e w5 ⟨rfl, hb5⟩
    have c5 := bstep c4 hb5
    have d5 := bstep d4 hb5
    clear c2 c3 c4 d3 d4 hb2 hb3 hb4 hb5
    cases O
    case' false =>
      go_wp2_with fail
      have cm := c5
      obtain ⟨wm, hwm⟩ : ∃ wm, wm = w5 := ⟨_, rfl⟩
      rw [← hwm] at cm ⊢
      clear hwm
    case' true =>
      obtain ⟨F', M, hF', hM, hMF, hK, hok, hin, hF0⟩ := best_all HE.out
      have hFF := HF.out.symm.trans hF'
      simp only [Prod.mk.injEq] at hFF
      obtain ⟨rfl, rfl⟩ := hFF
      have HM := Lib.hid hM
      have HK := Lib.hid hK
      have HOK := Lib.hid hok
      have HIN := Lib.hid hin
      have hM0 : -20 ≤ M ∧ M ≤ 20 := by omega
      clear hF' hM hK hok hin
      go_wp2_with fail
      refine (iExpl_any l B cb P Q _ (HR.out.below d5) (by omega)).mono ?_; rw [HM.out]; rintro e w6 ⟨rfl, hb6⟩
      have c6 := bstep c5 hb6
      have d6 := bstep d5 hb6
      clear hb6
      go_wp2_with fail
      go_loopw [16] (fun i wr => ∃ k : Nat, k ≤ 16 ∧ i = .int .i64 k ∧ Hid (Below w1.heap.size w1 wr) ∧ Hid (Below w.heap.size w wr)) (fun i _ => 16 - (intOf i).toNat)
      case atStart => exact ⟨0, by omega, rfl, Lib.hid d6, Lib.hid c6⟩
      case' round =>
        obtain ⟨k, hk, rfl, HDr, HCr⟩ := hrel
        by_cases hlt : k < 16
        · obtain ⟨a, b, ha, hb, hab⟩ := HK.out k hlt
          have HA := Lib.hid ha
          have HBB := Lib.hid hb
          have i0 := ib0 k
          clear ha hb
          go_wp2_with fail
          refine (iExpl_any l B cb k 1 _ (HR.out.below HDr.out) (by omega)).mono ?_; rw [HA.out]; rintro e wa ⟨rfl, hba⟩
          have dA := bstep HDr.out hba
          have cA := bstep HCr.out hba
          clear hba
          go_wp2_with fail
          refine (iExpl_any l B cb k (-1) _ (HR.out.below dA) (by omega)).mono ?_; rw [HBB.out]; rintro e wb ⟨rfl, hbb⟩
          have dB := Lib.hid (bstep dA hbb)
          have cB := Lib.hid (bstep cA hbb)
          clear hbb dA cA
          have hab1 := hab.1
          have hab2 := hab.2
          go_wp2_with fail
          go_roundw
          case rel => exact ⟨k + 1, by omega, by go_num, dB, cB⟩
          case measure => simp [intOf]; omega
        obtain rfl : k = 16 := by omega
        go_wp2_with fail
        have HW := Lib.hid (withL_le l F)
        refine (iWith_any l B cb F _ (HR.out.below HDr.out) (by omega)).mono ?_; rw [HOK.out]; rintro e w7 ⟨A7, c7', rfl, ho7, hb7⟩
        have H7 := Lib.hid (RowAt.of_own ho7 encI_len (by decide))
        have c7 := Lib.hid (bstep HCr.out hb7)
        clear ho7 hb7
        go_wp2_with fail
        refine (vHas_any (withL l F) A7 c7' P _ H7.out (by have := HW.out; omega)).mono ?_; rw [decide_eq_true HIN.out]; rintro e w' ⟨rfl, rfl⟩
        go_wp2_with fail
        have cm := c7.out
        obtain ⟨wm, hwm⟩ : ∃ wm, wm = w7 := ⟨_, rfl⟩
        rw [← hwm] at cm ⊢
        clear hwm
    all_goals
      refine (drawWith_any A n c _ (HC.out.below cm) hn).mono ?_; rintro e wx ⟨lx, Bx, cx', px, rfl, ⟨hlx, hox⟩, hbx⟩
      have cx := bstep cm hbx
      have HX := Lib.hid (RowAt.of_own hox encMo_len (by decide))
      have HWX := Lib.hid (withL_le lx px)
      obtain ⟨O, hO⟩ : ∃ O, withOK lx px = O := ⟨_, rfl⟩
      have HO := Lib.hid hO
      clear hox hO
      go_wp2_with fail
      refine (iWith_any lx Bx cx' px _ HX.out (by omega)).mono ?_; rw [HO.out]; rintro e wy ⟨Ay, cy', rfl, hoy, hby⟩
      have HY := Lib.hid (RowAt.of_own hoy encI_len (by decide))
      have cy := bstep cx hby
      clear hoy
      go_wp2_with fail
      refine (sWith_any lx Bx cx' px _ (HX.out.below hby) (by omega)).mono ?_; rw [HO.out]; rintro e wz ⟨Az, cz', rfl, hoz, hbz⟩
      have HZ := Lib.hid (RowAt.of_own hoz encI_len (by decide))
      have cz := bstep cy hbz
      clear hoz
      cases O
      case' false =>
        go_wp2_with fail
        refine (vInts_same (withL lx px) Ay Az cy' cz' _ (HY.out.below hbz) HZ.out (by have := HWX.out; omega)).mono ?_; rintro e wv ⟨rfl, hbv⟩
        go_wp2
        go_ret
        exact ⟨rfl, bstep cz hbv⟩
      case' true =>
        have hpx := with_bd HO.out
        go_wp2_with fail
        refine (vInts_same (withL lx px) Ay Az cy' cz' _ (HY.out.below hbz) HZ.out (by have := HWX.out; omega)).mono ?_; rintro e wv ⟨rfl, hbv⟩
        by_cases h12 : px < 12
        · obtain ⟨hm1, hm2⟩ := with_more HO.out h12
          have HM1 := Lib.hid hm1
          have HM2 := Lib.hid hm2
          have HW2 := Lib.hid (withL_le lx (px + 1))
          clear hm1 hm2
          go_wp2_with fail
          refine (iWith_any lx Bx cx' (px + 1) _ (HX.out.below (bstep (bstep hby hbz) hbv)) (by omega)).mono ?_; rw [HM1.out]; rintro e wu ⟨Au, cu', rfl, hou, hbu⟩
          have HU := Lib.hid (RowAt.of_own hou encI_len (by decide))
          clear hou
          go_wp2_with fail
          refine (vWithin_yes (withL lx px) (withL lx (px + 1)) Ay Au cy' cu' _ (HY.out.below (bstep (bstep hbz hbv) hbu)) HU.out (by have := HWX.out; omega) (by have := HW2.out; omega) HM2.out).mono ?_; rintro e w' ⟨rfl, rfl⟩
          go_wp2
          go_ret
          exact ⟨rfl, bstep (bstep cz hbv) hbu⟩
        · go_wp2
          go_ret
          exact ⟨rfl, bstep cz hbv⟩
  · go_enter Try.func12, Try.ntmps12
    go_wp2_with fail
    refine (vBig_any _ _ _ _).mono ?_; rintro e w' ⟨rfl, rfl⟩
    rw [decide_eq_true (show 65536 < (n : Int) by omega)]
    go_wp2
    go_ret
    exact ⟨rfl, bref _⟩

-- THE ROW --
set_option maxRecDepth 100000 in
theorem lawFnBestPlane_lifted (os : Os) (started : os.Started) (H : Type) (enc : TypeId × Value → H) :
    ReturnsInHanded {} Try.checked os 12 .any (Rows.fnBestPlaneSpec.pre6 enc Try.prog Try.f12 Rows.fnBestPlaneRow.domain false) (Rows.fnBestPlaneSpec.post enc Try.prog Try.f12 false true false false) := by
  refine returnsInHanded_of_change (C := Try.checked) Try.own started (by kernel_rfl) Try.func12
    (ChangeSpec.witness6 (enc := enc) (C := Try.checked) false ⟨#[], #[.slice none 0 0], []⟩ 8 (by kernel_rfl) (by kernel_rfl) (by kernel_rfl) (by kernel_rfl)) ?_
  intro W base args ds gs before hval0 hW hcnd _
  have hval : ∀ (j : Nat) t v, Try.f12.params[j]? = some t → args[j]? = some v → Value.okWide Try.prog W .any base t v := hval0
  have hW' := hW
  obtain ⟨p, q, hA0, hV, hpq, hfz, hnd⟩ := hW
  have hA : DataW.TrodAll enc Try.prog W 0 (fun _ => true) true Try.f12.params.toList args.toList ds p := hA0
  rw [Try.params12] at hA hval
  obtain ⟨v0, vs0, d0, ds0, p0, q0, hargs, rfl, rfl, h0, r0⟩ := trodAll_cons hA
  obtain ⟨rfl, rfl, rfl⟩ := trodAll_nil r0
  obtain rfl : args = #[v0] := by cases args; simp_all
  obtain ⟨A0, n0, c0, rfl, hr0, hm0⟩ := rowU8 (hval 0 51 v0 rfl rfl) h0
  refine (lawBestPl_walk A0 n0 c0 W hr0 hm0).mono fun e W' ⟨he, hb⟩ => ?_
  subst he
  exact law_post Try.laidOut (by kernel_rfl) (by kernel_rfl) Try.underlying4 rfl ⟨rfl, rfl, rfl⟩ hW' hb

theorem lawFnBestPlane : Rows.FnBestPlaneSaid :=
  OpenClaim.holds_of_wide 12 Try.f12 rfl rfl rfl rfl rfl rfl rfl ⟨rfl, rfl, rfl, rfl, rfl⟩ rfl rfl rfl rfl rfl (by kernel_rfl) Try.func12 (by kernel_rfl)
    (of_decide_eq_true (by kernel_rfl)) (by unfold Func.isWrapper; first | (rw [if_pos (by decide +kernel)]; kernel_rfl) | (rw [if_neg (by decide +kernel)]; exact ⟨rfl, rfl⟩))
    (fun os started H enc _ => lawFnBestPlane_lifted os started H enc)
end Go.Proofs.Ytefofllkeghfnaa
