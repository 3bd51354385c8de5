/-
  Proved here: for every code, the parts of a cube have all of it and their reaches lie within its reach (FnCubes returns true). No condition.
-/
import Derived.Test.YtaobbkiepggafaaCuPl2
import Derived.Test.YtaobbkiepggafaaCuDr6
import Derived.Test.YtaobbkiepggafaaCuVin
import Derived.Test.YtaobbkiepggafaaCuHoldS
import Derived.Test.YtaobbkiepggafaaCuCan
import Derived.Test.YtaobbkiepggafaaByte
import Derived.Deep.CutBlock
namespace Go.Proofs.Ytaobbkiepggafaa
set_option linter.unusedVariables false
set_option linter.unusedSimpArgs false
set_option linter.unnecessarySimpa false
open Go.RowKit Go.WideShapes Go.ChangeShapes Go.ChangeAt
attribute [local go_sem] ext_cell ext_frozen

theorem CodeAt.below2 {w w' : World} {A : Option Addr} {n : Nat} (h : CodeAt w A n) (hb : Below w.heap.size w w') : CodeAt w' A n := h.grown (only_of_below hb none) (fun _ _ _ e => by cases e)
set_option maxRecDepth 100000 in
set_option maxHeartbeats 16000000 in
theorem lawCubes_walk (A : Option Addr) (n c : Nat) (w : World) (hr : CodeAt w A n) (hm : n ≤ 9223372036854775807) :
    Calls Try.prog 6 #[.slice A n c] w fun e w' => e = .returned (.bool true) ∧ Below w.heap.size w w' := by
  have HC := Lib.hid hr
  clear hr
  by_cases hn : n ≤ 65536
  · go_enter Try.func6, Try.ntmps6
    go_wp2_with fail
    refine (vBig_any _ _ _ _).mono ?_; rintro e w' ⟨rfl, rfl⟩
    rw [decide_eq_false (show ¬ 65536 < (n : Int) by omega)]
    go_wp2_with fail
    refine (drawSplit_any A n c _ HC.out hn).mono ?_; rintro e w1 ⟨m, rfl, hb⟩
    have C := Lib.hid hb
    have HM := Lib.hid (box5_new w1 (.int .i64 m.ws) (.int .i64 m.so) (.int .i64 m.sd) (.int .i64 m.fr) (.int .i64 m.to_) 37)
    have hx := balloc (bref w1) (.cells #[.int .i64 m.ws, .int .i64 m.so, .int .i64 m.sd, .int .i64 m.fr, .int .i64 m.to_] 37)
    obtain ⟨S, hS⟩ : ∃ S, splL m = S := ⟨_, rfl⟩
    obtain ⟨K, hK⟩ : ∃ K, splOK m = K := ⟨_, rfl⟩
    have HS := Lib.hid hS
    have HK := Lib.hid hK
    have hS4 : S.length ≤ 4 := by rw [← hS]; exact splL_le m
    clear hb hS hK
    go_wp2_with fail
    generalize w1.alloc (.cells #[.int .i64 m.ws, .int .i64 m.so, .int .i64 m.sd, .int .i64 m.fr, .int .i64 m.to_] 37) = wa at HM hx ⊢
    replace C := Lib.hid (bstep C.out hx)
    clear hx
    refine (iSpl_any m _).mono ?_; rw [HS.out, HK.out]; rintro e w2 ⟨A2, k2, rfl, ho, hb⟩
    replace C := Lib.hid (bstep C.out hb)
    replace HM := Lib.hid (Box5.below HM.out hb)
    have H2 := Lib.hid (RowAt.of_own ho encCu_len (by decide))
    clear hb
    clear ho
    obtain ⟨_, ⟨q0, q1, q2, q3, q4⟩, f0, f1, f2, f3, f4⟩ := HM.out
    go_wp2_with fail
    refine (sSpl_any m _).mono ?_; rw [HS.out, HK.out]; rintro e w3 ⟨A3, k3, rfl, ho, hb⟩
    replace C := Lib.hid (bstep C.out hb)
    replace HM := Lib.hid (Box5.below HM.out hb)
    replace H2 := Lib.hid (RowAt.below H2.out hb)
    have H3 := Lib.hid (RowAt.of_own ho encCu_len (by decide))
    clear hb
    clear ho
    clear q0 q1 q2 q3 q4 f0 f1 f2 f3 f4
    go_wp2_with fail
    refine (vCu_same S A2 A3 k2 k3 _ H2.out H3.out (by omega)).mono ?_; rintro e w4 ⟨rfl, hb⟩
    replace C := Lib.hid (bstep C.out hb)
    replace HM := Lib.hid (Box5.below HM.out hb)
    replace H2 := Lib.hid (RowAt.below H2.out hb)
    replace H3 := Lib.hid (RowAt.below H3.out hb)
    clear hb
    clear H3
    go_upto_if 61 with fail
    go_cut [8, 9, 10, 11, 12, 13, 14, 15, 16] from 62 to 139 (fun _ _ _ _ _ _ _ _ _ wx => Hid (Below w4.heap.size w4 wx))
    case first =>
      cases K
      case false =>
        go_wp2_with fail
        go_meet
        exact Lib.hid (bref _)
      case true =>
        obtain ⟨hmc, hlen, hall, hfound⟩ := parts_all HK.out
        rw [HS.out] at hlen hall hfound
        have HALL := Lib.hid hall
        have HMC := Lib.hid hmc
        have HF := Lib.hid hfound
        have hp : placeB 100 400 = true := by decide
        have HRM := Lib.hid (rchO_of hmc hp)
        have HP := Lib.hid hp
        have hl1 : ¬ (S.length : Int) < 1 := by omega
        have hl4 : ¬ (4 : Int) < (S.length : Int) := by omega
        clear hall hmc hfound hp
        obtain ⟨_, ⟨q0, q1, q2, q3, q4⟩, f0, f1, f2, f3, f4⟩ := HM.out
        go_wp2_with fail
        refine (iRch_any m 100 400 _).mono ?_; rw [HRM.out]; rintro e wb ⟨rfl, hb⟩
        have Cb := Lib.hid hb
        clear q0 q1 q2 q3 q4 f0 f1 f2 f3 f4
        clear hb
        go_wp2_with fail
        go_loopw [11] (fun i wr => ∃ k : Nat, k ≤ S.length ∧ i = .int .i64 k ∧ Hid (Below w4.heap.size w4 wr)) (fun i _ => S.length - (intOf i).toNat)
        case atStart => exact ⟨0, Nat.zero_le _, rfl, Cb⟩
        case round =>
          obtain ⟨k, hk, rfl, HWr⟩ := hrel
          by_cases hlt : k < S.length
          case pos =>
            obtain ⟨c1, hc1⟩ := some_get hlt
            obtain ⟨hcc, hcs, hlo, hhi⟩ := HALL.out c1 (List.mem_of_getElem? hc1)
            have i0 := ib0 k
            have i1 := ib1 hlt
            obtain ⟨b1, o1, e1, hb1, r0, r1, r2, r3, r4⟩ := (RowAt.below H2.out HWr.out).cu hc1
            subst e1
            have HIC := Lib.hid (fun W => by have h := isCube_any c1 W; rw [hcc] at h; exact h)
            have HRC := Lib.hid (rchO_of hcc HP.out)
            have hcb := cubeB_bounds hcc
            have hsd : (c1.sd * 2 == m.sd) = true := by simpa using hcs
            have hsde : c1.sd * 2 = m.sd := by simpa using hcs
            have hsdn : (c1.sd * 2 != m.sd) = false := by simpa using hcs
            obtain ⟨hcb1, hcb2⟩ : 1 ≤ c1.sd ∧ c1.sd ≤ 512 := by omega
            have hw2 : IntKind.i64.wrap (c1.sd * 2) = c1.sd * 2 := by rw [IntKind.wrap_i64]; omega
            have hn1 : ¬ rLo c1 100 400 < rLo m 100 400 := by omega
            have hn2 : ¬ rHi m 100 400 < rHi c1 100 400 := by omega
            have hd1 := decide_eq_false hn1
            have hd2 := decide_eq_false hn2
            clear hc1 hcs hlo hhi hcc
            go_wp2_with fail
            refine (iRch_any c1 100 400 _).mono ?_; rw [HRC.out]; rintro e w7 ⟨rfl, hb7⟩
            have hbx := bstep HWr.out hb7
            have s0 := (hb7.cell (p := ⟨b1, o1 + k * 5, none⟩) hb1).trans r0
            have s1 := (hb7.cell (p := ⟨b1, o1 + k * 5 + 1, none⟩) hb1).trans r1
            have s2 := (hb7.cell (p := ⟨b1, o1 + k * 5 + 2, none⟩) hb1).trans r2
            have s3 := (hb7.cell (p := ⟨b1, o1 + k * 5 + 3, none⟩) hb1).trans r3
            have s4 := (hb7.cell (p := ⟨b1, o1 + k * 5 + 4, none⟩) hb1).trans r4
            have hbs := Nat.lt_of_lt_of_le hb1 hb7.size
            obtain ⟨hq, ⟨q0, q1, q2, q3, q4⟩, _⟩ := HM.out.below hbx
            clear r0 r1 r2 r3 r4 hb1
            go_wp2_with fail
            (refine wp_region_calm (by kernel_rfl) (by kernel_rfl) ?_; (repeat (go_big_quiet_step (((go_at_call 26; with_reducible exact calm_of (HIC.out _)))))); refine wpQuiet_nil ?_; intro xw; have hb8 := xw.is; generalize xw.w = w8 at hb8 ⊢; clear xw)
            go_wp2_with fail
            go_roundw
            case rel => exact ⟨k + 1, by omega, by go_num, Lib.hid (bstep hbx hb8)⟩
            case measure => simp [intOf]; omega
          obtain rfl : k = S.length := by omega
          have H2r := Lib.hid (RowAt.below H2.out HWr.out)
          obtain ⟨_, ⟨q0, q1, q2, q3, q4⟩, _⟩ := HM.out.below HWr.out
          go_wp2_with fail
          refine (iHold_any S ⟨m.ws, m.so, m.to_⟩ A2 k2 _ H2r.out (by omega)).mono ?_; rw [HF.out]; rintro e w9 ⟨rfl, hb9⟩
          go_wp2_with fail
          go_meet
          exact Lib.hid (bstep HWr.out hb9)
    case rest =>
      replace C := Lib.hid (bstep C.out hcut.out)
      clear H2 HM HS HK hS4
      go_wp2_with fail
      refine (drawReach_any A n c _ (HC.out.below2 C.out) hn).mono ?_; rintro e w20 ⟨d, x, y, rfl, hb⟩
      replace C := Lib.hid (bstep C.out hb)
      have HM := Lib.hid (box5_new w20 (.int .i64 d.ws) (.int .i64 d.so) (.int .i64 d.sd) (.int .i64 d.fr) (.int .i64 d.to_) 37)
      have hx := balloc (bref w20) (.cells #[.int .i64 d.ws, .int .i64 d.so, .int .i64 d.sd, .int .i64 d.fr, .int .i64 d.to_] 37)
      obtain ⟨z1, hz1⟩ : ∃ z, (rchO d x y).1 = z := ⟨_, rfl⟩
      obtain ⟨z2, hz2⟩ : ∃ z, (rchO d x y).2.1 = z := ⟨_, rfl⟩
      obtain ⟨z3, hz3⟩ : ∃ z, (rchO d x y).2.2 = z := ⟨_, rfl⟩
      have HLE := Lib.hid (show z3 = true → z1 ≤ z2 from fun h => by rw [← hz1, ← hz2]; exact rch_le (hz3.trans h))
      have Z1 := Lib.hid hz1
      have Z2 := Lib.hid hz2
      have Z3 := Lib.hid hz3
      clear hb hz1 hz2 hz3
      go_wp2_with fail
      generalize w20.alloc (.cells #[.int .i64 d.ws, .int .i64 d.so, .int .i64 d.sd, .int .i64 d.fr, .int .i64 d.to_] 37) = wd at HM hx ⊢
      replace C := Lib.hid (bstep C.out hx)
      clear hx
      refine (iRch_any d x y _).mono ?_; rw [Z1.out, Z2.out, Z3.out]; rintro e w21 ⟨rfl, hb⟩
      replace C := Lib.hid (bstep C.out hb)
      replace HM := Lib.hid (Box5.below HM.out hb)
      clear hb
      obtain ⟨_, ⟨q0, q1, q2, q3, q4⟩, f0, f1, f2, f3, f4⟩ := HM.out
      go_wp2_with fail
      refine (sRch_any d x y _).mono ?_; rw [Z1.out, Z2.out, Z3.out]; rintro e w22 ⟨rfl, hb⟩
      replace C := Lib.hid (bstep C.out hb)
      replace HM := Lib.hid (Box5.below HM.out hb)
      clear hb
      clear q0 q1 q2 q3 q4 f0 f1 f2 f3 f4
      have hle := HLE.out
      clear HM HLE Z1 Z2 Z3
      cases z3
      case' true =>
        have hle2 : ¬ z2 < z1 := by have := hle rfl; omega
      all_goals
        clear hle
        go_wp2_with fail
        refine (drawPoss_any A n c _ (HC.out.below2 C.out) hn).mono ?_; rintro e w30 ⟨l, L, cl, d2, rfl, ⟨hll, ho1⟩, hb⟩
        replace C := Lib.hid (bstep C.out hb)
        have HL := Lib.hid ((RowAt.of_own ho1 encAr_len (by decide)).below (balloc (bref w30) (.cells #[.int .i64 d2.ws, .int .i64 d2.so, .int .i64 d2.sd, .int .i64 d2.fr, .int .i64 d2.to_] 37)))
        have HM := Lib.hid (box5_new w30 (.int .i64 d2.ws) (.int .i64 d2.so) (.int .i64 d2.sd) (.int .i64 d2.fr) (.int .i64 d2.to_) 37)
        have hx := balloc (bref w30) (.cells #[.int .i64 d2.ws, .int .i64 d2.so, .int .i64 d2.sd, .int .i64 d2.fr, .int .i64 d2.to_] 37)
        obtain ⟨p1, hp1⟩ : ∃ z, (possR l d2).1 = z := ⟨_, rfl⟩
        obtain ⟨p2, hp2⟩ : ∃ z, (possR l d2).2 = z := ⟨_, rfl⟩
        have P1 := Lib.hid hp1
        have P2 := Lib.hid hp2
        clear hb hp1 hp2 ho1
        go_wp2_with fail
        generalize w30.alloc (.cells #[.int .i64 d2.ws, .int .i64 d2.so, .int .i64 d2.sd, .int .i64 d2.fr, .int .i64 d2.to_] 37) = we at HM HL hx ⊢
        replace C := Lib.hid (bstep C.out hx)
        clear hx
        refine (iPoss_any l d2 L cl _ HL.out (by omega)).mono ?_; rw [P1.out, P2.out]; rintro e w31 ⟨rfl, hb⟩
        replace C := Lib.hid (bstep C.out hb)
        replace HM := Lib.hid (Box5.below HM.out hb)
        replace HL := Lib.hid (RowAt.below HL.out hb)
        clear hb
        obtain ⟨_, ⟨q0, q1, q2, q3, q4⟩, f0, f1, f2, f3, f4⟩ := HM.out
        go_wp2_with fail
        refine (sPoss_any l d2 L cl _ HL.out (by omega)).mono ?_; rw [P1.out, P2.out]; rintro e w32 ⟨rfl, hb⟩
        replace C := Lib.hid (bstep C.out hb)
        replace HM := Lib.hid (Box5.below HM.out hb)
        replace HL := Lib.hid (RowAt.below HL.out hb)
        clear hb
        clear q0 q1 q2 q3 q4 f0 f1 f2 f3 f4
        clear HM HL P1 P2
        go_wp2_with fail
        refine (drawHold_any A n c _ (HC.out.below2 C.out) hn).mono ?_; rintro e w40 ⟨D, B5, c5, o, rfl, hle5, hrw, hb⟩
        replace C := Lib.hid (bstep C.out hb)
        have HD := Lib.hid (hrw.below (balloc (bref w40) (.cells #[.int .i64 o.x, .int .i64 o.y, .int .i64 o.tk] 30)))
        have HO := Lib.hid (box3_new w40 (.int .i64 o.x) (.int .i64 o.y) (.int .i64 o.tk) 30)
        have hx := balloc (bref w40) (.cells #[.int .i64 o.x, .int .i64 o.y, .int .i64 o.tk] 30)
        obtain ⟨u1, hu1⟩ : ∃ z, (holR D o).1 = z := ⟨_, rfl⟩
        obtain ⟨u2, hu2⟩ : ∃ z, (holR D o).2 = z := ⟨_, rfl⟩
        have U1 := Lib.hid hu1
        have U2 := Lib.hid hu2
        clear hb hu1 hu2 hrw
        go_wp2_with fail
        generalize w40.alloc (.cells #[.int .i64 o.x, .int .i64 o.y, .int .i64 o.tk] 30) = wf at HO HD hx ⊢
        replace C := Lib.hid (bstep C.out hx)
        clear hx
        refine (iHold_any D o B5 c5 _ HD.out (by omega)).mono ?_; rw [U1.out, U2.out]; rintro e w51 ⟨rfl, hb⟩
        replace C := Lib.hid (bstep C.out hb)
        replace HO := Lib.hid (Box3.below HO.out hb)
        replace HD := Lib.hid (RowAt.below HD.out hb)
        clear hb
        obtain ⟨_, ⟨q0, q1, q2⟩, f0, f1, f2⟩ := HO.out
        go_wp2_with fail
        refine (sHold_any D o B5 c5 _ HD.out (by omega)).mono ?_; rw [U1.out, U2.out]; rintro e w52 ⟨rfl, hb⟩
        replace C := Lib.hid (bstep C.out hb)
        replace HO := Lib.hid (Box3.below HO.out hb)
        replace HD := Lib.hid (RowAt.below HD.out hb)
        clear hb
        clear q0 q1 q2 f0 f1 f2
        go_wp2
        go_ret
        exact ⟨by simp, C.out⟩
  · go_enter Try.func6, Try.ntmps6
    go_wp2_with fail
    refine (vBig_any _ _ _ _).mono ?_; rintro e w' ⟨rfl, rfl⟩
    rw [decide_eq_true (show 65536 < (n : Int) by omega)]
    go_wp2
    go_ret
    exact ⟨rfl, bref _⟩
-- THE ROW --
set_option maxRecDepth 100000 in
theorem lawFnCubes_lifted (os : Os) (started : os.Started) (H : Type) (enc : TypeId × Value → H) :
    ReturnsInHanded {} Try.checked os 6 .any (Rows.fnCubesSpec.pre6 enc Try.prog Try.f6 Rows.fnCubesRow.domain false) (Rows.fnCubesSpec.post enc Try.prog Try.f6 false true false false) := by
  refine returnsInHanded_of_change (C := Try.checked) Try.own started (by kernel_rfl) Try.func6
    (ChangeSpec.witness6 (enc := enc) (C := Try.checked) false ⟨#[], #[.slice none 0 0], []⟩ 8 (by kernel_rfl) (by kernel_rfl) (by kernel_rfl) (by kernel_rfl)) ?_
  intro W base args ds gs before hval0 hW hcnd _
  have hval : ∀ (j : Nat) t v, Try.f6.params[j]? = some t → args[j]? = some v → Value.okWide Try.prog W .any base t v := hval0
  have hW' := hW
  obtain ⟨p, q, hA0, hV, hpq, hfz, hnd⟩ := hW
  have hA : DataW.TrodAll enc Try.prog W 0 (fun _ => true) true Try.f6.params.toList args.toList ds p := hA0
  rw [Try.params6] at hA hval
  obtain ⟨v0, vs0, d0, ds0, p0, q0, hargs, rfl, rfl, h0, r0⟩ := trodAll_cons hA
  obtain ⟨rfl, rfl, rfl⟩ := trodAll_nil r0
  obtain rfl : args = #[v0] := by cases args; simp_all
  obtain ⟨A0, n0, c0, rfl, hr0, hm0⟩ := rowU8 (hval 0 42 v0 rfl rfl) h0
  refine (lawCubes_walk A0 n0 c0 W hr0 hm0).mono fun e W' ⟨he, hb⟩ => ?_
  subst he
  exact law_post Try.laidOut (by kernel_rfl) (by kernel_rfl) Try.underlying4 rfl ⟨rfl, rfl, rfl⟩ hW' hb

theorem lawFnCubes : Rows.FnCubesSaid :=
  OpenClaim.holds_of_wide 6 Try.f6 rfl rfl rfl rfl rfl rfl rfl ⟨rfl, rfl, rfl, rfl, rfl⟩ rfl rfl rfl rfl rfl (by kernel_rfl) Try.func6 (by kernel_rfl)
    (of_decide_eq_true (by kernel_rfl)) (by unfold Func.isWrapper; first | (rw [if_pos (by decide +kernel)]; kernel_rfl) | (rw [if_neg (by decide +kernel)]; exact ⟨rfl, rfl⟩))
    (fun os started H enc _ => lawFnCubes_lifted os started H enc)
end Go.Proofs.Ytaobbkiepggafaa
