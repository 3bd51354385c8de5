/-
  Proved here: for every code, each consistent origin of a cube is in one of the cubes that are found (FnLocations returns true). No condition.
-/
import Derived.Test.YtaobbkiepggafaaGreatLoPl2
import Derived.Test.YtaobbkiepggafaaGreatLoDr1
import Derived.Test.YtaobbkiepggafaaGreatLoDr2
import Derived.Test.YtaobbkiepggafaaGreatLoArr
import Derived.Test.YtaobbkiepggafaaGreatCuVin
import Derived.Test.YtaobbkiepggafaaGreatCuHold
import Derived.Test.YtaobbkiepggafaaGreatCurs
import Derived.Deep.CutBlock
import Derived.Deep.CutRange
namespace Go.Proofs.YtaobbkiepggafaaGreat
set_option linter.unusedVariables false
set_option linter.unusedSimpArgs false
set_option linter.unnecessarySimpa false
open Go.RowKit Go.WideShapes Go.ChangeShapes Go.ChangeAt
attribute [local go_sem] ext_cell ext_frozen

theorem CodeAt.below2 {w w' : World} {A : Option Addr} {n : Nat} (h : CodeAt w A n) (hb : Below w.heap.size w w') : CodeAt w' A n := h.grown (only_of_below hb none) (fun _ _ _ e => by cases e)
set_option maxRecDepth 100000 in
set_option maxHeartbeats 32000000 in
theorem lawLocs_walk (A : Option Addr) (n c : Nat) (w : World) (hr : CodeAt w A n) (hm : n ≤ 9223372036854775807) :
    Calls Tryz.prog 3 #[.slice A n c] w fun e w' => e = .returned (.bool true) ∧ Below w.heap.size w w' := by
  have HC := Lib.hid hr
  clear hr
  by_cases hn : n ≤ 65536
  · go_enter Tryz.func3, Tryz.ntmps3
    go_wp2_with fail
    refine (vBig_any _ _ _ _).mono ?_; rintro e w' ⟨rfl, rfl⟩
    rw [decide_eq_false (show ¬ 65536 < (n : Int) by omega)]
    go_wp2_with fail
    refine (drawLoc_any A n c _ HC.out hn).mono ?_; rintro e w1 ⟨l, L, cl, m, s, rfl, ⟨hll, ho⟩, hb⟩
    have C := Lib.hid hb
    have HM := Lib.hid (box5_new w1 (.int .i64 m.ws) (.int .i64 m.so) (.int .i64 m.sd) (.int .i64 m.fr) (.int .i64 m.to_) 26)
    have HL := Lib.hid ((RowAt.of_own ho encAr_len (by decide)).below (balloc (bref w1) (.cells #[.int .i64 m.ws, .int .i64 m.so, .int .i64 m.sd, .int .i64 m.fr, .int .i64 m.to_] 26)))
    have hx := balloc (bref w1) (.cells #[.int .i64 m.ws, .int .i64 m.so, .int .i64 m.sd, .int .i64 m.fr, .int .i64 m.to_] 26)
    obtain ⟨S, hS⟩ : ∃ S, lcL l m s = S := ⟨_, rfl⟩
    obtain ⟨K, hK⟩ : ∃ K, lcOK l m s = K := ⟨_, rfl⟩
    obtain ⟨Q, hQ⟩ : ∃ Q, cubeB m = Q := ⟨_, rfl⟩
    obtain ⟨P, hP⟩ : ∃ P, (K && decide (S.length = 0)) = P := ⟨_, rfl⟩
    have HS := Lib.hid hS
    have HK := Lib.hid hK
    have HP := Lib.hid hP
    have HPR := Lib.hid (show prvR l m s = (P, K) by rw [← hP]; exact prv_eq hS hK)
    have hS64 : S.length ≤ 64 := by rw [← hS]; exact lcL_le l m s
    have HIQ := Lib.hid (fun W => by have h := isCube_any m W; rw [hQ] at h; exact h)
    have HSQ := Lib.hid (fun W => by have h := sIsCube_any m W; rw [hQ] at h; exact h)
    clear hb hS hK hQ hP ho
    go_wp2_with fail
    generalize w1.alloc (.cells #[.int .i64 m.ws, .int .i64 m.so, .int .i64 m.sd, .int .i64 m.fr, .int .i64 m.to_] 26) = wa at HM HL hx ⊢
    replace C := Lib.hid (bstep C.out hx)
    clear hx
    refine (iLc_any l m s L cl _ HL.out (by omega)).mono ?_; rw [HS.out, HK.out]; rintro e w2 ⟨A2, k2, rfl, ho, hb⟩
    replace C := Lib.hid (bstep C.out hb)
    replace HM := Lib.hid (Box5.below HM.out hb)
    replace HL := Lib.hid (RowAt.below HL.out hb)
    have H2 := Lib.hid (RowAt.of_own ho encCu_len (by decide))
    clear hb
    clear ho
    obtain ⟨hq, ⟨q0, q1, q2, q3, q4⟩, f0, f1, f2, f3, f4⟩ := HM.out
    go_wp2_with fail
    refine (sLc_any l m s L cl _ HL.out (by omega)).mono ?_; rw [HS.out, HK.out]; rintro e w3 ⟨A3, k3, rfl, ho, hb⟩
    replace C := Lib.hid (bstep C.out hb)
    replace HM := Lib.hid (Box5.below HM.out hb)
    replace HL := Lib.hid (RowAt.below HL.out hb)
    replace H2 := Lib.hid (RowAt.below H2.out hb)
    have H3 := Lib.hid (RowAt.of_own ho encCu_len (by decide))
    clear hb
    clear ho
    clear hq q0 q1 q2 q3 q4 f0 f1 f2 f3 f4
    have HV := Lib.hid (fun (W : World) (h : Below w3.heap.size w3 W) => vCu_same S A2 A3 k2 k3 W (H2.out.below h) (H3.out.below h) (by omega))
    have hkk : (K != K) = false := by simp
    have hqq : (Q != Q) = false := by simp
    obtain ⟨hq, ⟨q0, q1, q2, q3, q4⟩, f0, f1, f2, f3, f4⟩ := HM.out
    go_upto_region 6 with fail
    (refine wp_region_calm (by kernel_rfl) (by kernel_rfl) ?_; (repeat (go_big_quiet_step (((first | (go_at_call 8; with_reducible exact calm_of (HV.out _ (Ext.is _))) | (go_at_call 9; with_reducible exact calm_of (HIQ.out _)) | (go_at_call 10; with_reducible exact calm_of (HSQ.out _)) | fail))))); refine wpQuiet_nil ?_; intro xw; have hb := xw.is; generalize xw.w = w4 at hb ⊢; clear xw)
    replace C := Lib.hid (bstep C.out hb)
    replace HM := Lib.hid (Box5.below HM.out hb)
    replace HL := Lib.hid (RowAt.below HL.out hb)
    replace H2 := Lib.hid (RowAt.below H2.out hb)
    replace H3 := Lib.hid (RowAt.below H3.out hb)
    clear H3
    clear hb HV HIQ HSQ hqq
    clear hq q0 q1 q2 q3 q4 f0 f1 f2 f3 f4
    obtain ⟨hq, ⟨q0, q1, q2, q3, q4⟩, f0, f1, f2, f3, f4⟩ := HM.out
    go_wp2_with fail
    refine (iPrv_any l m s L cl _ HL.out (by omega)).mono ?_; rw [HPR.out]; rintro e w5 ⟨rfl, hb⟩
    replace C := Lib.hid (bstep C.out hb)
    replace HM := Lib.hid (Box5.below HM.out hb)
    replace HL := Lib.hid (RowAt.below HL.out hb)
    replace H2 := Lib.hid (RowAt.below H2.out hb)
    clear hb
    clear hq q0 q1 q2 q3 q4 f0 f1 f2 f3 f4
    obtain ⟨hq, ⟨q0, q1, q2, q3, q4⟩, f0, f1, f2, f3, f4⟩ := HM.out
    go_wp2_with fail
    refine (sPrv_any l m s L cl _ HL.out (by omega)).mono ?_; rw [HPR.out]; rintro e w6 ⟨rfl, hb⟩
    replace C := Lib.hid (bstep C.out hb)
    replace HM := Lib.hid (Box5.below HM.out hb)
    replace HL := Lib.hid (RowAt.below HL.out hb)
    replace H2 := Lib.hid (RowAt.below H2.out hb)
    clear hb
    clear hq q0 q1 q2 q3 q4 f0 f1 f2 f3 f4
    clear HPR
    have hpp : (P != P) = false := by simp
    go_upto_region 10 with fail
    go_cut [114] from 92 to 114 (fun s114 wx => s114 = .bool false ∧ wx = w6)
    case first =>
      cases K
      case false =>
        have hPf : P = false := by rw [← HP.out]; rfl
        subst hPf
        go_wp2_with fail
        go_meet
        exact ⟨rfl, rfl⟩
      case true =>
        by_cases hz : S.length = 0
        case pos =>
          have hPf : P = true := by rw [← HP.out]; simp [hz]
          have hz2 : ((S.length : Int) == 0) = true := by simp [hz]
          have hz3 : (S.length : Int) = 0 := by omega
          subst hPf
          clear hz
          go_wp2_with fail
          go_meet
          exact ⟨by first | rfl | simp [hz2], rfl⟩
        case neg =>
          have hPf : P = false := by rw [← HP.out]; simp [hz]
          have hz2 : ((S.length : Int) == 0) = false := by rw [beq_eq_false_iff_ne]; omega
          have hz3 : ¬ (S.length : Int) = 0 := by omega
          subst hPf
          clear hz
          go_wp2_with fail
          go_meet
          exact ⟨by first | rfl | simp [hz2], rfl⟩
    case rest =>
      obtain ⟨rfl, hw⟩ := hcut
      obtain rfl := hw.symm
      clear hpp hkk HP
      go_upto_if 115 with fail
      go_cut [14, 15, 16, 17, 18, 19, 20, 21, 22, 23] from 116 to 222 (fun _ _ _ _ _ _ _ _ _ _ wx => Hid (Below w6.heap.size w6 wx))
      case first =>
        cases K
        case false =>
          go_wp2_with fail
          go_meet
          exact Lib.hid (bref _)
        case true =>
          have HG := Lib.hid (fun c hc => locs_good HK.out c (by rw [HS.out]; exact hc))
          have HH := Lib.hid (fun (o : Og) (h1 : consR l o = (true, true)) (h2 : holdB m o = true) => show (holR S o).2 = true by rw [← HS.out]; exact locs_has HK.out h1 h2)
          have HBD := Lib.hid (cubeB_bounds (lc_ask HK.out).1.2.1)
          go_wp2_with fail
          go_loopw [14] (fun i wr => ∃ k : Nat, k ≤ S.length ∧ i = .int .i64 k ∧ Hid (Below w6.heap.size w6 wr)) (fun i _ => S.length - (intOf i).toNat)
          case atStart => exact ⟨0, Nat.zero_le _, rfl, Lib.hid (bref _)⟩
          case round =>
            obtain ⟨k, hk, rfl, HWr⟩ := hrel
            by_cases hlt : k < S.length
            case pos =>
              obtain ⟨c1, hc1⟩ := some_get hlt
              obtain ⟨hcc, hcs, hcp⟩ := HG.out c1 (List.mem_of_getElem? hc1)
              have i0 := ib0 k
              have i1 := ib1 hlt
              have H2r := Lib.hid (RowAt.below H2.out HWr.out)
              have HLr := Lib.hid (RowAt.below HL.out HWr.out)
              obtain ⟨b1, o1, e1, hb1, r0, r1, r2, r3, r4⟩ := H2r.out.cu hc1
              subst e1
              have HCP := Lib.hid hcp
              have HCS := Lib.hid hcs
              clear hc1 hcs hcc hcp
              go_wp2_with fail
              refine (iPoss_any l c1 L cl _ HLr.out (by omega)).mono ?_; rw [HCP.out]; rintro e w7 ⟨rfl, hb7⟩
              have hbx := bstep HWr.out hb7
              have s2 := (hb7.cell (p := ⟨b1, o1 + k * 5 + 2, none⟩) hb1).trans r2
              have hbs := Nat.lt_of_lt_of_le hb1 hb7.size
              rw [HCS.out] at s2
              clear r0 r1 r2 r3 r4 hb1
              have hss : (s != s) = false := by simp
              go_wp2_with fail
              go_roundw
              case rel => exact ⟨k + 1, by omega, by go_num, Lib.hid hbx⟩
              case measure => simp [intOf]; omega
            obtain rfl : k = S.length := by omega
            go_wp2_with fail
            refine (drawCons_any A n c _ ((HC.out.below2 C.out).below2 HWr.out) hn).mono ?_; rintro e w8 ⟨l2, L2, c2, o, rfl, ⟨hl2, ho2⟩, hb⟩
            have D := Lib.hid (bstep HWr.out hb)
            have HL2 := Lib.hid ((RowAt.of_own ho2 encAr_len (by decide)).below (balloc (bref w8) (.cells #[.int .i64 o.x, .int .i64 o.y, .int .i64 o.tk] 38)))
            have HO := Lib.hid (box3_new w8 (.int .i64 o.x) (.int .i64 o.y) (.int .i64 o.tk) 38)
            have hx := balloc (bref w8) (.cells #[.int .i64 o.x, .int .i64 o.y, .int .i64 o.tk] 38)
            obtain ⟨Y1, hY1⟩ : ∃ z, (consR l2 o).1 = z := ⟨_, rfl⟩
            obtain ⟨Y2, hY2⟩ : ∃ z, (consR l2 o).2 = z := ⟨_, rfl⟩
            have HY1 := Lib.hid hY1
            have HY2 := Lib.hid hY2
            clear hb ho2 hY1 hY2
            go_wp2_with fail
            generalize w8.alloc (.cells #[.int .i64 o.x, .int .i64 o.y, .int .i64 o.tk] 38) = we at HO HL2 hx ⊢
            replace D := Lib.hid (bstep D.out hx)
            clear hx
            refine (iCons_any l2 o L2 c2 _ HL2.out (by omega)).mono ?_; rw [HY1.out, HY2.out]; rintro e w9 ⟨rfl, hb⟩
            replace D := Lib.hid (bstep D.out hb)
            replace HL2 := Lib.hid (RowAt.below HL2.out hb)
            replace HO := Lib.hid (Box3.below HO.out hb)
            have HM9 := Lib.hid (Box5.below HM.out D.out)
            clear hb
            go_upto_region 21 with fail
            go_cut [21] from 157 to 202 (fun s21 wx => ∃ I : Bool, s21 = .bool I ∧ Hid (I = true → holdB m o = true) ∧ wx = w9)
            case first =>
              obtain ⟨hq, ⟨q0, q1, q2, q3, q4⟩, f0, f1, f2, f3, f4⟩ := HM9.out
              obtain ⟨hp, ⟨p0, p1, p2⟩, g0, g1, g2⟩ := HO.out
              obtain ⟨hbd1, hbd2, hbd3, hbd4, hbd5⟩ := HBD.out
              by_cases i0 : m.ws ≤ o.x
              case neg =>
                go_wp2_with fail
                go_meet
                exact ⟨false, rfl, Lib.hid (fun h => by cases h), rfl⟩
              by_cases i1 : o.x < m.ws + m.sd
              case neg =>
                go_wp2_with fail
                go_meet
                exact ⟨false, rfl, Lib.hid (fun h => by cases h), rfl⟩
              by_cases i2 : m.so ≤ o.y
              case neg =>
                go_wp2_with fail
                go_meet
                exact ⟨false, rfl, Lib.hid (fun h => by cases h), rfl⟩
              by_cases i3 : o.y < m.so + m.sd
              case neg =>
                go_wp2_with fail
                go_meet
                exact ⟨false, rfl, Lib.hid (fun h => by cases h), rfl⟩
              by_cases i4 : m.fr ≤ o.tk
              case neg =>
                go_wp2_with fail
                go_meet
                exact ⟨false, rfl, Lib.hid (fun h => by cases h), rfl⟩
              by_cases i5 : o.tk ≤ m.to_
              case neg =>
                go_wp2_with fail
                go_meet
                exact ⟨false, rfl, Lib.hid (fun h => by cases h), rfl⟩
              go_wp2_with fail
              go_meet
              exact ⟨true, rfl, Lib.hid (fun _ => holdB_of (by omega) (by omega) (by omega)), rfl⟩
            case rest =>
              obtain ⟨I, rfl, HI, hw⟩ := hcut
              obtain rfl := hw.symm
              have HLc := Lib.hid (RowAt.below HL.out D.out)
              go_upto_region 22 with fail
              go_cut [214] from 203 to 214 (fun s214 wx => ∃ V : Bool, s214 = .bool V ∧ Hid (V = true → Y2 = true ∧ Y1 = true ∧ I = true ∧ l2 = l) ∧ Hid (Below w9.heap.size w9 wx))
              case first =>
                cases Y2
                case false =>
                  go_wp2_with fail
                  go_meet
                  exact ⟨false, rfl, Lib.hid (fun h => by cases h), Lib.hid (bref _)⟩
                cases Y1
                case false =>
                  go_wp2_with fail
                  go_meet
                  exact ⟨false, rfl, Lib.hid (fun h => by cases h), Lib.hid (bref _)⟩
                cases I
                case false =>
                  go_wp2_with fail
                  go_meet
                  exact ⟨false, rfl, Lib.hid (fun h => by cases h), Lib.hid (bref _)⟩
                go_wp2_with fail
                refine (vArr_any l2 l L2 L c2 cl _ HL2.out HLc.out (by omega) (by omega)).mono ?_; rintro e w10 ⟨V, rfl, hV, hb10⟩
                go_wp2_with fail
                go_meet
                exact ⟨V, rfl, Lib.hid (fun h => by have e := hV h; refine ⟨?_, ?_, ?_, e⟩ <;> simp), Lib.hid hb10⟩
              case rest =>
                obtain ⟨V, rfl, HV2, HWv⟩ := hcut
                obtain ⟨wv, hw⟩ : ∃ wv : World, wv = wc := ⟨_, rfl⟩
                rw [← hw] at HWv ⊢
                clear hw
                have HDv := Lib.hid (bstep D.out HWv.out)
                have H2v := Lib.hid (RowAt.below H2.out HDv.out)
                have HOv := Lib.hid (Box3.below HO.out HWv.out)
                cases V
                case false =>
                  go_wp2_with fail
                  go_meet
                  exact HDv
                case true =>
                  obtain ⟨hy2, hy1, hi, hll2⟩ := HV2.out rfl
                  subst hll2
                  have hho := HI.out hi
                  have hfo := HH.out o (Prod.ext (HY1.out.trans hy1) (HY2.out.trans hy2)) hho
                  obtain ⟨z1, hz1⟩ : ∃ z, (holR S o).1 = z := ⟨_, rfl⟩
                  have HF := Lib.hid hfo
                  have HZ := Lib.hid hz1
                  clear hfo hz1 hho hy1 hy2 hi
                  obtain ⟨hp, ⟨p0, p1, p2⟩, g0, g1, g2⟩ := HOv.out
                  go_wp2_with fail
                  refine (iHold_any S o A2 k2 _ H2v.out (by omega)).mono ?_; rw [HF.out, HZ.out]; rintro e w11 ⟨rfl, hb11⟩
                  go_wp2_with fail
                  go_meet
                  exact Lib.hid (bstep HDv.out hb11)
      case rest =>
        replace C := Lib.hid (bstep C.out hcut.out)
        clear H2 HM HL HS HK hS64
        go_wp2_with fail
        refine (drawCnt_any A n c _ (HC.out.below2 C.out) hn).mono ?_; rintro e w20 ⟨x, X, cx, d, rfl, ⟨hlx, hox⟩, hb⟩
        replace C := Lib.hid (bstep C.out hb)
        have HX := Lib.hid ((RowAt.of_own hox encAr_len (by decide)).below (balloc (bref w20) (.cells #[.int .i64 d.ws, .int .i64 d.so, .int .i64 d.sd, .int .i64 d.fr, .int .i64 d.to_] 26)))
        have HM := Lib.hid (box5_new w20 (.int .i64 d.ws) (.int .i64 d.so) (.int .i64 d.sd) (.int .i64 d.fr) (.int .i64 d.to_) 26)
        have hx := balloc (bref w20) (.cells #[.int .i64 d.ws, .int .i64 d.so, .int .i64 d.sd, .int .i64 d.fr, .int .i64 d.to_] 26)
        obtain ⟨N, hN⟩ : ∃ z, (cntR x d).1 = z := ⟨_, rfl⟩
        obtain ⟨F, hF⟩ : ∃ z, (cntR x d).2 = z := ⟨_, rfl⟩
        have HN := Lib.hid hN
        have HF := Lib.hid hF
        clear hb hox hN hF
        go_wp2_with fail
        generalize w20.alloc (.cells #[.int .i64 d.ws, .int .i64 d.so, .int .i64 d.sd, .int .i64 d.fr, .int .i64 d.to_] 26) = wd at HM HX hx ⊢
        replace C := Lib.hid (bstep C.out hx)
        clear hx
        refine (iCnt_any x d X cx _ HX.out (by omega)).mono ?_; rw [HN.out, HF.out]; rintro e w21 ⟨rfl, hb⟩
        replace C := Lib.hid (bstep C.out hb)
        replace HM := Lib.hid (Box5.below HM.out hb)
        replace HX := Lib.hid (RowAt.below HX.out hb)
        clear hb
        obtain ⟨hq, ⟨q0, q1, q2, q3, q4⟩, f0, f1, f2, f3, f4⟩ := HM.out
        go_wp2_with fail
        refine (sCnt_any x d X cx _ HX.out (by omega)).mono ?_; rw [HN.out, HF.out]; rintro e w22 ⟨rfl, hb⟩
        replace C := Lib.hid (bstep C.out hb)
        replace HM := Lib.hid (Box5.below HM.out hb)
        replace HX := Lib.hid (RowAt.below HX.out hb)
        clear hb
        clear hq q0 q1 q2 q3 q4 f0 f1 f2 f3 f4
        have hnn : (N != N) = false := by simp
        have hff : (F != F) = false := by simp
        go_upto_region 31 with fail
        go_cut [252] from 248 to 252 (fun s252 wx => ∃ V : Bool, s252 = .bool V ∧ Hid (V = true → F = true ∧ 0 < N) ∧ wx = w22)
        case first =>
          cases F
          case false =>
            go_wp2_with fail
            go_meet
            exact ⟨false, rfl, Lib.hid (fun h => by cases h), rfl⟩
          by_cases hn0 : 0 < N
          case neg =>
            go_wp2_with fail
            go_meet
            exact ⟨false, by first | rfl | simp [hn0], Lib.hid (fun h => by cases h), rfl⟩
          have HN0 := Lib.hid hn0
          go_wp2_with fail
          go_meet
          exact ⟨true, by first | rfl | simp [hn0], Lib.hid (fun _ => by constructor <;> first | exact HN0.out | simp), rfl⟩
        case rest =>
          obtain ⟨V, rfl, HV, hw⟩ := hcut
          obtain rfl := hw.symm
          go_upto_if 252 with fail
          go_cut [30, 31] from 253 to 273 (fun _ _ wx => Hid (Below w22.heap.size w22 wx))
          case first =>
            cases V
            case false =>
              go_wp2_with fail
              go_meet
              exact Lib.hid (bref _)
            case true =>
              obtain ⟨hf, hn0⟩ := HV.out rfl
              obtain ⟨hps, hsq, hd1, hd2⟩ := cnt_all (HF.out.trans hf) (by rw [HN.out]; exact hn0)
              rw [HN.out] at hsq
              have HPS := Lib.hid hps
              have hs1 : 1 * 1 ≤ d.sd * d.sd := Int.mul_le_mul hd1 hd1 (by omega) (by omega)
              have hs2 : d.sd * d.sd ≤ 16 * 16 := Int.mul_le_mul hd2 hd2 (by omega) (by omega)
              have hw2 : IntKind.i64.wrap (d.sd * d.sd) = d.sd * d.sd := by rw [IntKind.wrap_i64]; omega
              have hgt : ¬ d.sd * d.sd < N := by omega
              subst hf
              clear hps hn0
              obtain ⟨hq, ⟨q0, q1, q2, q3, q4⟩, f0, f1, f2, f3, f4⟩ := HM.out
              go_wp2_with fail
              refine (iPoss_any x d X cx _ HX.out (by omega)).mono ?_; rw [HPS.out]; rintro e w24 ⟨rfl, hb⟩
              clear hq q0 q1 q2 q3 q4 f0 f1 f2 f3 f4
              have HM2 := Lib.hid (Box5.below HM.out hb)
              obtain ⟨hq, ⟨q0, q1, q2, q3, q4⟩, f0, f1, f2, f3, f4⟩ := HM2.out
              go_wp2_with fail
              go_meet
              exact Lib.hid hb
          case rest =>
            replace C := Lib.hid (bstep C.out hcut.out)
            clear HM HX HN HF HV
            go_wp2_with fail
            refine (drawCons_any A n c _ (HC.out.below2 C.out) hn).mono ?_; rintro e w30 ⟨y, Y, cy, o, rfl, ⟨hly, hoy⟩, hb⟩
            replace C := Lib.hid (bstep C.out hb)
            have HY := Lib.hid ((RowAt.of_own hoy encAr_len (by decide)).below (balloc (bref w30) (.cells #[.int .i64 o.x, .int .i64 o.y, .int .i64 o.tk] 38)))
            have HO := Lib.hid (box3_new w30 (.int .i64 o.x) (.int .i64 o.y) (.int .i64 o.tk) 38)
            have hx := balloc (bref w30) (.cells #[.int .i64 o.x, .int .i64 o.y, .int .i64 o.tk] 38)
            obtain ⟨u1, hu1⟩ : ∃ z, (consR y o).1 = z := ⟨_, rfl⟩
            obtain ⟨u2, hu2⟩ : ∃ z, (consR y o).2 = z := ⟨_, rfl⟩
            have U1 := Lib.hid hu1
            have U2 := Lib.hid hu2
            clear hb hoy hu1 hu2
            go_wp2_with fail
            generalize w30.alloc (.cells #[.int .i64 o.x, .int .i64 o.y, .int .i64 o.tk] 38) = wf at HO HY hx ⊢
            replace C := Lib.hid (bstep C.out hx)
            clear hx
            refine (iCons_any y o Y cy _ HY.out (by omega)).mono ?_; rw [U1.out, U2.out]; rintro e w31 ⟨rfl, hb⟩
            replace C := Lib.hid (bstep C.out hb)
            replace HO := Lib.hid (Box3.below HO.out hb)
            replace HY := Lib.hid (RowAt.below HY.out hb)
            clear hb
            obtain ⟨hq, ⟨q0, q1, q2⟩, f0, f1, f2⟩ := HO.out
            go_wp2_with fail
            refine (sCons_any y o Y cy _ HY.out (by omega)).mono ?_; rw [U1.out, U2.out]; rintro e w32 ⟨rfl, hb⟩
            replace C := Lib.hid (bstep C.out hb)
            replace HO := Lib.hid (Box3.below HO.out hb)
            replace HY := Lib.hid (RowAt.below HY.out hb)
            clear hb
            clear hq q0 q1 q2 f0 f1 f2
            have huu : (u1 != u1) = false := by simp
            have huv : (u2 != u2) = false := by simp
            cases u2
            case false =>
              go_wp2
              go_ret
              exact ⟨rfl, C.out⟩
            case true =>
              obtain ⟨kv, hkv, hkc⟩ := cons_vot U2.out
              have HKV := Lib.hid hkv
              have HKC := Lib.hid (U1.out.symm.trans hkc)
              clear hkv hkc
              obtain ⟨hq, ⟨q0, q1, q2⟩, f0, f1, f2⟩ := HO.out
              go_wp2_with fail
              refine (iVot_any y o Y cy _ HY.out (by omega)).mono ?_; rw [HKV.out]; rintro e w33 ⟨rfl, hb⟩
              clear hq q0 q1 q2 f0 f1 f2
              replace C := Lib.hid (bstep C.out hb)
              go_wp2_with fail
              go_ret
              exact ⟨by rw [HKC.out]; simp, C.out⟩
  · go_enter Tryz.func3, Tryz.ntmps3
    go_wp2_with fail
    refine (vBig_any _ _ _ _).mono ?_; rintro e w' ⟨rfl, rfl⟩
    rw [decide_eq_true (show 65536 < (n : Int) by omega)]
    go_wp2
    go_ret
    exact ⟨rfl, bref _⟩
-- THE ROW --
set_option maxRecDepth 100000 in
theorem lawFnLocations_lifted (os : Os) (started : os.Started) (H : Type) (enc : TypeId × Value → H) :
    ReturnsInHanded {} Tryz.checked os 3 .any (Rows.fnLocationsSpec.pre6 enc Tryz.prog Tryz.f3 Rows.fnLocationsRow.domain false) (Rows.fnLocationsSpec.post enc Tryz.prog Tryz.f3 false true false false) := by
  refine returnsInHanded_of_change (C := Tryz.checked) Tryz.own started (by kernel_rfl) Tryz.func3
    (ChangeSpec.witness6 (enc := enc) (C := Tryz.checked) false ⟨#[], #[.slice none 0 0], []⟩ 8 (by kernel_rfl) (by kernel_rfl) (by kernel_rfl) (by kernel_rfl)) ?_
  intro W base args ds gs before hval0 hW hcnd _
  have hval : ∀ (j : Nat) t v, Tryz.f3.params[j]? = some t → args[j]? = some v → Value.okWide Tryz.prog W .any base t v := hval0
  have hW' := hW
  obtain ⟨p, q, hA0, hV, hpq, hfz, hnd⟩ := hW
  have hA : DataW.TrodAll enc Tryz.prog W 0 (fun _ => true) true Tryz.f3.params.toList args.toList ds p := hA0
  rw [Tryz.params3] at hA hval
  obtain ⟨v0, vs0, d0, ds0, p0, q0, hargs, rfl, rfl, h0, r0⟩ := trodAll_cons hA
  obtain ⟨rfl, rfl, rfl⟩ := trodAll_nil r0
  obtain rfl : args = #[v0] := by cases args; simp_all
  obtain ⟨A0, n0, c0, rfl, hr0, hm0⟩ := rowU8 (hval 0 22 v0 rfl rfl) h0
  refine (lawLocs_walk A0 n0 c0 W hr0 hm0).mono fun e W' ⟨he, hb⟩ => ?_
  subst he
  exact law_post Tryz.laidOut (by kernel_rfl) (by kernel_rfl) Tryz.underlying4 rfl ⟨rfl, rfl, rfl⟩ hW' hb

theorem lawFnLocations : Rows.FnLocationsSaid :=
  OpenClaim.holds_of_wide 3 Tryz.f3 rfl rfl rfl rfl rfl rfl rfl ⟨rfl, rfl, rfl, rfl, rfl⟩ rfl rfl rfl rfl rfl (by kernel_rfl) Tryz.func3 (by kernel_rfl)
    (of_decide_eq_true (by kernel_rfl)) (by unfold Func.isWrapper; first | (rw [if_pos (by decide +kernel)]; kernel_rfl) | (rw [if_neg (by decide +kernel)]; exact ⟨rfl, rfl⟩))
    (fun os started H enc _ => lawFnLocations_lifted os started H enc)
end Go.Proofs.YtaobbkiepggafaaGreat
