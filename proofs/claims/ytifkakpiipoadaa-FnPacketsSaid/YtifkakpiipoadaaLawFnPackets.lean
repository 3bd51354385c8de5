/-
  Proved here: for every code, lost numbers and those that came are all numbers from the first to the last one (FnPackets returns true). No condition.
-/
import Derived.Test.YtifkakpiipoadaaPkPl
import Derived.Test.YtifkakpiipoadaaPkDrw
import Derived.Test.YtifkakpiipoadaaVin
import Derived.Test.YtifkakpiipoadaaByte
namespace Go.Proofs.Ytifkakpiipoadaa
open Go.RowKit Go.WideShapes Go.ChangeShapes Go.ChangeAt

theorem CodeAt.below2 {w w' : World} {A : Option Addr} {n : Nat} (h : CodeAt w A n) (hb : Below w.heap.size w w') : CodeAt w' A n := h.grown (only_of_below hb none) (fun _ _ _ e => by cases e)
theorem PkRow.tot_ {base : Nat} {w : World} {L : List Pk} {B : Option Addr} {cb : Nat} (h : PkRow base w L B cb) : tot L ≤ 1048576 := by
  have h1 := few9_tot h.2.1
  have h2 := h.1
  omega
set_option maxRecDepth 100000 in
set_option maxHeartbeats 16000000 in
theorem lawPackets_walk (A : Option Addr) (n c : Nat) (w : World) (hr : CodeAt w A n) (hm : n ≤ 9223372036854775807) :
    Calls Try.prog 14 #[.slice A n c] w fun e w' => e = .returned (.bool true) ∧ Below w.heap.size w w' := by
  have HC := Lib.hid hr
  clear hr
  by_cases hn : n ≤ 65536
  · go_enter Try.func14, Try.ntmps14
    go_wp2_with fail
    refine (vBig_any _ _ _ _).mono ?_; rintro e w' ⟨rfl, rfl⟩
    rw [decide_eq_false (show ¬ 65536 < (n : Int) by omega)]
    go_wp2_with fail
    refine (drawLostNumbers_any A n c _ HC.out hn).mono ?_; rintro e w1 ⟨L, B, cb, rfl, hpr, hb1⟩
    have HT := Lib.hid hpr.tot_
    have hL := hpr.1
    have HR := Lib.hid hpr.2.2.at_
    have hcap := own_cap hpr.2.2.out
    obtain ⟨P, hP⟩ : ∃ P, plS L = P := ⟨_, rfl⟩
    have HP := Lib.hid hP
    obtain ⟨O, hO⟩ : ∃ O, lostOK P = O := ⟨_, rfl⟩
    obtain ⟨G, hG⟩ : ∃ G, goodP P = G := ⟨_, rfl⟩
    have HO := Lib.hid hO
    have HG := Lib.hid hG
    have HPL := Lib.hid (show P.length = L.length by rw [← hP, plS_len])
    have hlo := lostR_le P
    have hnu := numR_le P
    have hdb := idxR_le P (dblB P)
    have hla := idxR_le P (lateB P)
    have hco := idxR_le P (confB P)
    clear hP hO hG hpr
    have c0 := hb1
    have dc0 := bref w1
    go_wp2_with fail
    refine (iLost_any L B cb _ (HR.out.below dc0) HT.out).mono ?_; rw [HP.out, HO.out]; rintro e wi1 ⟨Ai1, ki1, rfl, ho, hb⟩
    have HI1 := Lib.hid (RowAt.of_own ho encI_len (by decide))
    have ci1 := bstep c0 hb
    have dci1 := bstep dc0 hb
    have hci1 := hb
    clear ho hb
    go_wp2_with fail
    refine (sLost_any L B cb _ (HR.out.below dci1) HT.out).mono ?_; rw [HP.out, HO.out]; rintro e ws1 ⟨As1, ks1, rfl, ho, hb⟩
    have HS1 := Lib.hid (RowAt.of_own ho encI_len (by decide))
    have cs1 := bstep ci1 hb
    have dcs1 := bstep dci1 hb
    have hcs1 := hb
    clear ho hb
    go_wp2_with fail
    refine (vInts_same (lostR P) Ai1 As1 ki1 ks1 _ (RowAt.below HI1.out hcs1) HS1.out (by omega)).mono ?_; rintro e wv1 ⟨rfl, hb⟩
    have cv1 := bstep cs1 hb
    have dcv1 := bstep dcs1 hb
    have x1 := bstep (bstep hci1 hcs1) hb
    have HV1 := Lib.hid (RowAt.below HI1.out (bstep hcs1 hb))
    clear hb HI1 HS1 hci1 hcs1
    go_wp2_with fail
    have h5 := iAreP_any L B cb _ (HR.out.below dcv1) (by have := HT.out; omega)
    rw [HP.out, HG.out] at h5
    refine h5.mono ?_; rintro e w5 ⟨rfl, hb5⟩
    have c5 := bstep cv1 hb5
    have dc5 := bstep dcv1 hb5
    have HV1 := Lib.hid (RowAt.below HV1.out hb5)
    clear h5 hb5
    go_wp2_with fail
    have h5 := sAreP_any L B cb _ (HR.out.below dc5) (by have := HT.out; omega)
    rw [HP.out, HG.out] at h5
    refine h5.mono ?_; rintro e w' ⟨rfl, rfl⟩
    clear h5
    go_wp2_with fail
    refine (iNum_any L B cb _ (HR.out.below dc5) HT.out).mono ?_; rw [HP.out, HG.out]; rintro e wi2 ⟨Ai2, ki2, rfl, ho, hb⟩
    have HI2 := Lib.hid (RowAt.of_own ho encI_len (by decide))
    have ci2 := bstep c5 hb
    have dci2 := bstep dc5 hb
    have hci2 := hb
    clear ho hb
    go_wp2_with fail
    refine (sNum_any L B cb _ (HR.out.below dci2) HT.out).mono ?_; rw [HP.out, HG.out]; rintro e ws2 ⟨As2, ks2, rfl, ho, hb⟩
    have HS2 := Lib.hid (RowAt.of_own ho encI_len (by decide))
    have cs2 := bstep ci2 hb
    have dcs2 := bstep dci2 hb
    have hcs2 := hb
    clear ho hb
    go_wp2_with fail
    refine (vInts_same (numR P) Ai2 As2 ki2 ks2 _ (RowAt.below HI2.out hcs2) HS2.out (by omega)).mono ?_; rintro e wv2 ⟨rfl, hb⟩
    have cv2 := bstep cs2 hb
    have dcv2 := bstep dcs2 hb
    have x2 := bstep (bstep hci2 hcs2) hb
    have HV2 := Lib.hid (RowAt.below HI2.out (bstep hcs2 hb))
    clear hb HI2 HS2 hci2 hcs2
    have HV1 := Lib.hid (RowAt.below HV1.out x2)
    clear c0 dc0 cv1 dcv1 c5 dc5 x1 x2 ci1 cs1 dci1 dcs1 ci2 cs2 dci2 dcs2
    cases O
    case' false =>
      cases G
      case' true => have hdl : ((idxR P (dblB P)).length : Int) + ((numR P).length : Int) = (L.length : Int) := by have := dbl_all HG.out; rw [HPL.out] at this; exact this
      all_goals
        go_wp2_with fail
        have cx := cv2
        have dcx := dcv2
        obtain ⟨wx, hwx⟩ : ∃ wx, wx = wv2 := ⟨_, rfl⟩
        rw [← hwx] at cx dcx ⊢
        clear hwx
    case' true =>
      have hgt : G = true := by
        have := lost_good HO.out
        rw [HG.out] at this
        exact this
      subst hgt
      have hdl : ((idxR P (dblB P)).length : Int) + ((numR P).length : Int) = (L.length : Int) := by have := dbl_all HG.out; rw [HPL.out] at this; exact this
      by_cases hlen : 0 < (numR P).length
      case' neg =>
        have hlen' : ¬ (0 : Int) < ((numR P).length : Int) := by omega
        go_wp2_with fail
        have cx := cv2
        have dcx := dcv2
        obtain ⟨wx, hwx⟩ : ∃ wx, wx = wv2 := ⟨_, rfl⟩
        rw [← hwx] at cx dcx ⊢
        clear hwx
      case' pos =>
        have hlen' : (0 : Int) < ((numR P).length : Int) := by omega
        obtain ⟨x, y, hx, hy, hsum, hnot⟩ := lost_all HO.out hlen
        have hbx : ∀ v ∈ numR P, 0 ≤ v ∧ v ≤ 999 := fun v hv => by
          unfold numR at hv
          rw [if_pos HG.out, ← HP.out] at hv
          exact nums_bd (by rw [HP.out]; exact HG.out) v hv
        have hxb := hbx x (List.mem_of_getElem? hx)
        have hyb := hbx y (List.mem_of_getElem? hy)
        have HNOT := Lib.hid hnot
        obtain ⟨a1, a2, a3⟩ := ask_all HO.out
        have HA1 := Lib.hid a1
        have HA3 := Lib.hid a3
        obtain ⟨z, hz⟩ : ∃ z : Nat, z = (numR P).length - 1 := ⟨_, rfl⟩
        rw [← hz] at hy
        have ez : IntKind.i64.wrap (((numR P).length : Int) - 1) = (z : Int) := by rw [IntKind.wrap_i64]; omega
        have z0 := ib0 z
        have z1 : (z : Int) < ((numR P).length : Int) := by omega
        have HV2b := HV2
        obtain ⟨b0, o0, e0, hb0, q0⟩ := HV2.out.i hx
        obtain ⟨b1, o1, e1, hb1', q1⟩ := HV2.out.i hy
        rw [e0] at e1
        cases e1
        subst e0
        rw [Nat.add_zero] at q0
        clear hnot a1 a3 hbx hx hy hz
        go_wp2_with fail
        go_region
        all_goals
          go_wp2_with fail
          go_loopw [12] (fun i wr => ∃ k : Nat, k ≤ (lostR P).length ∧ i = .int .i64 k ∧ Hid (Below wv2.heap.size wv2 wr)) (fun i _ => (lostR P).length - (intOf i).toNat)
          case atStart => exact ⟨0, Nat.zero_le _, rfl, Lib.hid (bdrew (bref _))⟩
          case' round =>
            obtain ⟨k, hk, rfl, HB⟩ := hrel
            by_cases hlt : k < (lostR P).length
            case pos =>
              obtain ⟨m, hm⟩ := some_get hlt
              have i0 := ib0 k
              have i1 := ib1 hlt
              have hmn := HNOT.out m (List.mem_of_getElem? hm)
              have HR1 := HV1.out.below HB.out
              obtain ⟨b2, o2, e2, hb2, q2⟩ := HR1.i hm
              subst e2
              have HH := Lib.hid (by have h := vHas_any (numR P) (some ⟨b0, o0, none⟩) ki2 m wr (HV2b.out.below HB.out) (by omega); rw [decide_eq_false hmn] at h; exact h)
              clear hm
              go_wp2_with (go_at_call 54; (with_reducible refine HH.out.mono ?_); rintro e w' ⟨rfl, rfl⟩)
              go_roundw
              case rel => exact ⟨k + 1, by omega, by go_num, HB⟩
              case measure => simp [intOf]; omega
            obtain rfl : k = (lostR P).length := by omega
            go_wp2_with fail
            have dr2 := bstep dcv2 HB.out
            have cr2 := bstep cv2 HB.out
            have h6 := iAsk_any L B cb 3 _ (HR.out.below dr2) HT.out
            rw [HP.out, HA1.out] at h6
            refine h6.mono ?_; rintro e wa ⟨Aa, ka, rfl, hoa, hba⟩
            have HAA := Lib.hid (RowAt.of_own hoa encI_len (by decide))
            have HVL := Lib.hid (HV1.out.below (bstep HB.out hba))
            have cx := bstep cr2 hba
            have dcx := bstep dr2 hba
            clear h6 hoa hba dr2 cr2
            go_wp2_with fail
            refine (vWithin_yes (askR 3 P) (lostR P) Aa Ai1 ka ki1 _ HAA.out HVL.out (by omega) (by omega) HA3.out).mono ?_; rintro e w' ⟨rfl, rfl⟩
            clear HAA HVL
            go_wp2_with fail
            obtain ⟨wx, hwx⟩ : ∃ wx, wx = wa := ⟨_, rfl⟩
            rw [← hwx] at cx dcx ⊢
            clear hwx
    all_goals
      refine (iDbl_any L B cb _ (HR.out.below dcx) HT.out).mono ?_; rw [HP.out, HG.out]; rintro e wi3 ⟨Ai3, ki3, rfl, ho, hb⟩
      have HI3 := Lib.hid (RowAt.of_own ho encI_len (by decide))
      have ci3 := bstep cx hb
      have dci3 := bstep dcx hb
      have hci3 := hb
      clear ho hb
      go_wp2_with fail
      refine (sDbl_any L B cb _ (HR.out.below dci3) HT.out).mono ?_; rw [HP.out, HG.out]; rintro e ws3 ⟨As3, ks3, rfl, ho, hb⟩
      have HS3 := Lib.hid (RowAt.of_own ho encI_len (by decide))
      have cs3 := bstep ci3 hb
      have dcs3 := bstep dci3 hb
      have hcs3 := hb
      clear ho hb
      go_wp2_with fail
      refine (vInts_same (idxR P (dblB P)) Ai3 As3 ki3 ks3 _ (RowAt.below HI3.out hcs3) HS3.out (by omega)).mono ?_; rintro e wv3 ⟨rfl, hb⟩
      have cv3 := bstep cs3 hb
      have dcv3 := bstep dcs3 hb
      have x3 := bstep (bstep hci3 hcs3) hb
      have HV3 := Lib.hid (RowAt.below HI3.out (bstep hcs3 hb))
      clear hb HI3 HS3 hci3 hcs3
      go_wp2_with fail
      refine (iLate_any L B cb _ (HR.out.below dcv3) HT.out hcap).mono ?_; rw [HP.out, HG.out]; rintro e wi4 ⟨Ai4, ki4, rfl, ho, hb⟩
      have HI4 := Lib.hid (RowAt.of_own ho encI_len (by decide))
      have ci4 := bstep cv3 hb
      have dci4 := bstep dcv3 hb
      have hci4 := hb
      clear ho hb
      go_wp2_with fail
      refine (sLate_any L B cb _ (HR.out.below dci4) HT.out).mono ?_; rw [HP.out, HG.out]; rintro e ws4 ⟨As4, ks4, rfl, ho, hb⟩
      have HS4 := Lib.hid (RowAt.of_own ho encI_len (by decide))
      have cs4 := bstep ci4 hb
      have dcs4 := bstep dci4 hb
      have hcs4 := hb
      clear ho hb
      go_wp2_with fail
      refine (vInts_same (idxR P (lateB P)) Ai4 As4 ki4 ks4 _ (RowAt.below HI4.out hcs4) HS4.out (by omega)).mono ?_; rintro e wv4 ⟨rfl, hb⟩
      have cv4 := bstep cs4 hb
      have dcv4 := bstep dcs4 hb
      have x4 := bstep (bstep hci4 hcs4) hb
      have HV4 := Lib.hid (RowAt.below HI4.out (bstep hcs4 hb))
      clear hb HI4 HS4 hci4 hcs4
      have HV3 := Lib.hid (RowAt.below HV3.out x4)
      have HLT := Lib.hid (late_all P)
      clear x3 x4 ci3 cs3 dci3 dcs3 ci4 cs4 dci4 dcs4 cv3 dcv3
      go_wp2_with fail
      go_loop [23] (fun i => ∃ k : Nat, k ≤ (idxR P (lateB P)).length ∧ i = .int .i64 k) (fun i => (idxR P (lateB P)).length - (intOf i).toNat)
      case atStart => exact ⟨0, Nat.zero_le _, rfl⟩
      case' round =>
        obtain ⟨k, hk, rfl⟩ := hrel
        by_cases hlt : k < (idxR P (lateB P)).length
        case pos =>
          obtain ⟨m, hm⟩ := some_get hlt
          have i0 := ib0 k
          have i1 := ib1 hlt
          have hmn := HLT.out m (List.mem_of_getElem? hm)
          obtain ⟨b2, o2, e2, hb2, q2⟩ := HV4.out.i hm
          subst e2
          have HH := Lib.hid (by have h := vHas_any (idxR P (dblB P)) Ai3 ki3 m wv4 HV3.out (by omega); rw [decide_eq_false hmn] at h; exact h)
          clear hm
          go_wp2_with (go_at_call 54; (with_reducible refine HH.out.mono ?_); rintro e w' ⟨rfl, rfl⟩)
          go_round
          case rel => exact ⟨k + 1, by omega, by go_num⟩
          case measure => simp [intOf]; omega
        obtain rfl : k = (idxR P (lateB P)).length := by omega
        go_wp2_with fail
        refine (iConf_any L B cb _ (HR.out.below dcv4) HT.out).mono ?_; rw [HP.out, HG.out]; rintro e wi5 ⟨Ai5, ki5, rfl, ho, hb⟩
        have HI5 := Lib.hid (RowAt.of_own ho encI_len (by decide))
        have ci5 := bstep cv4 hb
        have dci5 := bstep dcv4 hb
        have hci5 := hb
        clear ho hb
        go_wp2_with fail
        refine (sConf_any L B cb _ (HR.out.below dci5) HT.out).mono ?_; rw [HP.out, HG.out]; rintro e ws5 ⟨As5, ks5, rfl, ho, hb⟩
        have HS5 := Lib.hid (RowAt.of_own ho encI_len (by decide))
        have cs5 := bstep ci5 hb
        have dcs5 := bstep dci5 hb
        have hcs5 := hb
        clear ho hb
        go_wp2_with fail
        refine (vInts_same (idxR P (confB P)) Ai5 As5 ki5 ks5 _ (RowAt.below HI5.out hcs5) HS5.out (by omega)).mono ?_; rintro e wv5 ⟨rfl, hb⟩
        have cv5 := bstep cs5 hb
        have dcv5 := bstep dcs5 hb
        have x5 := bstep (bstep hci5 hcs5) hb
        have HV5 := Lib.hid (RowAt.below HI5.out (bstep hcs5 hb))
        clear hb HI5 HS5 hci5 hcs5
        go_wp2_with fail
        refine (vWithin_yes (idxR P (confB P)) (idxR P (dblB P)) Ai5 Ai3 ki5 ki3 _ HV5.out (RowAt.below HV3.out x5) (by omega) (by omega) (conf_all P)).mono ?_; rintro e w' ⟨rfl, rfl⟩
        clear HV3 HV4 HV5 HLT x5 dcv4 dci5 dcs5 dcv5 ci5 cs5
        go_wp2_with fail
        refine (drawAsk_any A n c _ (HC.out.below2 cv5) hn).mono ?_; rintro e wa ⟨M, Bm, km, q, rfl, hpm, hba⟩
        have HTM := Lib.hid hpm.tot_
        have HRM := Lib.hid hpm.2.2.at_
        have ca := bstep cv5 hba
        have hak := askR_le q (plS M)
        clear hpm hba
        go_wp2_with fail
        refine (iAsk_any M Bm km q _ HRM.out HTM.out).mono ?_; rintro e wb ⟨Ab, kb, rfl, hob, hbb⟩
        have HAB := Lib.hid (RowAt.of_own hob encI_len (by decide))
        have cb := bstep ca hbb
        go_wp2_with fail
        refine (sAsk_any M Bm km q _ (HRM.out.below hbb) HTM.out).mono ?_; rintro e wc ⟨Ac, kc, rfl, hoc, hbc⟩
        have HAC := Lib.hid (RowAt.of_own hoc encI_len (by decide))
        have cc := bstep cb hbc
        go_wp2_with fail
        refine (vInts_same (askR q (plS M)) Ab Ac kb kc _ (RowAt.below HAB.out hbc) HAC.out (by omega)).mono ?_; rintro e wd ⟨rfl, hbd⟩
        go_wp2
        go_ret
        exact ⟨rfl, bstep cc hbd⟩
  · go_enter Try.func14, Try.ntmps14
    go_wp2_with fail
    refine (vBig_any _ _ _ _).mono ?_; rintro e w' ⟨rfl, rfl⟩
    rw [decide_eq_true (show 65536 < (n : Int) by omega)]
    go_wp2
    go_ret
    exact ⟨rfl, bref _⟩

-- THE ROW --
set_option maxRecDepth 100000 in
theorem lawFnPackets_lifted (os : Os) (started : os.Started) (H : Type) (enc : TypeId × Value → H) :
    ReturnsInHanded {} Try.checked os 14 .any (Rows.fnPacketsSpec.pre6 enc Try.prog Try.f14 Rows.fnPacketsRow.domain false) (Rows.fnPacketsSpec.post enc Try.prog Try.f14 false true false false) := by
  refine returnsInHanded_of_change (C := Try.checked) Try.own started (by kernel_rfl) Try.func14
    (ChangeSpec.witness6 (enc := enc) (C := Try.checked) false ⟨#[], #[.slice none 0 0], []⟩ 8 (by kernel_rfl) (by kernel_rfl) (by kernel_rfl) (by kernel_rfl)) ?_
  intro W base args ds gs before hval0 hW hcnd _
  have hval : ∀ (j : Nat) t v, Try.f14.params[j]? = some t → args[j]? = some v → Value.okWide Try.prog W .any base t v := hval0
  have hW' := hW
  obtain ⟨p, q, hA0, hV, hpq, hfz, hnd⟩ := hW
  have hA : DataW.TrodAll enc Try.prog W 0 (fun _ => true) true Try.f14.params.toList args.toList ds p := hA0
  rw [Try.params14] at hA hval
  obtain ⟨v0, vs0, d0, ds0, p0, q0, hargs, rfl, rfl, h0, r0⟩ := trodAll_cons hA
  obtain ⟨rfl, rfl, rfl⟩ := trodAll_nil r0
  obtain rfl : args = #[v0] := by cases args; simp_all
  obtain ⟨A0, n0, c0, rfl, hr0, hm0⟩ := rowU8 (hval 0 52 v0 rfl rfl) h0
  refine (lawPackets_walk A0 n0 c0 W hr0 hm0).mono fun e W' ⟨he, hb⟩ => ?_
  subst he
  exact law_post Try.laidOut (by kernel_rfl) (by kernel_rfl) Try.underlying4 rfl ⟨rfl, rfl, rfl⟩ hW' hb

theorem lawFnPackets : Rows.FnPacketsSaid :=
  OpenClaim.holds_of_wide 14 Try.f14 rfl rfl rfl rfl rfl rfl rfl ⟨rfl, rfl, rfl, rfl, rfl⟩ rfl rfl rfl rfl rfl (by kernel_rfl) Try.func14 (by kernel_rfl)
    (of_decide_eq_true (by kernel_rfl)) (by unfold Func.isWrapper; first | (rw [if_pos (by decide +kernel)]; kernel_rfl) | (rw [if_neg (by decide +kernel)]; exact ⟨rfl, rfl⟩))
    (fun os started H enc _ => lawFnPackets_lifted os started H enc)
end Go.Proofs.Ytifkakpiipoadaa

