/-
  Proved here: for every code, swapping duties keeps the sum of all hours, and nobody has more hours than who has the most (FnShifts returns true). No condition.
-/
import Derived.Test.YtldhlmjfpnpamaaDuPl
import Derived.Test.YtldhlmjfpnpamaaDuDrw
import Derived.Test.YtldhlmjfpnpamaaDuVin
import Derived.Test.YtldhlmjfpnpamaaDuLead
import Derived.Test.YtldhlmjfpnpamaaDuHours
import Derived.Test.YtldhlmjfpnpamaaByte
import Derived.Deep.CutBlock
namespace Go.Proofs.Ytldhlmjfpnpamaa
open Go.RowKit Go.WideShapes Go.ChangeShapes Go.ChangeAt
attribute [local go_sem] ext_cell ext_frozen

theorem CodeAt.below2 {w w' : World} {A : Option Addr} {n : Nat} (h : CodeAt w A n) (hb : Below w.heap.size w w') : CodeAt w' A n := h.grown (only_of_below hb none) (fun _ _ _ e => by cases e)
theorem sumH_succ (l : List Du) (k : Nat) : sumH l (k + 1) = sumH l k + hoursL ((k : Int) + 1) l := rfl
set_option maxRecDepth 100000 in
set_option maxHeartbeats 16000000 in
theorem lawShf_walk (A : Option Addr) (n c : Nat) (w : World) (hr : CodeAt w A n) (hm : n ≤ 9223372036854775807) :
    Calls Try.prog 13 #[.slice A n c] w fun e w' => e = .returned (.bool true) ∧ Below w.heap.size w w' := by
  have HC := Lib.hid hr
  clear hr
  by_cases hn : n ≤ 65536
  · go_enter Try.func13, Try.ntmps13
    go_wp2_with fail
    refine (rBig_any _ _ _ _).mono ?_; rintro e w' ⟨rfl, rfl⟩
    rw [decide_eq_false (show ¬ 65536 < (n : Int) by omega)]
    go_wp2_with fail
    refine (drawSwap_any A n c _ HC.out hn).mono ?_; rintro e w1 ⟨l, L, cl, a, b, rfl, ⟨hll, ho1⟩, hb⟩
    have HL := Lib.hid (RowAt.of_own ho1 encDu_len (by decide))
    have hcap := own_cap ho1
    have C := Lib.hid hb
    obtain ⟨M, hM⟩ : ∃ M, swapR l a b = M := ⟨_, rfl⟩
    obtain ⟨O, hO⟩ : ∃ O, swapOK l a b = O := ⟨_, rfl⟩
    have HM := Lib.hid hM
    have HO := Lib.hid hO
    have hMl : M.length ≤ l.length := by rw [← hM]; exact swapR_le l a b
    clear ho1 hb hM hO
    go_wp2_with fail
    refine (iSwap_any l a b L cl _ HL.out (by omega) hcap).mono ?_; rw [HM.out, HO.out]; rintro e w2 ⟨A2, k2, rfl, ho, hb⟩
    have hcap2 := own_cap ho
    replace C := Lib.hid (bstep C.out hb)
    replace HL := Lib.hid (RowAt.below HL.out hb)
    have H2 := Lib.hid (RowAt.of_own ho encDu_len (by decide))
    clear hb
    clear ho
    go_wp2_with fail
    refine (sSwap_any l a b L cl _ HL.out (by omega)).mono ?_; rw [HM.out, HO.out]; rintro e w3 ⟨A3, k3, rfl, ho, hb⟩
    replace C := Lib.hid (bstep C.out hb)
    replace HL := Lib.hid (RowAt.below HL.out hb)
    replace H2 := Lib.hid (RowAt.below H2.out hb)
    have H3 := Lib.hid (RowAt.of_own ho encDu_len (by decide))
    clear hb
    clear ho
    go_wp2_with fail
    refine (rDu_same M A2 A3 k2 k3 _ H2.out H3.out (by omega)).mono ?_; rintro e w4 ⟨rfl, hb⟩
    replace C := Lib.hid (bstep C.out hb)
    replace HL := Lib.hid (RowAt.below HL.out hb)
    replace H2 := Lib.hid (RowAt.below H2.out hb)
    replace H3 := Lib.hid (RowAt.below H3.out hb)
    clear hb
    clear H3
    go_upto_region 8 with fail
    go_cut [87] from 74 to 87 (fun s87 wx => ∃ R : Bool, s87 = .bool R ∧ Hid (R = true → O = true) ∧ Hid (Below w4.heap.size w4 wx))
    case first =>
      cases O
      case false =>
        (refine wp_region_calm (by kernel_rfl) (by kernel_rfl) ?_; (repeat (go_big_quiet_step ((fail)))); refine wpQuiet_nil ?_; intro xw; have hb7 := xw.is; generalize xw.w = w7 at hb7 ⊢; clear xw)
        go_wp2_with fail
        go_meet
        exact ⟨false, rfl, Lib.hid (fun h => by cases h), Lib.hid hb7⟩
      case true =>
        obtain ⟨ia, ib, x, y, rfl, rfl, hx, hy⟩ := swap_at HO.out
        have a0 := ib0 ia
        have a1 := ib1 (List.getElem?_eq_some_iff.1 hx).1
        have b0 := ib0 ib
        have b1 := ib1 (List.getElem?_eq_some_iff.1 hy).1
        obtain ⟨bx, ox, eL, hbx, p0, p1, p2, p3⟩ := HL.out.du hx
        obtain ⟨by_, oy, eL2, hby, q0, q1, q2, q3⟩ := HL.out.du hy
        rw [eL] at eL2
        cases eL2
        subst eL
        clear hx hy
        by_cases hbg : x.bg = y.bg
        case pos =>
          have hbb : (x.bg == y.bg) = true := by simp [hbg]
          have hbn : (x.bg != y.bg) = false := by simp [hbg]
          clear hbg
          (refine wp_region_calm (by kernel_rfl) (by kernel_rfl) ?_; (repeat (go_big_quiet_step ((fail)))); refine wpQuiet_nil ?_; intro xw; have hb7 := xw.is; generalize xw.w = w7 at hb7 ⊢; clear xw)
          go_wp2_with fail
          go_meet
          exact ⟨false, by first | rfl | (simp [hbb, hbn]), Lib.hid (fun _ => by first | trivial | rfl), Lib.hid hb7⟩
        case neg =>
          have hbb : (x.bg == y.bg) = false := by simp [hbg]
          have hbn : (x.bg != y.bg) = true := by simp [hbg]
          clear hbg
          (refine wp_region_calm (by kernel_rfl) (by kernel_rfl) ?_; (repeat (go_big_quiet_step ((fail)))); refine wpQuiet_nil ?_; intro xw; have hb7 := xw.is; generalize xw.w = w7 at hb7 ⊢; clear xw)
          go_wp2_with fail
          go_meet
          exact ⟨true, by first | rfl | (simp [hbb, hbn]), Lib.hid (fun _ => by first | trivial | rfl), Lib.hid hb7⟩
    case rest =>
      obtain ⟨R, rfl, HRO, HW8⟩ := hcut
      obtain ⟨w8, hw8⟩ : ∃ w8 : World, w8 = wc := ⟨_, rfl⟩
      rw [← hw8] at HW8 ⊢
      clear hw8
      replace C := Lib.hid (bstep C.out HW8.out)
      replace HL := Lib.hid (RowAt.below HL.out HW8.out)
      replace H2 := Lib.hid (RowAt.below H2.out HW8.out)
      clear HW8
      go_upto_if 87 with fail
      go_cut [10, 11, 12, 13, 14, 15, 16] from 88 to 118 (fun _ _ _ _ _ _ _ wx => Hid (Below w8.heap.size w8 wx))
      case first =>
        cases R
        case false =>
          go_wp2_with fail
          go_meet
          exact Lib.hid (bref _)
        case true =>
          have HOT := HRO.out rfl
          subst HOT
          obtain ⟨hgl, hgm, hsum⟩ := swap_sum HO.out
          have eM : swP l a b = M := by rw [← HM.out]; unfold swapR; rw [if_pos HO.out]
          rw [eM] at hgm hsum
          have HSL := Lib.hid (fun k => sumH_bd hgl k)
          have HSM := Lib.hid (fun k => sumH_bd hgm k)
          have HSUM := Lib.hid hsum
          have HHL := Lib.hid (fun (k : Nat) (hk : k < 50) => hoursOfL_good hgl (who := (k : Int) + 1) (by omega) (by omega))
          have HHM := Lib.hid (fun (k : Nat) (hk : k < 50) => hoursOfL_good hgm (who := (k : Int) + 1) (by omega) (by omega))
          have hml2 : M.length ≤ 2097152 := by omega
          have hll2 : l.length ≤ 2097152 := by omega
          clear hgl hgm hsum eM
          go_wp2_with fail
          go_loopw [10, 11, 12] (fun vb va vw wr => ∃ (k : Nat) (B1 B2 : Int), k ≤ 50 ∧ vw = .int .i64 ((k : Int) + 1) ∧ vb = .int .i64 B1 ∧ va = .int .i64 B2 ∧ Hid (B1 = sumH l k) ∧ Hid (B2 = sumH M k) ∧ (0 ≤ B1 ∧ B1 ≤ 10000) ∧ (0 ≤ B2 ∧ B2 ≤ 10000) ∧ Hid (Below w8.heap.size w8 wr)) (fun _ _ v _ => (51 - intOf v).toNat)
          case atStart => exact ⟨0, 0, 0, by omega, rfl, rfl, rfl, Lib.hid rfl, Lib.hid rfl, ⟨by omega, by omega⟩, ⟨by omega, by omega⟩, Lib.hid (bref _)⟩
          case round =>
            obtain ⟨k, B1, B2, hk, rfl, rfl, rfl, HB1, HB2, ⟨h10, h11⟩, ⟨h20, h21⟩, HWr⟩ := hrel
            by_cases hlt : k < 50
            case pos =>
              have hk1 : (k : Int) + 1 ≤ 50 := by omega
              have s1 := HSL.out (k + 1)
              have s2 := HSM.out (k + 1)
              have e1 := sumH_succ l k
              have e2 := sumH_succ M k
              obtain ⟨X, hX⟩ : ∃ X, hoursL ((k : Int) + 1) l = X := ⟨_, rfl⟩
              obtain ⟨Y, hY⟩ : ∃ Y, hoursL ((k : Int) + 1) M = Y := ⟨_, rfl⟩
              rw [← HB1.out, hX] at e1
              rw [← HB2.out, hY] at e2
              have hX0 : 0 ≤ B1 + X ∧ B1 + X ≤ 10000 := by omega
              have hY0 : 0 ≤ B2 + Y ∧ B2 + Y ≤ 10000 := by omega
              have E1 := Lib.hid e1.symm
              have E2 := Lib.hid e2.symm
              have h1 := iHours_any l L cl ((k : Int) + 1) wr (RowAt.below HL.out HWr.out) hll2 hcap
              rw [HHL.out k hlt, hX] at h1
              have H1 := Lib.hid h1
              have h2 : ∀ W, Below wr.heap.size wr W → Calls Try.prog 23 #[.slice A2 M.length k2, .int .i64 ((k : Int) + 1)] W fun e w' => e = .returned (.tuple #[.int .i64 Y, .bool true]) ∧ Below W.heap.size W w' := fun W h => by
                have h2 := iHours_any M A2 k2 ((k : Int) + 1) W (RowAt.below H2.out (bstep HWr.out h)) hml2 hcap2
                rw [HHM.out k hlt, hY] at h2
                exact h2
              have HH2 := Lib.hid h2
              clear h1 h2 hX hY s1 s2 e1 e2
              go_wp2_with fail
              refine H1.out.mono ?_; rintro e v1 ⟨rfl, hv1⟩
              go_wp2_with fail
              refine (HH2.out v1 hv1).mono ?_; rintro e v2 ⟨rfl, hv2⟩
              go_wp2_with fail
              go_roundw
              case rel => exact ⟨k + 1, B1 + X, B2 + Y, by omega, by go_num, by first | rfl | go_num, by first | rfl | go_num, E1, E2, hX0, hY0, Lib.hid (bstep HWr.out (bstep hv1 hv2))⟩
              case measure => simp [intOf]; omega
            obtain rfl : k = 50 := by omega
            obtain rfl : B1 = sumH l 50 := HB1.out
            obtain rfl : B2 = sumH l 50 := HB2.out.trans HSUM.out
            go_wp2_with fail
            go_meet
            exact HWr
      case rest =>
        replace C := Lib.hid (bstep C.out hcut.out)
        clear HL H2
        go_wp2_with fail
        refine (drawFair_any A n c _ (HC.out.below2 C.out) hn).mono ?_; rintro e w30 ⟨f, F, cf, rfl, ⟨hlf, ho1⟩, hb⟩
        replace C := Lib.hid (bstep C.out hb)
        have HF := Lib.hid (RowAt.of_own ho1 encDu_len (by decide))
        have hcapf := own_cap ho1
        obtain ⟨m1, hm1⟩ : ∃ m1, (fairL f).1 = m1 := ⟨_, rfl⟩
        obtain ⟨m2, hm2⟩ : ∃ m2, (fairL f).2.1 = m2 := ⟨_, rfl⟩
        obtain ⟨m3, hm3⟩ : ∃ m3, (fairL f).2.2 = m3 := ⟨_, rfl⟩
        have M1 := Lib.hid hm1
        have M2 := Lib.hid hm2
        have M3 := Lib.hid hm3
        clear ho1 hb hm1 hm2 hm3
        go_wp2_with fail
        refine (iFair_any f F cf _ HF.out (by omega) hcapf).mono ?_; rw [M1.out, M2.out, M3.out]; rintro e w31 ⟨rfl, hb⟩
        replace C := Lib.hid (bstep C.out hb)
        replace HF := Lib.hid (RowAt.below HF.out hb)
        clear hb
        go_wp2_with fail
        refine (sFair_any f F cf _ HF.out (by omega)).mono ?_; rw [M1.out, M2.out, M3.out]; rintro e w32 ⟨rfl, hb⟩
        replace C := Lib.hid (bstep C.out hb)
        replace HF := Lib.hid (RowAt.below HF.out hb)
        clear hb
        go_upto_block 2 with fail
        go_cut [24, 25, 26, 27, 28, 29, 30] from 146 to 196 (fun _ _ _ _ _ _ _ wx => Hid (Below w32.heap.size w32 wx))
        case first =>
          cases m3
          case false =>
            go_wp2_with fail
            go_loopw [24] (fun i wr => ∃ k : Nat, k ≤ f.length ∧ i = .int .i64 k ∧ Hid (Below w32.heap.size w32 wr)) (fun i _ => f.length - (intOf i).toNat)
            case atStart => exact ⟨0, Nat.zero_le _, rfl, Lib.hid (bref _)⟩
            case round =>
              obtain ⟨k, hk, rfl, HWr⟩ := hrel
              by_cases hlt : (k : Int) < (f.length : Int)
              all_goals
                go_wp2_with fail
                go_meet
                exact HWr
          case true =>
            obtain ⟨hgf, g1, g2, gall⟩ := fair_all M3.out
            rw [M1.out] at g1 gall
            rw [M2.out] at g2 gall
            have GALL := Lib.hid gall
            have HGF := Lib.hid hgf
            have hh1 := hoursOfL_good hgf g1.1 g1.2
            have hh2 := hoursOfL_good hgf g2.1 g2.2
            obtain ⟨Z1, hZ1⟩ : ∃ Z1, hoursL m1 f = Z1 := ⟨_, rfl⟩
            obtain ⟨Z2, hZ2⟩ : ∃ Z2, hoursL m2 f = Z2 := ⟨_, rfl⟩
            rw [hZ1] at hh1
            rw [hZ2] at hh2
            have HZ1 := Lib.hid hZ1
            have HZ2 := Lib.hid hZ2
            have HH1 := Lib.hid hh1
            have HH2 := Lib.hid hh2
            have hff2 : f.length ≤ 2097152 := by omega
            clear hgf gall hh1 hh2 hZ1 hZ2
            go_wp2_with fail
            go_loopw [24] (fun i wr => ∃ k : Nat, k ≤ f.length ∧ i = .int .i64 k ∧ Hid (Below w32.heap.size w32 wr)) (fun i _ => f.length - (intOf i).toNat)
            case atStart => exact ⟨0, Nat.zero_le _, rfl, Lib.hid (bref _)⟩
            case round =>
              obtain ⟨k, hk, rfl, HWr⟩ := hrel
              by_cases hlt : k < f.length
              case pos =>
                obtain ⟨m, hm⟩ := some_get hlt
                have i0 := ib0 k
                have i1 := ib1 hlt
                obtain ⟨c1, c2, c3⟩ := GALL.out m (List.mem_of_getElem? hm)
                rw [HZ1.out] at c2
                rw [HZ2.out] at c3
                have hw := hoursOfL_good HGF.out c1.1 c1.2
                obtain ⟨Z, hZ⟩ : ∃ Z, hoursL m.who f = Z := ⟨_, rfl⟩
                rw [hZ] at hw c2 c3
                have hn1 : ¬ Z1 < Z := by omega
                have hn2 : ¬ Z < Z2 := by omega
                have HFk := Lib.hid (RowAt.below HF.out HWr.out)
                obtain ⟨bm, om, eF, hbm, q0, q1, q2, q3⟩ := HFk.out.du hm
                subst eF
                have h1 := iHours_any f (some ⟨bm, om, none⟩) cf m.who wr HFk.out hff2 hcapf
                rw [hw] at h1
                have H1 := Lib.hid h1
                clear hm h1 hw hZ c1 c2 c3
                go_wp2_with fail
                refine H1.out.mono ?_; rintro e v1 ⟨rfl, hv1⟩
                go_wp2_with fail
                have h2 := iHours_any f (some ⟨bm, om, none⟩) cf m1 v1 (RowAt.below HFk.out hv1) hff2 hcapf
                rw [HH1.out] at h2
                refine h2.mono ?_; rintro e v2 ⟨rfl, hv2⟩
                go_wp2_with fail
                have h3 := iHours_any f (some ⟨bm, om, none⟩) cf m2 v2 (RowAt.below HFk.out (bstep hv1 hv2)) hff2 hcapf
                rw [HH2.out] at h3
                refine h3.mono ?_; rintro e v3 ⟨rfl, hv3⟩
                clear h2 h3
                go_wp2_with fail
                go_roundw
                case rel => exact ⟨k + 1, by omega, by go_num, Lib.hid (bstep HWr.out (bstep hv1 (bstep hv2 hv3)))⟩
                case measure => simp [intOf]; omega
              obtain rfl : k = f.length := by omega
              go_wp2_with fail
              go_meet
              exact HWr
        case rest =>
          replace C := Lib.hid (bstep C.out hcut.out)
          clear HF
          go_wp2_with fail
          refine (drawHours_any A n c _ (HC.out.below2 C.out) hn).mono ?_; rintro e w50 ⟨u, U, cu, who, rfl, ⟨hlu, ho1⟩, hb⟩
          replace C := Lib.hid (bstep C.out hb)
          have HU := Lib.hid (RowAt.of_own ho1 encDu_len (by decide))
          have hcapu := own_cap ho1
          obtain ⟨y1, hy1⟩ : ∃ y1, (hoursOfL who u).1 = y1 := ⟨_, rfl⟩
          obtain ⟨y2, hy2⟩ : ∃ y2, (hoursOfL who u).2 = y2 := ⟨_, rfl⟩
          have Y1 := Lib.hid hy1
          have Y2 := Lib.hid hy2
          clear ho1 hb hy1 hy2
          go_wp2_with fail
          refine (iHours_any u U cu who _ HU.out (by omega) hcapu).mono ?_; rw [Y1.out, Y2.out]; rintro e w51 ⟨rfl, hb⟩
          replace C := Lib.hid (bstep C.out hb)
          replace HU := Lib.hid (RowAt.below HU.out hb)
          clear hb
          go_wp2_with fail
          refine (sHours_any u U cu who _ HU.out (by omega)).mono ?_; rw [Y1.out, Y2.out]; rintro e w52 ⟨rfl, hb⟩
          replace C := Lib.hid (bstep C.out hb)
          replace HU := Lib.hid (RowAt.below HU.out hb)
          clear hb
          go_wp2_with fail
          refine (drawLead_any A n c _ (HC.out.below2 C.out) hn).mono ?_; rintro e w60 ⟨v, V, cv, hour, rfl, ⟨hlv, ho1⟩, hb⟩
          replace C := Lib.hid (bstep C.out hb)
          have HV := Lib.hid (RowAt.of_own ho1 encDu_len (by decide))
          have hcapv := own_cap ho1
          obtain ⟨z1, hz1⟩ : ∃ z1, (leadL hour v).1 = z1 := ⟨_, rfl⟩
          obtain ⟨z2, hz2⟩ : ∃ z2, (leadL hour v).2 = z2 := ⟨_, rfl⟩
          have LZ1 := Lib.hid hz1
          have LZ2 := Lib.hid hz2
          clear ho1 hb hz1 hz2
          go_wp2_with fail
          refine (iLead_any v V cv hour _ HV.out (by omega) hcapv).mono ?_; rw [LZ1.out, LZ2.out]; rintro e w61 ⟨rfl, hb⟩
          replace C := Lib.hid (bstep C.out hb)
          replace HV := Lib.hid (RowAt.below HV.out hb)
          clear hb
          go_wp2_with fail
          refine (sLead_any v V cv hour _ HV.out (by omega)).mono ?_; rw [LZ1.out, LZ2.out]; rintro e w62 ⟨rfl, hb⟩
          replace C := Lib.hid (bstep C.out hb)
          replace HV := Lib.hid (RowAt.below HV.out hb)
          clear hb
          go_wp2
          go_ret
          exact ⟨rfl, C.out⟩
  · go_enter Try.func13, Try.ntmps13
    go_wp2_with fail
    refine (rBig_any _ _ _ _).mono ?_; rintro e w' ⟨rfl, rfl⟩
    rw [decide_eq_true (show 65536 < (n : Int) by omega)]
    go_wp2
    go_ret
    exact ⟨rfl, bref _⟩
-- THE ROW --
set_option maxRecDepth 100000 in
theorem lawFnShifts_lifted (os : Os) (started : os.Started) (H : Type) (enc : TypeId × Value → H) :
    ReturnsInHanded {} Try.checked os 13 .any (Rows.fnShiftsSpec.pre6 enc Try.prog Try.f13 Rows.fnShiftsRow.domain false) (Rows.fnShiftsSpec.post enc Try.prog Try.f13 false true false false) := by
  refine returnsInHanded_of_change (C := Try.checked) Try.own started (by kernel_rfl) Try.func13
    (ChangeSpec.witness6 (enc := enc) (C := Try.checked) false ⟨#[], #[.slice none 0 0], []⟩ 8 (by kernel_rfl) (by kernel_rfl) (by kernel_rfl) (by kernel_rfl)) ?_
  intro W base args ds gs before hval0 hW hcnd _
  have hval : ∀ (j : Nat) t v, Try.f13.params[j]? = some t → args[j]? = some v → Value.okWide Try.prog W .any base t v := hval0
  have hW' := hW
  obtain ⟨p, q, hA0, hV, hpq, hfz, hnd⟩ := hW
  have hA : DataW.TrodAll enc Try.prog W 0 (fun _ => true) true Try.f13.params.toList args.toList ds p := hA0
  rw [Try.params13] at hA hval
  obtain ⟨v0, vs0, d0, ds0, p0, q0, hargs, rfl, rfl, h0, r0⟩ := trodAll_cons hA
  obtain ⟨rfl, rfl, rfl⟩ := trodAll_nil r0
  obtain rfl : args = #[v0] := by cases args; simp_all
  obtain ⟨A0, n0, c0, rfl, hr0, hm0⟩ := rowU8 (hval 0 57 v0 rfl rfl) h0
  refine (lawShf_walk A0 n0 c0 W hr0 hm0).mono fun e W' ⟨he, hb⟩ => ?_
  subst he
  exact law_post Try.laidOut (by kernel_rfl) (by kernel_rfl) Try.underlying4 rfl ⟨rfl, rfl, rfl⟩ hW' hb

theorem lawFnShifts : Rows.FnShiftsSaid :=
  OpenClaim.holds_of_wide 13 Try.f13 rfl rfl rfl rfl rfl rfl rfl ⟨rfl, rfl, rfl, rfl, rfl⟩ rfl rfl rfl rfl rfl (by kernel_rfl) Try.func13 (by kernel_rfl)
    (of_decide_eq_true (by kernel_rfl)) (by unfold Func.isWrapper; first | (rw [if_pos (by decide +kernel)]; kernel_rfl) | (rw [if_neg (by decide +kernel)]; exact ⟨rfl, rfl⟩))
    (fun os started H enc _ => lawFnShifts_lifted os started H enc)
end Go.Proofs.Ytldhlmjfpnpamaa
