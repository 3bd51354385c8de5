/-
  Proved here: for every code, cells have the levels that are asked for, the radius holds all who felt it, and counts have all people (FnFelt returns true). No condition.
-/
import Derived.Test.YtjjinblahmcplaaFePl2
import Derived.Test.YtjjinblahmcplaaFeDr3
import Derived.Test.YtjjinblahmcplaaFeVT
import Derived.Test.YtjjinblahmcplaaFeCelI
import Derived.Test.YtjjinblahmcplaaFeCelS
import Derived.Test.YtjjinblahmcplaaFeCnt
import Derived.Test.YtjjinblahmcplaaFeRad
import Derived.Test.YtjjinblahmcplaaFeLev
import Derived.Test.YtjjinblahmcplaaByte
import Derived.Deep.CutBlock
namespace Go.Proofs.Ytjjinblahmcplaa
open Go.RowKit Go.WideShapes Go.ChangeShapes Go.ChangeAt
attribute [local go_sem] ext_cell ext_frozen

theorem CodeAt.below2 {w w' : World} {A : Option Addr} {n : Nat} (h : CodeAt w A n) (hb : Below w.heap.size w w') : CodeAt w' A n := h.grown (only_of_below hb none) (fun _ _ _ e => by cases e)
theorem map_len2 {L : List Rw} {G : List (List Int)} (h : L.map Rw.l = G) : L.length = G.length := by rw [← h, List.length_map]
set_option maxRecDepth 100000 in
set_option maxHeartbeats 16000000 in
theorem lawFelt_walk (A : Option Addr) (n c : Nat) (w : World) (hr : CodeAt w A n) (hm : n ≤ 9223372036854775807) :
    Calls Try.prog 14 #[.slice A n c] w fun e w' => e = .returned (.bool true) ∧ Below w.heap.size w w' := by
  have HC := Lib.hid hr
  clear hr
  by_cases hn : n ≤ 65536
  · go_enter Try.func14, Try.ntmps14
    go_wp2_with fail
    refine (rBig_any _ _ _ _).mono ?_; rintro e w' ⟨rfl, rfl⟩
    rw [decide_eq_false (show ¬ 65536 < (n : Int) by omega)]
    go_wp2_with fail
    refine (drawCel_any A n c _ HC.out hn).mono ?_; rintro e w1 ⟨l, L, cl, s, rfl, ⟨hll, ho1⟩, hb⟩
    have HL := Lib.hid (RowAt.of_own ho1 encFe_len (by decide))
    have C := Lib.hid hb
    obtain ⟨G, hG⟩ : ∃ G, cellsL s l = G := ⟨_, rfl⟩
    obtain ⟨O, hO⟩ : ∃ O, cellsOK s l = O := ⟨_, rfl⟩
    have HG := Lib.hid hG
    have HO := Lib.hid hO
    have hg12 : G.length ≤ 12 := by rw [← hG]; exact cellsL_le s l
    have HSUM := Lib.hid (show (G.map List.length).sum ≤ 36 by rw [← hG]; exact cellsL_sum s l)
    clear ho1 hb hG hO
    go_wp2_with fail
    refine (iCel_any l L cl s _ HL.out (by omega)).mono ?_; rw [HG.out, HO.out]; rintro e w2 ⟨R2, A2, k2, rfl, hp, ho, hb⟩
    have P2 := Lib.hid hp
    replace C := Lib.hid (bstep C.out hb)
    replace HL := Lib.hid (RowAt.below HL.out hb)
    have H2 := Lib.hid (ho.at_)
    clear hb
    clear ho hp
    go_wp2_with fail
    refine (sCel_any l L cl s _ HL.out (by omega)).mono ?_; rw [HG.out, HO.out]; rintro e w3 ⟨R3, A3, k3, rfl, hp, ho, hb⟩
    have P3 := Lib.hid hp
    replace C := Lib.hid (bstep C.out hb)
    replace HL := Lib.hid (RowAt.below HL.out hb)
    replace H2 := Lib.hid (SsAt.below H2.out hb)
    have H3 := Lib.hid (ho.at_)
    clear hb
    clear ho hp
    go_wp2_with fail
    refine (rTable_same G.length R2 R3 A2 A3 k2 k3 _ (map_len2 P2.out) (P3.out.trans P2.out.symm) H2.out H3.out (by omega) (by rw [totR_eq P2.out]; have := HSUM.out; omega)).mono ?_; rintro e w4 ⟨rfl, hb⟩
    replace C := Lib.hid (bstep C.out hb)
    replace HL := Lib.hid (RowAt.below HL.out hb)
    replace H2 := Lib.hid (SsAt.below H2.out hb)
    replace H3 := Lib.hid (SsAt.below H3.out hb)
    clear hb
    clear H3
    go_wp2_with fail
    go_loopw [9] (fun i wr => ∃ k : Nat, k ≤ G.length ∧ i = .int .i64 k ∧ Hid (Below w4.heap.size w4 wr)) (fun i _ => G.length - (intOf i).toNat)
    case atStart => exact ⟨0, Nat.zero_le _, rfl, Lib.hid (bref _)⟩
    case round =>
      obtain ⟨k, hk, rfl, HWr⟩ := hrel
      by_cases hlt : k < G.length
      case pos =>
        obtain ⟨m, hm⟩ := some_get (show k < R2.length by rw [map_len2 P2.out]; exact hlt)
        obtain ⟨p, q, v, f, hml, hlev⟩ := cell_level (P2.out.trans HG.out.symm) hm
        have i0 := ib0 k
        have i1 := ib1 hlt
        have HLr := Lib.hid (RowAt.below HL.out HWr.out)
        obtain ⟨b1, o1, eA, hb1, q1, qs⟩ := (SsAt.below H2.out HWr.out).rw_ hm
        subst eA
        rw [hml] at q1 qs
        have hml3 : ([p, q, v] : List Int).length = 3 := rfl
        rw [hml3] at q1
        obtain ⟨b2, o2, eB, hb2, t0⟩ := qs.i (k := 0) (n := p) rfl
        obtain ⟨_, _, eB2, _, t1⟩ := qs.i (k := 1) (n := q) rfl
        rw [eB] at eB2
        cases eB2
        obtain ⟨_, _, eB2, _, t2⟩ := qs.i (k := 2) (n := v) rfl
        rw [eB] at eB2
        cases eB2
        rw [eB] at q1
        simp only [Nat.add_zero] at t0 t1 t2
        have HV : Hid (∀ W, Below wr.heap.size wr W → Calls Try.prog 36 #[.slice L l.length cl, .int .i64 s, .int .i64 p, .int .i64 q] W fun e w' => e = .returned (.tuple #[.int .i64 v, .int .i64 f, .bool true]) ∧ Below W.heap.size W w') := Lib.hid (fun W h => by
          have := iLevelOf_any l L cl s p q W (RowAt.below HLr.out h) (by omega)
          rw [hlev] at this
          exact this)
        clear hm hlev hml hml3 qs eB
        go_wp2_with fail
        (refine wp_region_calm (by kernel_rfl) (by kernel_rfl) ?_; (repeat (go_big_quiet_step (((go_at_call 36; with_reducible exact calm_of (HV.out _ (Ext.is _))))))); refine wpQuiet_nil ?_; intro xw; have hb7 := xw.is; generalize xw.w = w7 at hb7 ⊢; clear xw)
        have q1' := (hb7.cell (p := ⟨b1, o1 + k, none⟩) hb1).trans q1
        have t2' := (hb7.cell (p := ⟨b2, o2 + 2, none⟩) hb2).trans t2
        have hb1' := Nat.lt_of_lt_of_le hb1 hb7.size
        have hb2' := Nat.lt_of_lt_of_le hb2 hb7.size
        clear q1 t0 t1 t2 hb1 hb2
        go_wp2_with fail
        go_roundw
        case rel => exact ⟨k + 1, by omega, by go_num, Lib.hid (bstep HWr.out hb7)⟩
        case measure => simp [intOf]; omega
      obtain rfl : k = G.length := by omega
      replace C := Lib.hid (bstep C.out HWr.out)
      clear H2 HL P2 P3 HG HO HWr
      go_wp2_with fail
      refine (drawRad_any A n c _ (HC.out.below2 C.out) hn).mono ?_; rintro e w30 ⟨f, F, cf, x, y, rfl, ⟨hlf, ho1⟩, hb⟩
      replace C := Lib.hid (bstep C.out hb)
      have HF := Lib.hid (RowAt.of_own ho1 encFe_len (by decide))
      obtain ⟨m1, hm1⟩ : ∃ m1, (radiusL x y f).1 = m1 := ⟨_, rfl⟩
      obtain ⟨m2, hm2⟩ : ∃ m2, (radiusL x y f).2 = m2 := ⟨_, rfl⟩
      have M1 := Lib.hid hm1
      have M2 := Lib.hid hm2
      clear ho1 hb hm1 hm2
      go_wp2_with fail
      refine (iRadius_any f F cf x y _ HF.out (by omega)).mono ?_; rw [M1.out, M2.out]; rintro e w31 ⟨rfl, hb⟩
      replace C := Lib.hid (bstep C.out hb)
      replace HF := Lib.hid (RowAt.below HF.out hb)
      clear hb
      go_wp2_with fail
      refine (sRadius_any f F cf x y _ HF.out (by omega)).mono ?_; rw [M1.out, M2.out]; rintro e w32 ⟨rfl, hb⟩
      replace C := Lib.hid (bstep C.out hb)
      replace HF := Lib.hid (RowAt.below HF.out hb)
      clear hb
      go_upto_block 2 with fail
      go_cut [20, 21] from 132 to 184 (fun _ _ wx => Hid (Below w32.heap.size w32 wx))
      case first =>
        cases m2
        case false =>
          go_wp2_with fail
          go_loopw [20] (fun i wr => ∃ k : Nat, k ≤ f.length ∧ i = .int .i64 k ∧ Hid (Below w32.heap.size w32 wr)) (fun i _ => f.length - (intOf i).toNat)
          case atStart => exact ⟨0, Nat.zero_le _, rfl, Lib.hid (bref _)⟩
          case round =>
            obtain ⟨k, hk, rfl, HWr⟩ := hrel
            by_cases hlt : (k : Int) < (f.length : Int)
            all_goals
              go_wp2_with fail
              go_meet
              exact HWr
        case true =>
          obtain ⟨hbd, hxy, hall⟩ := radius_all2 M2.out
          rw [M1.out] at hbd hall
          have HALL := Lib.hid hall
          have hrr := rr_bd (r := m1) (by omega)
          clear hall
          go_wp2_with fail
          go_loopw [20] (fun i wr => ∃ k : Nat, k ≤ f.length ∧ i = .int .i64 k ∧ Hid (Below w32.heap.size w32 wr)) (fun i _ => f.length - (intOf i).toNat)
          case atStart => exact ⟨0, Nat.zero_le _, rfl, Lib.hid (bref _)⟩
          case round =>
            obtain ⟨i, hi, rfl, HWr⟩ := hrel
            by_cases hlt : i < f.length
            case pos =>
              obtain ⟨m, hm⟩ := some_get hlt
              have i0 := ib0 i
              have i1 := ib1 hlt
              obtain ⟨hmb, hsq⟩ := HALL.out m (List.mem_of_getElem? hm)
              obtain ⟨b1, o1, e1, hb1, q0, q1, q2, q3, q4⟩ := (RowAt.below HF.out HWr.out).fe hm
              subst e1
              have p1 := sq_bd (d := m.x - x) (by omega)
              have p2 := sq_bd (d := m.y - y) (by omega)
              by_cases hv : 2 ≤ m.lv
              case' pos =>
                have hs2 := hsq hv
                have hs3 : ¬ m1 * m1 < (m.x - x) * (m.x - x) + (m.y - y) * (m.y - y) := by omega
                have hs4 : decide (m1 * m1 < (m.x - x) * (m.x - x) + (m.y - y) * (m.y - y)) = false := decide_eq_false hs3
              case' neg =>
                have hv2 : decide (2 ≤ m.lv) = false := decide_eq_false hv
              all_goals
                clear hm hsq
                go_wp2_with fail
                (refine wp_region_calm (by kernel_rfl) (by kernel_rfl) ?_; (repeat (go_big_quiet_step ((fail)))); refine wpQuiet_nil ?_; intro xw; have hb7 := xw.is; generalize xw.w = w7 at hb7 ⊢; clear xw)
                have hc0 := (hb7.cell (p := ⟨b1, o1 + i * 5 + 3, none⟩) hb1).trans q3
                have hb9 := Nat.lt_of_lt_of_le hb1 hb7.size
                go_wp2_with fail
                go_roundw
                case rel => exact ⟨i + 1, by omega, by go_num, Lib.hid (bstep HWr.out hb7)⟩
                case measure => simp [intOf]; omega
            obtain rfl : i = f.length := by omega
            go_wp2_with fail
            go_meet
            exact HWr
      case rest =>
        replace C := Lib.hid (bstep C.out hcut.out)
        clear HF
        go_wp2_with fail
        refine (drawCounts_any A n c _ (HC.out.below2 C.out) hn).mono ?_; rintro e w50 ⟨u, U, cu, rfl, ⟨hlu, ho1⟩, hb⟩
        replace C := Lib.hid (bstep C.out hb)
        have HU := Lib.hid (RowAt.of_own ho1 encFe_len (by decide))
        obtain ⟨T, hT⟩ : ∃ T, goodFe u = T := ⟨_, rfl⟩
        have HT := Lib.hid hT
        have hl12 := lcntL_le u
        clear ho1 hb hT
        go_wp2_with fail
        refine (iCnt_any u U cu _ HU.out (by omega)).mono ?_; rw [HT.out]; rintro e w51 ⟨A5, k5, rfl, ho, hb⟩
        replace C := Lib.hid (bstep C.out hb)
        replace HU := Lib.hid (RowAt.below HU.out hb)
        have H5 := Lib.hid (RowAt.of_own ho encI_len (by decide))
        clear hb
        clear ho
        go_wp2_with fail
        refine (sCnt_any u U cu _ HU.out (by omega)).mono ?_; rw [HT.out]; rintro e w52 ⟨A6, k6, rfl, ho, hb⟩
        replace C := Lib.hid (bstep C.out hb)
        replace HU := Lib.hid (RowAt.below HU.out hb)
        replace H5 := Lib.hid (RowAt.below H5.out hb)
        have H6 := Lib.hid (RowAt.of_own ho encI_len (by decide))
        clear hb
        clear ho
        go_wp2_with fail
        refine (rInts_same (lcntL u) A5 A6 k5 k6 _ H5.out H6.out (by omega)).mono ?_; rintro e w53 ⟨rfl, hb⟩
        replace C := Lib.hid (bstep C.out hb)
        replace HU := Lib.hid (RowAt.below HU.out hb)
        replace H5 := Lib.hid (RowAt.below H5.out hb)
        replace H6 := Lib.hid (RowAt.below H6.out hb)
        clear hb
        clear H6
        go_wp2_with fail
        refine (iAreFe_any u U cu _ HU.out (by omega)).mono ?_; rw [HT.out]; rintro e w54 ⟨rfl, hb⟩
        replace C := Lib.hid (bstep C.out hb)
        replace HU := Lib.hid (RowAt.below HU.out hb)
        replace H5 := Lib.hid (RowAt.below H5.out hb)
        clear hb
        go_upto_block 4 with fail
        go_cut [27, 28] from 212 to 227 (fun pv _ wx => pv = .int .i64 (peopleR u) ∧ Hid (Below w54.heap.size w54 wx))
        case first =>
          cases T
          case false =>
            have hp0 : peopleR u = 0 := by unfold peopleR; rw [HT.out]; rfl
            have HP0 := Lib.hid hp0
            clear hp0
            go_wp2_with fail
            go_loopw [27, 28] (fun pv i wr => ∃ k : Nat, k ≤ u.length ∧ i = .int .i64 k ∧ pv = .int .i64 0 ∧ Hid (Below w54.heap.size w54 wr)) (fun _ i _ => u.length - (intOf i).toNat)
            case atStart => exact ⟨0, Nat.zero_le _, rfl, rfl, Lib.hid (bref _)⟩
            case round =>
              obtain ⟨k, hk, rfl, rfl, HWr⟩ := hrel
              by_cases hlt : (k : Int) < (u.length : Int)
              all_goals
                go_wp2_with fail
                go_meet
                exact ⟨by rw [HP0.out], HWr⟩
          case true =>
            have HA := Lib.hid (goodFe_all HT.out)
            have HP0 := Lib.hid (show peopleR u = peopleL u by unfold peopleR; rw [HT.out]; rfl)
            go_wp2_with fail
            go_loopw [27, 28] (fun pv i wr => ∃ k : Nat, k ≤ u.length ∧ i = .int .i64 k ∧ pv = .int .i64 (peopleL (u.take k)) ∧ Hid (Below w54.heap.size w54 wr)) (fun _ i _ => u.length - (intOf i).toNat)
            case atStart => exact ⟨0, Nat.zero_le _, rfl, rfl, Lib.hid (bref _)⟩
            case round =>
              obtain ⟨i, hi, rfl, rfl, HWr⟩ := hrel
              by_cases hlt : i < u.length
              case pos =>
                obtain ⟨m, hm⟩ := some_get hlt
                have i0 := ib0 i
                have i1 := ib1 hlt
                have hbp := people_bd HA.out i hi
                have hone := oneFe_bounds (HA.out m (List.mem_of_getElem? hm))
                have HS := Lib.hid (people_succ hm)
                obtain ⟨P, hP⟩ : ∃ P, peopleL (u.take i) = P := ⟨_, rfl⟩
                rw [hP] at hbp HS
                rw [hP]
                obtain ⟨b1, o1, e1, hb1, q0, q1, q2, q3, q4⟩ := (RowAt.below HU.out HWr.out).fe hm
                subst e1
                clear hm hP
                go_wp2_with fail
                go_roundw
                case rel => exact ⟨i + 1, by omega, by go_num, by rw [HS.out], HWr⟩
                case measure => simp [intOf]; omega
              obtain rfl : i = u.length := by omega
              go_wp2_with fail
              go_meet
              exact ⟨by rw [HP0.out, List.take_length], HWr⟩
        case rest =>
          obtain ⟨rfl, hcut2⟩ := hcut
          replace C := Lib.hid (bstep C.out hcut2.out)
          have HPP := Lib.hid (sumI_lcnt u)
          have H5c := Lib.hid (RowAt.below H5.out hcut2.out)
          clear HU H5 hcut2
          go_wp2_with fail
          refine (rSum_any (lcntL u) A5 k5 _ H5c.out (by omega) lcnt_sum).mono ?_; rw [HPP.out]; rintro e w69 ⟨rfl, hb⟩
          replace C := Lib.hid (bstep C.out hb)
          clear hb H5c
          go_wp2_with fail
          refine (drawLev_any A n c _ (HC.out.below2 C.out) hn).mono ?_; rintro e w70 ⟨v, V, cv, s2, a, b, rfl, ⟨hlv, ho1⟩, hb⟩
          replace C := Lib.hid (bstep C.out hb)
          have HV := Lib.hid (RowAt.of_own ho1 encFe_len (by decide))
          obtain ⟨z1, hz1⟩ : ∃ z1, (levelOfL s2 a b v).1 = z1 := ⟨_, rfl⟩
          obtain ⟨z2, hz2⟩ : ∃ z2, (levelOfL s2 a b v).2.1 = z2 := ⟨_, rfl⟩
          obtain ⟨z3, hz3⟩ : ∃ z3, (levelOfL s2 a b v).2.2 = z3 := ⟨_, rfl⟩
          have Z1 := Lib.hid hz1
          have Z2 := Lib.hid hz2
          have Z3 := Lib.hid hz3
          clear ho1 hb hz1 hz2 hz3
          go_wp2_with fail
          refine (iLevelOf_any v V cv s2 a b _ HV.out (by omega)).mono ?_; rw [Z1.out, Z2.out, Z3.out]; rintro e w71 ⟨rfl, hb⟩
          replace C := Lib.hid (bstep C.out hb)
          replace HV := Lib.hid (RowAt.below HV.out hb)
          clear hb
          go_wp2_with fail
          refine (sLevelOf_any v V cv s2 a b _ HV.out (by omega)).mono ?_; rw [Z1.out, Z2.out, Z3.out]; rintro e w72 ⟨rfl, hb⟩
          replace C := Lib.hid (bstep C.out hb)
          replace HV := Lib.hid (RowAt.below HV.out hb)
          clear hb
          go_wp2
          go_ret
          exact ⟨by simp, C.out⟩
  · go_enter Try.func14, Try.ntmps14
    go_wp2_with fail
    refine (rBig_any _ _ _ _).mono ?_; rintro e w' ⟨rfl, rfl⟩
    rw [decide_eq_true (show 65536 < (n : Int) by omega)]
    go_wp2
    go_ret
    exact ⟨rfl, bref _⟩
-- THE ROW --
set_option maxRecDepth 100000 in
theorem lawFnFelt_lifted (os : Os) (started : os.Started) (H : Type) (enc : TypeId × Value → H) :
    ReturnsInHanded {} Try.checked os 14 .any (Rows.fnFeltSpec.pre6 enc Try.prog Try.f14 Rows.fnFeltRow.domain false) (Rows.fnFeltSpec.post enc Try.prog Try.f14 false true false false) := by
  refine returnsInHanded_of_change (C := Try.checked) Try.own started (by kernel_rfl) Try.func14
    (ChangeSpec.witness6 (enc := enc) (C := Try.checked) false ⟨#[], #[.slice none 0 0], []⟩ 8 (by kernel_rfl) (by kernel_rfl) (by kernel_rfl) (by kernel_rfl)) ?_
  intro W base args ds gs before hval0 hW hcnd _
  have hval : ∀ (j : Nat) t v, Try.f14.params[j]? = some t → args[j]? = some v → Value.okWide Try.prog W .any base t v := hval0
  have hW' := hW
  obtain ⟨p, q, hA0, hV, hpq, hfz, hnd⟩ := hW
  have hA : DataW.TrodAll enc Try.prog W 0 (fun _ => true) true Try.f14.params.toList args.toList ds p := hA0
  rw [Try.params14] at hA hval
  obtain ⟨v0, vs0, d0, ds0, p0, q0, hargs, rfl, rfl, h0, r0⟩ := trodAll_cons hA
  obtain ⟨rfl, rfl, rfl⟩ := trodAll_nil r0
  obtain rfl : args = #[v0] := by cases args; simp_all
  obtain ⟨A0, n0, c0, rfl, hr0, hm0⟩ := rowU8 (hval 0 59 v0 rfl rfl) h0
  refine (lawFelt_walk A0 n0 c0 W hr0 hm0).mono fun e W' ⟨he, hb⟩ => ?_
  subst he
  exact law_post Try.laidOut (by kernel_rfl) (by kernel_rfl) Try.underlying4 rfl ⟨rfl, rfl, rfl⟩ hW' hb

theorem lawFnFelt : Rows.FnFeltSaid :=
  OpenClaim.holds_of_wide 14 Try.f14 rfl rfl rfl rfl rfl rfl rfl ⟨rfl, rfl, rfl, rfl, rfl⟩ rfl rfl rfl rfl rfl (by kernel_rfl) Try.func14 (by kernel_rfl)
    (of_decide_eq_true (by kernel_rfl)) (by unfold Func.isWrapper; first | (rw [if_pos (by decide +kernel)]; kernel_rfl) | (rw [if_neg (by decide +kernel)]; exact ⟨rfl, rfl⟩))
    (fun os started H enc _ => lawFnFelt_lifted os started H enc)
end Go.Proofs.Ytjjinblahmcplaa
