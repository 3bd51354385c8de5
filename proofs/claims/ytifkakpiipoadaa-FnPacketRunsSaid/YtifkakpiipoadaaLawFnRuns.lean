/-
  Proved here: for every code, all runs of the drawn packets together have all numbers that came, and the samples of all their packets (FnPacketRuns returns true). No condition.
-/
import Derived.Test.YtifkakpiipoadaaPkPl2
import Derived.Test.YtifkakpiipoadaaPkRuns
import Derived.Test.YtifkakpiipoadaaPkDrw
import Derived.Test.YtifkakpiipoadaaPkAft
import Derived.Test.YtifkakpiipoadaaPkVin
import Derived.Test.YtifkakpiipoadaaByte
namespace Go.Proofs.Ytifkakpiipoadaa
set_option linter.unusedVariables false
set_option linter.unusedSimpArgs false
set_option linter.unnecessarySimpa false
open Go.RowKit Go.WideShapes Go.ChangeShapes Go.ChangeAt
attribute [local go_sem] ext_cell ext_frozen

theorem CodeAt.below2 {w w' : World} {A : Option Addr} {n : Nat} (h : CodeAt w A n) (hb : Below w.heap.size w w') : CodeAt w' A n := h.grown (only_of_below hb none) (fun _ _ _ e => by cases e)
theorem PkRow.tot_ {base : Nat} {w : World} {L : List Pk} {B : Option Addr} {cb : Nat} (h : PkRow base w L B cb) : tot L ≤ 1000 := by
  have h1 := few9_tot h.2.1
  have h2 := h.1
  omega
theorem runR_good {P : List PP} (h : goodP P = true) : runR P = runsP P := by unfold runR; rw [if_pos h]
theorem sumN_bd {D : List P2} (h : ∀ r ∈ D, 0 ≤ r.a ∧ r.a ≤ r.b ∧ r.b ≤ 999) : ∀ k, k ≤ D.length → 0 ≤ sumN (D.take k) ∧ sumN (D.take k) ≤ 1000 * k
  | 0, _ => by simp [sumN]
  | k + 1, hk => by
    obtain ⟨r, hr⟩ := some_get (show k < D.length by omega)
    have ih := sumN_bd h k (by omega)
    have hb := h r (List.mem_of_getElem? hr)
    rw [sumN_succ hr]
    omega
theorem dbl_in {P : List PP} (hg : goodP P = true) {k : Nat} (hk : k < P.length) : ((k : Int) ∈ idxR P (dblB P)) ↔ dblB P k = true := by
  unfold idxR
  rw [if_pos hg, plcs_mem]
  constructor
  · rintro ⟨i, _, h, e⟩
    obtain rfl : i = k := by omega
    exact h
  · intro h
    exact ⟨k, hk, h, rfl⟩
theorem allK_bd {l : List Pk} (h : few9 l) : ∀ k, k ≤ l.length → allK (plS l) k ≤ 9 * k
  | 0, _ => by simp [allK]
  | k + 1, hk => by
    obtain ⟨m, hm⟩ := some_get (show k < l.length by omega)
    have ih := allK_bd h k (by omega)
    have hb := h m (List.mem_of_getElem? hm)
    simp only [allK, plS_get hm]
    split <;> omega
theorem allK_step {l : List Pk} {k : Nat} {m : Pk} (hm : l[k]? = some m) : allK (plS l) (k + 1) = if dblB (plS l) k then allK (plS l) k else allK (plS l) k + m.sm.length := by
  simp only [allK, plS_get hm]
theorem aftL_len {P : List PP} {q : PP} (h : goodP (P ++ [q]) = true) : (aftL P q).length = P.length + 1 := by
  unfold aftL
  rw [if_pos h]
  simp

theorem aft_tot {l L : List Pk} {no : Int} {sm : List Int} (h : plS l = aftL (plS L) (no, sm)) (ht : tot L + sm.length ≤ 1048576) : tot l ≤ 2097152 ∧ l.length = (aftL (plS L) (no, sm)).length := by
  refine ⟨?_, by rw [← h, plS_len]⟩
  unfold aftL at h
  split at h
  · have e : tot l = tot (L ++ [(⟨no, sm, none, 0⟩ : Pk)]) := tot_pl (h.trans (plS_one L ⟨no, sm, none, 0⟩).symm)
    rw [e, tot_one]
    simp only
    omega
  · have : l = [] := by cases l <;> simp_all [plS]
    subst this
    simp [tot, totS]
set_option maxRecDepth 100000 in
set_option maxHeartbeats 16000000 in
theorem lawRuns_walk (A : Option Addr) (n c : Nat) (w : World) (hr : CodeAt w A n) (hm : n ≤ 9223372036854775807) :
    Calls Try.prog 13 #[.slice A n c] w fun e w' => e = .returned (.bool true) ∧ Below w.heap.size w w' := by
  have HC := Lib.hid hr
  clear hr
  by_cases hn : n ≤ 65536
  · go_enter Try.func13, Try.ntmps13
    go_wp2_with fail
    refine (vBig_any _ _ _ _).mono ?_; rintro e w' ⟨rfl, rfl⟩
    rw [decide_eq_false (show ¬ 65536 < (n : Int) by omega)]
    go_wp2_with fail
    refine (drawRunsOf_any A n c _ HC.out hn).mono ?_; rintro e w1 ⟨L, B, cb, rfl, hpr, hb1⟩
    have HT := Lib.hid hpr.tot_
    have hL := hpr.1
    have H9 := Lib.hid hpr.2.1
    have HR := Lib.hid hpr.2.2.at_
    obtain ⟨P, hP⟩ : ∃ P, plS L = P := ⟨_, rfl⟩
    have HP := Lib.hid hP
    obtain ⟨G, hG⟩ : ∃ G, goodP P = G := ⟨_, rfl⟩
    have HG := Lib.hid hG
    have HPL := Lib.hid (show P.length = L.length by rw [← hP, plS_len])
    have hru := runR_le P
    have hnu := numR_le P
    have hdb := idxR_le P (dblB P)
    have ht1 : tot L ≤ 1048576 := Nat.le_trans HT.out (by decide)
    have HT1 := Lib.hid ht1
    clear hP hG hpr ht1
    go_wp2_with fail
    refine (iRuns_any L B cb _ HR.out HT1.out).mono ?_; rw [HP.out, HG.out]; rintro e w2 ⟨A2, k2, rfl, ho, hb2⟩
    have H2 := Lib.hid (RowAt.of_own ho encP2_len (by decide))
    have c2 := bstep hb1 hb2
    clear ho
    go_wp2_with fail
    refine (sRuns_any L B cb _ (HR.out.below hb2) HT1.out).mono ?_; rw [HP.out, HG.out]; rintro e w3 ⟨A3, k3, rfl, ho, hb3⟩
    have H3 := Lib.hid (RowAt.of_own ho encP2_len (by decide))
    have c3 := bstep c2 hb3
    clear ho
    go_wp2_with fail
    refine (vP2_same (runR P) A2 A3 k2 k3 _ (RowAt.below H2.out hb3) H3.out (by omega)).mono ?_; rintro e w4 ⟨rfl, hb4⟩
    have c4 := bstep c3 hb4
    have d4 := bstep (bstep hb2 hb3) hb4
    have H4 := Lib.hid (RowAt.below H2.out (bstep hb3 hb4))
    clear H2 H3 hb2 hb3 hb4 c2 c3
    cases G
    case' false =>
      go_wp2_with fail
      have cx := c4
      obtain ⟨wx, hwx⟩ : ∃ wx, wx = w4 := ⟨_, rfl⟩
      rw [← hwx] at cx ⊢
      clear hwx
    case' true =>
      have hRR := runR_good HG.out
      rw [hRR] at H4 hru ⊢
      have HQ := Lib.hid (show ∀ r ∈ runsP P, 0 ≤ r.a ∧ r.a ≤ r.b ∧ r.b ≤ 999 from fun r hr => by
        have h := runsP_inv (l := L) (by rw [HP.out]; exact HG.out) r (by rw [HP.out]; exact hr)
        exact ⟨h.1, h.2.1, h.2.2.1⟩)
      obtain ⟨hs1, hs2⟩ := runs_sums P
      have hnr : numR P = numsP P := by unfold numR; rw [if_pos HG.out]
      have HS1 := Lib.hid hs1
      have HS2 := Lib.hid hs2
      clear hs1 hs2 hRR
      go_wp2_with fail
      refine (iNum_any L B cb _ (HR.out.below d4) HT1.out).mono ?_; rw [HP.out, HG.out, hnr]; rintro e w5 ⟨A5, k5, rfl, ho, hb5⟩
      have c5 := bstep c4 hb5
      have d5 := bstep d4 hb5
      clear ho
      go_wp2_with fail
      refine (iDbl_any L B cb _ (HR.out.below d5) HT1.out).mono ?_; rw [HP.out, HG.out]; rintro e w6 ⟨A6, k6, rfl, ho, hb6⟩
      have HD6 := Lib.hid (RowAt.of_own ho encI_len (by decide))
      have c6 := bstep c5 hb6
      have d6 := bstep d5 hb6
      have H6 := Lib.hid (RowAt.below H4.out (bstep hb5 hb6))
      clear ho H4 hb5 hb6 c4 c5 d4 d5
      have HK6 := Lib.hid (show k6 = k6 from rfl)
      have HRUN := Lib.hid (fun (k : Nat) (r : P2) (hr : (runsP P)[k]? = some r) => HQ.out r (List.mem_of_getElem? hr))
      have HSM := Lib.hid (fun (k : Nat) (r : P2) (hr : (runsP P)[k]? = some r) (n : Int) (h1 : r.a ≤ n) (h2 : n ≤ r.b) => run_smp HG.out hr h1 h2)
      go_wp2_with fail
      go_loopw [12, 13, 15] (fun vn vs vi wr => ∃ (k : Nat) (N S : Int), k ≤ (runsP P).length ∧ vi = .int .i64 k ∧ vn = .int .i64 N ∧ vs = .int .i64 S ∧ Hid (N = sumN ((runsP P).take k)) ∧ Hid (S = (sumS P ((runsP P).take k) : Int)) ∧ (0 ≤ N ∧ N ≤ 1000 * k) ∧ (0 ≤ S ∧ S ≤ 60000 * k) ∧ Hid (Below w6.heap.size w6 wr)) (fun _ _ i _ => (runsP P).length - (intOf i).toNat)
      case atStart => exact ⟨0, 0, 0, Nat.zero_le _, rfl, rfl, rfl, Lib.hid rfl, Lib.hid rfl, ⟨by omega, by omega⟩, ⟨by omega, by omega⟩, Lib.hid (bref _)⟩
      case' round =>
        obtain ⟨k, N, S, hk, rfl, rfl, rfl, HN, HS, ⟨hN0, hN1⟩, ⟨hS0, hS1⟩, HB⟩ := hrel
        by_cases hlt : k < (runsP P).length
        case pos =>
          obtain ⟨m, hm⟩ := some_get hlt
          have i0 := ib0 k
          have i1 := ib1 hlt
          obtain ⟨g0, g1, g2⟩ := HRUN.out k m hm
          obtain ⟨ok1, e1⟩ := HSM.out k m hm m.a (by omega) g1
          obtain ⟨ok2, e2⟩ := HSM.out k m hm m.b g1 (by omega)
          have HM := Lib.hid hm
          obtain ⟨R, hRd⟩ : ∃ R, rngF P m.a (m.b - m.a + 1).toNat = R := ⟨_, rfl⟩
          rw [hRd] at e1 e2
          have hR6 : R.length ≤ 60000 := by
            rw [← e1, ← HP.out]
            exact smpR_le m.a
          have HL := Lib.hid (show sumF (lenF P) (spanR m) = R.length by rw [← hRd, rngF_len]; rfl)
          have OK1 := Lib.hid ok1
          have OK2 := Lib.hid ok2
          have E1 := Lib.hid e1
          have E2 := Lib.hid e2
          have H6k := Lib.hid (RowAt.below H6.out HB.out)
          obtain ⟨b2, o2, eA, hb2, q0, q1⟩ := H6k.out.p2 hm
          subst eA
          clear hm hRd ok1 ok2 e1 e2
          go_wp2_with fail
          (refine wp_region_calm (by kernel_rfl) (by kernel_rfl) ?_; (repeat (go_big_quiet_step ((fail)))); refine wpQuiet_nil ?_; intro xw; have hb7 := xw.is; generalize xw.w = w7 at hb7 ⊢; clear xw)
          have x0 := (hb7.cell (p := ⟨b2, o2 + k * 2, none⟩) hb2).trans q0
          have x1 := (hb7.cell (p := ⟨b2, o2 + k * 2 + 1, none⟩) hb2).trans q1
          have HB7 := Lib.hid (bstep HB.out hb7)
          have hb27 := Nat.lt_of_lt_of_le hb2 hb7.size
          have HRk := Lib.hid (HR.out.below (bstep d6 HB7.out))
          go_wp2_with fail
          refine (iSmp_any L B cb m.a _ HRk.out HT1.out).mono ?_; rw [HP.out, OK1.out, E1.out]; rintro e w8 ⟨A8, k8, rfl, ho, hb8⟩
          have H8 := Lib.hid (RowAt.of_own ho encI_len (by decide))
          replace x0 := (hb8.cell (p := ⟨b2, o2 + k * 2, none⟩) hb27).trans x0
          replace x1 := (hb8.cell (p := ⟨b2, o2 + k * 2 + 1, none⟩) hb27).trans x1
          clear ho
          go_wp2_with fail
          refine (iSmp_any L B cb m.b _ (HRk.out.below hb8) HT1.out).mono ?_; rw [HP.out, OK2.out, E2.out]; rintro e w9 ⟨A9, k9, rfl, ho, hb9⟩
          have H9 := Lib.hid (RowAt.of_own ho encI_len (by decide))
          have HV := Lib.hid (fun W (h : Below w9.heap.size w9 W) => vInts_same R A8 A9 k8 k9 W (RowAt.below H8.out (bstep hb9 h)) (RowAt.below H9.out h) (by omega))
          have HB9 := Lib.hid (bstep HB7.out (bstep hb8 hb9))
          have H6k9 := Lib.hid (RowAt.below H6k.out (bstep hb7 (bstep hb8 hb9)))
          obtain ⟨b3, o3, e3, hb3, y0, y1⟩ := H6k9.out.p2 HM.out
          cases e3
          clear ho x0 x1 hb7 hb8 hb9 q0 q1
          by_cases hk0 : (0 : Int) < (k : Int)
          case pos =>
            have hkN : 0 < k := by omega
            obtain ⟨z, hz⟩ : ∃ z : Nat, z = k - 1 := ⟨_, rfl⟩
            obtain ⟨m', hm'⟩ := some_get (l := runsP P) (k := z) (by omega)
            have hgap := runs_gap (show z < k by omega) hm' HM.out
            have hng : ¬ m.a ≤ m'.b + 1 := by omega
            obtain ⟨p0, p1, p2⟩ := HRUN.out z m' hm'
            have ez : IntKind.i64.wrap ((k : Int) - 1) = (z : Int) := by rw [IntKind.wrap_i64]; omega
            have z0 := ib0 z
            have z1 : (z : Int) < ((runsP P).length : Int) := by omega
            obtain ⟨b4, o4, e4, hb4, s0, s1⟩ := H6k9.out.p2 hm'
            cases e4
            clear hm' hz
            go_wp2_with fail
            (refine wp_region_calm (by kernel_rfl) (by kernel_rfl) ?_; (repeat (go_big_quiet_step (((go_at_call 53; with_reducible exact calm_of (HV.out _ (Ext.is _))))))); refine wpQuiet_nil ?_; intro xw; have hb10 := xw.is; generalize xw.w = w10 at hb10 ⊢; clear xw)
            go_wp2_with fail
            go_roundw
            case rel => exact ⟨k + 1, N + m.b - m.a + 1, S + (R.length : Int), by omega, by go_num, by first | rfl | go_num, by first | rfl | go_num, Lib.hid (by rw [sumN_succ HM.out]; have := HN.out; omega), Lib.hid (by rw [sumS_succ HM.out, HL.out]; have := HS.out; omega), ⟨by omega, by omega⟩, ⟨by omega, by omega⟩, Lib.hid (bstep HB9.out hb10)⟩
            case measure => simp [intOf]; omega
          case neg =>
            have hkN : ¬ 0 < k := by omega
            go_wp2_with fail
            (refine wp_region_calm (by kernel_rfl) (by kernel_rfl) ?_; (repeat (go_big_quiet_step (((go_at_call 53; with_reducible exact calm_of (HV.out _ (Ext.is _))))))); refine wpQuiet_nil ?_; intro xw; have hb10 := xw.is; generalize xw.w = w10 at hb10 ⊢; clear xw)
            go_wp2_with fail
            go_roundw
            case rel => exact ⟨k + 1, N + m.b - m.a + 1, S + (R.length : Int), by omega, by go_num, by first | rfl | go_num, by first | rfl | go_num, Lib.hid (by rw [sumN_succ HM.out]; have := HN.out; omega), Lib.hid (by rw [sumS_succ HM.out, HL.out]; have := HS.out; omega), ⟨by omega, by omega⟩, ⟨by omega, by omega⟩, Lib.hid (bstep HB9.out hb10)⟩
            case measure => simp [intOf]; omega
        obtain rfl : k = (runsP P).length := by omega
        obtain rfl : N = ((numsP P).length : Int) := by rw [HN.out, List.take_length]; exact HS1.out
        obtain rfl : S = ((allK P L.length : Nat) : Int) := by rw [HS.out, List.take_length, HS2.out, HPL.out]
        obtain ⟨wa, rfl⟩ : ∃ wa : World, wa = wr := ⟨_, rfl⟩
        have c7 := bstep c6 HB.out
        have HRa := Lib.hid (HR.out.below (bstep d6 HB.out))
        have HDa := Lib.hid (RowAt.below HD6.out HB.out)
        have HALL := Lib.hid (fun (k : Nat) (hk : k ≤ L.length) => show allK P k ≤ 9 * k by rw [← HP.out]; exact allK_bd H9.out k hk)
        clear hN0 hN1 hS0 hS1 hk hlt
        go_wp2_with fail
        go_loop [14, 20] (fun va vi => ∃ (k : Nat) (K : Int), k ≤ L.length ∧ vi = .int .i64 k ∧ va = .int .i64 K ∧ Hid (K = ((allK P k : Nat) : Int)) ∧ (0 ≤ K ∧ K ≤ 9 * k)) (fun _ i => L.length - (intOf i).toNat)
        case atStart => exact ⟨0, 0, Nat.zero_le _, rfl, rfl, Lib.hid rfl, by omega, by omega⟩
        case' round =>
          obtain ⟨k, K, hk, rfl, rfl, HK, hK0, hK1⟩ := hrel
          by_cases hlt : k < L.length
          case pos =>
            obtain ⟨m, hm⟩ := some_get hlt
            have i0 := ib0 k
            have i1 := ib1 hlt
            have h9 := H9.out m (List.mem_of_getElem? hm)
            have HAS := Lib.hid (show allK P (k + 1) = if dblB P k then allK P k else allK P k + m.sm.length by rw [← HP.out]; exact allK_step hm)
            obtain ⟨b2, o2, eA, hb2, q0, q1, _⟩ := HRa.out.pk hm
            obtain ⟨d, hd⟩ : ∃ d, dblB P k = d := ⟨_, rfl⟩
            have HH := Lib.hid (by
              have h := vHas_any (idxR P (dblB P)) A6 k6 (k : Int) wa HDa.out (by omega)
              have e : decide ((k : Int) ∈ idxR P (dblB P)) = d := by rw [← hd, Bool.eq_iff_iff, decide_eq_true_iff]; exact dbl_in HG.out (by have := HPL.out; omega)
              rw [e] at h
              exact h)
            have HDD := Lib.hid hd
            subst eA
            clear hm hd
            cases d
            case true =>
              go_wp2_with (go_at_call 54; (with_reducible refine HH.out.mono ?_); rintro e w' ⟨rfl, rfl⟩)
              go_round
              case rel => exact ⟨k + 1, K, by omega, by go_num, rfl, Lib.hid (by rw [HAS.out, HDD.out]; exact HK.out), by omega, by omega⟩
              case measure => simp [intOf]; omega
            case false =>
              go_wp2_with (go_at_call 54; (with_reducible refine HH.out.mono ?_); rintro e w' ⟨rfl, rfl⟩)
              go_round
              case rel => exact ⟨k + 1, K + (m.sm.length : Int), by omega, by go_num, by first | rfl | go_num, Lib.hid (by rw [HAS.out, HDD.out]; have := HK.out; simp; omega), by omega, by omega⟩
              case measure => simp [intOf]; omega
          obtain rfl : k = L.length := by omega
          obtain rfl : K = ((allK P L.length : Nat) : Int) := HK.out
          go_wp2_with fail
          have cx := c7
          obtain ⟨wx, hwx⟩ : ∃ wx, wx = wa := ⟨_, rfl⟩
          rw [← hwx] at cx ⊢
          clear hwx
    all_goals
      have C := Lib.hid cx
      refine (drawSmp_any A n c _ (HC.out.below2 C.out) hn).mono ?_; rintro e w30 ⟨M, Bm, km, q, rfl, hpm, hb⟩
      replace C := Lib.hid (bstep C.out hb)
      have HTM := Lib.hid (show tot M ≤ 1048576 from Nat.le_trans hpm.tot_ (by decide))
      have HRM := Lib.hid hpm.2.2.at_
      have hsl := smpR_le (l := M) q
      obtain ⟨SO, hSO⟩ : ∃ SO, smpOK q (plS M) = SO := ⟨_, rfl⟩
      have HSO := Lib.hid hSO
      clear hpm hb hSO cx
      go_wp2_with fail
      refine (iSmp_any M Bm km q _ HRM.out HTM.out).mono ?_; rw [HSO.out]; rintro e w31 ⟨Ax, kx, rfl, ho, hb⟩
      replace C := Lib.hid (bstep C.out hb)
      replace HRM := Lib.hid (HRM.out.below hb)
      have HX := Lib.hid (RowAt.of_own ho encI_len (by decide))
      clear hb
      clear ho
      go_wp2_with fail
      refine (sSmp_any M Bm km q _ HRM.out HTM.out).mono ?_; rw [HSO.out]; rintro e w32 ⟨Ay, ky, rfl, ho, hb⟩
      replace C := Lib.hid (bstep C.out hb)
      replace HRM := Lib.hid (HRM.out.below hb)
      replace HX := Lib.hid (RowAt.below HX.out hb)
      have HY := Lib.hid (RowAt.of_own ho encI_len (by decide))
      clear hb
      clear ho
      go_wp2_with fail
      refine (vInts_same (smpR q (plS M)) Ax Ay kx ky _ HX.out HY.out (by omega)).mono ?_; rintro e w33 ⟨rfl, hb⟩
      replace C := Lib.hid (bstep C.out hb)
      replace HRM := Lib.hid (HRM.out.below hb)
      replace HX := Lib.hid (RowAt.below HX.out hb)
      replace HY := Lib.hid (RowAt.below HY.out hb)
      clear hb
      clear HX HY HRM
      go_wp2_with fail
      refine (drawAft_any A n c _ (HC.out.below2 C.out) hn).mono ?_; rintro e w40 ⟨L3, B3, k3, no, sm, bs, ks, rfl, hp3, hsm, hr3, hb⟩
      replace C := Lib.hid (bstep C.out hb)
      have HT3 := Lib.hid (show tot L3 + sm.length ≤ 1048576 by have := hp3.tot_; omega)
      have HR3 := Lib.hid hp3.2.2.at_
      have HS3 := Lib.hid hr3
      clear hp3 hr3 hb
      go_wp2_with fail
      obtain ⟨z0, z1⟩ := boxP w40 no (.slice (some ⟨bs, 0, none⟩) sm.length ks)
      have hx := balloc (bref w40) (.cells #[.int .i64 no, .slice (some ⟨bs, 0, none⟩) sm.length ks] 40)
      have hz : w40.heap.size < (w40.alloc (.cells #[.int .i64 no, .slice (some ⟨bs, 0, none⟩) sm.length ks] 40)).heap.size := by simp
      generalize w40.alloc (.cells #[.int .i64 no, .slice (some ⟨bs, 0, none⟩) sm.length ks] 40) = w41 at z0 z1 hx hz ⊢
      replace C := Lib.hid (bstep C.out hx)
      replace HR3 := Lib.hid (HR3.out.below hx)
      replace HS3 := Lib.hid (RowAt.below HS3.out hx)
      have HAT := Lib.hid (fun (l : List Pk) (h : plS l = aftL (plS L3) (no, sm)) => aft_tot h HT3.out)
      obtain ⟨Q, hQ⟩ : ∃ Q, aftL (plS L3) (no, sm) = Q := ⟨_, rfl⟩
      obtain ⟨G3, hG3⟩ : ∃ G3, goodP (plS L3 ++ [(no, sm)]) = G3 := ⟨_, rfl⟩
      have HG3 := Lib.hid hG3
      have HQ := Lib.hid hQ
      rw [hQ] at HAT
      have hl14 := L3.length
      clear hx
      refine (iAft_any L3 B3 k3 no sm (some ⟨bs, 0, none⟩) ks _ HR3.out HS3.out HT3.out).mono ?_; rw [HQ.out, HG3.out]; rintro e w42 ⟨l4, A4, c4, rfl, hp4, ho4, hb⟩
      have H4 := Lib.hid ho4.at_
      have HP4 := Lib.hid hp4
      replace C := Lib.hid (bstep C.out hb)
      replace HR3 := Lib.hid (HR3.out.below hb)
      replace HS3 := Lib.hid (RowAt.below HS3.out hb)
      replace z0 := (hb.cell (p := ⟨w40.heap.size, 0, none⟩) hz).trans z0
      replace z1 := (hb.cell (p := ⟨w40.heap.size, 1, none⟩) hz).trans z1
      clear ho4 hp4 hb
      go_wp2_with fail
      refine (sAft_any L3 B3 k3 no sm (some ⟨bs, 0, none⟩) ks _ HR3.out HS3.out HT3.out).mono ?_; rw [HQ.out, HG3.out]; rintro e w43 ⟨l5, A5, c5, rfl, hp5, ho5, hb⟩
      have H5 := Lib.hid ho5.at_
      have HP5 := Lib.hid hp5
      replace C := Lib.hid (bstep C.out hb)
      replace H4 := Lib.hid (H4.out.below hb)
      clear ho5 hp5 hb z0 z1
      go_wp2_with fail
      refine (vPkS_same Q.length l4 l5 A4 A5 c4 c5 _ (HAT.out l4 HP4.out).2 (HP5.out.trans HP4.out.symm) H4.out H5.out (HAT.out l4 HP4.out).1).mono ?_; rintro e w44 ⟨rfl, hb⟩
      replace C := Lib.hid (bstep C.out hb)
      clear hb H4 H5
      cases G3
      case false =>
        go_wp2
        go_ret
        exact ⟨rfl, C.out⟩
      case true =>
        have hql : (Q.length : Int) = (L3.length : Int) + 1 := by
          have := aftL_len HG3.out
          rw [HQ.out, plS_len] at this
          omega
        have hl3 : L3.length ≤ 1048576 := by have := HT3.out; unfold tot at this; omega
        go_wp2
        go_ret
        exact ⟨rfl, C.out⟩
  · go_enter Try.func13, Try.ntmps13
    go_wp2_with fail
    refine (vBig_any _ _ _ _).mono ?_; rintro e w' ⟨rfl, rfl⟩
    rw [decide_eq_true (show 65536 < (n : Int) by omega)]
    go_wp2
    go_ret
    exact ⟨rfl, bref _⟩
-- THE ROW --
set_option maxRecDepth 100000 in
theorem lawFnPacketRuns_lifted (os : Os) (started : os.Started) (H : Type) (enc : TypeId × Value → H) :
    ReturnsInHanded {} Try.checked os 13 .any (Rows.fnPacketRunsSpec.pre6 enc Try.prog Try.f13 Rows.fnPacketRunsRow.domain false) (Rows.fnPacketRunsSpec.post enc Try.prog Try.f13 false true false false) := by
  refine returnsInHanded_of_change (C := Try.checked) Try.own started (by kernel_rfl) Try.func13
    (ChangeSpec.witness6 (enc := enc) (C := Try.checked) false ⟨#[], #[.slice none 0 0], []⟩ 8 (by kernel_rfl) (by kernel_rfl) (by kernel_rfl) (by kernel_rfl)) ?_
  intro W base args ds gs before hval0 hW hcnd _
  have hval : ∀ (j : Nat) t v, Try.f13.params[j]? = some t → args[j]? = some v → Value.okWide Try.prog W .any base t v := hval0
  have hW' := hW
  obtain ⟨p, q, hA0, hV, hpq, hfz, hnd⟩ := hW
  have hA : DataW.TrodAll enc Try.prog W 0 (fun _ => true) true Try.f13.params.toList args.toList ds p := hA0
  rw [Try.params13] at hA hval
  obtain ⟨v0, vs0, d0, ds0, p0, q0, hargs, rfl, rfl, h0, r0⟩ := trodAll_cons hA
  obtain ⟨rfl, rfl, rfl⟩ := trodAll_nil r0
  obtain rfl : args = #[v0] := by cases args; simp_all
  obtain ⟨A0, n0, c0, rfl, hr0, hm0⟩ := rowU8 (hval 0 52 v0 rfl rfl) h0
  refine (lawRuns_walk A0 n0 c0 W hr0 hm0).mono fun e W' ⟨he, hb⟩ => ?_
  subst he
  exact law_post Try.laidOut (by kernel_rfl) (by kernel_rfl) Try.underlying4 rfl ⟨rfl, rfl, rfl⟩ hW' hb

theorem lawFnPacketRuns : Rows.FnPacketRunsSaid :=
  OpenClaim.holds_of_wide 13 Try.f13 rfl rfl rfl rfl rfl rfl rfl ⟨rfl, rfl, rfl, rfl, rfl⟩ rfl rfl rfl rfl rfl (by kernel_rfl) Try.func13 (by kernel_rfl)
    (of_decide_eq_true (by kernel_rfl)) (by unfold Func.isWrapper; first | (rw [if_pos (by decide +kernel)]; kernel_rfl) | (rw [if_neg (by decide +kernel)]; exact ⟨rfl, rfl⟩))
    (fun os started H enc _ => lawFnPacketRuns_lifted os started H enc)
end Go.Proofs.Ytifkakpiipoadaa
