/-
  Proved here: for every code, no level is greater than the strongest one, centers lie within the reports, and a merged list has the reports of the second one (FnShaking returns true). No condition.
-/
import Derived.Test.YtjjinblahmcplaaFePl
import Derived.Test.YtjjinblahmcplaaFeDrw
import Derived.Test.YtjjinblahmcplaaFeVin
import Derived.Test.YtjjinblahmcplaaFeOdd
import Derived.Test.YtjjinblahmcplaaFeMrgI
import Derived.Test.YtjjinblahmcplaaFeMrgS
import Derived.Test.YtjjinblahmcplaaFeOne
import Derived.Test.YtjjinblahmcplaaByte
import Derived.Deep.CutBlock
namespace Go.Proofs.Ytjjinblahmcplaa
open Go.RowKit Go.WideShapes Go.ChangeShapes Go.ChangeAt
attribute [local go_sem] ext_cell ext_frozen

theorem CodeAt.below2 {w w' : World} {A : Option Addr} {n : Nat} (h : CodeAt w A n) (hb : Below w.heap.size w w') : CodeAt w' A n := h.grown (only_of_below hb none) (fun _ _ _ e => by cases e)
def FBox (w : World) (g : Nat) (m : Fe) : Prop := g < w.heap.size ∧ w.cell? ⟨g, 0, none⟩ = some (.int .i64 m.id) ∧ w.cell? ⟨g, 1, none⟩ = some (.int .i64 m.x) ∧ w.cell? ⟨g, 2, none⟩ = some (.int .i64 m.y) ∧ w.cell? ⟨g, 3, none⟩ = some (.int .i64 m.lv) ∧ w.cell? ⟨g, 4, none⟩ = some (.int .i64 m.pp)
theorem FBox.below {w w' : World} {g : Nat} {m : Fe} (h : FBox w g m) (hb : Below w.heap.size w w') : FBox w' g m := by
  obtain ⟨h0, h1, h2, h3, h4, h5⟩ := h
  exact ⟨Nat.lt_of_lt_of_le h0 hb.size, (hb.cell (p := ⟨g, 0, none⟩) h0).trans h1, (hb.cell (p := ⟨g, 1, none⟩) h0).trans h2, (hb.cell (p := ⟨g, 2, none⟩) h0).trans h3, (hb.cell (p := ⟨g, 3, none⟩) h0).trans h4, (hb.cell (p := ⟨g, 4, none⟩) h0).trans h5⟩
theorem fbox1 (w : World) (m : Fe) : FBox (w.alloc (.cells #[.int .i64 m.id, .int .i64 m.x, .int .i64 m.y, .int .i64 m.lv, .int .i64 m.pp] 25)) w.heap.size m := by
  refine ⟨by simp, ?_, ?_, ?_, ?_, ?_⟩ <;> simp [go_sem]
theorem any_succ {α : Type} (p : α → Bool) {l : List α} {k : Nat} {m : α} (h : l[k]? = some m) : (l.take (k + 1)).any p = ((l.take k).any p || p m) := by
  rw [List.take_add_one, h]
  simp
set_option maxRecDepth 100000 in
set_option maxHeartbeats 16000000 in
theorem lawShk_walk (A : Option Addr) (n c : Nat) (w : World) (hr : CodeAt w A n) (hm : n ≤ 9223372036854775807) :
    Calls Try.prog 13 #[.slice A n c] w fun e w' => e = .returned (.bool true) ∧ Below w.heap.size w w' := by
  have HC := Lib.hid hr
  clear hr
  by_cases hn : n ≤ 65536
  · go_enter Try.func13, Try.ntmps13
    go_wp2_with fail
    refine (rBig_any _ _ _ _).mono ?_; rintro e w' ⟨rfl, rfl⟩
    rw [decide_eq_false (show ¬ 65536 < (n : Int) by omega)]
    go_wp2_with fail
    refine (drawStrong_any A n c _ HC.out hn).mono ?_; rintro e w1 ⟨l, L, cl, rfl, ⟨hll, ho1⟩, hb⟩
    have HL := Lib.hid (RowAt.of_own ho1 encFe_len (by decide))
    have C := Lib.hid hb
    obtain ⟨B, hB⟩ : ∃ B, (strongL l).1 = B := ⟨_, rfl⟩
    obtain ⟨O, hO⟩ : ∃ O, (strongL l).2 = O := ⟨_, rfl⟩
    have HB := Lib.hid hB
    have HO := Lib.hid hO
    clear ho1 hb hB hO
    go_wp2_with fail
    refine (iStrong_any l L cl _ HL.out (by omega)).mono ?_; rw [HB.out, HO.out]; rintro e w2 ⟨rfl, hb⟩
    replace C := Lib.hid (bstep C.out hb)
    replace HL := Lib.hid (RowAt.below HL.out hb)
    clear hb
    go_wp2_with fail
    refine (sStrong_any l L cl _ HL.out (by omega)).mono ?_; rw [HB.out, HO.out]; rintro e w3 ⟨rfl, hb⟩
    replace C := Lib.hid (bstep C.out hb)
    replace HL := Lib.hid (RowAt.below HL.out hb)
    clear hb
    go_upto_block 0 with fail
    go_cut [8, 9] from 59 to 93 (fun _ _ wx => Hid (Below w3.heap.size w3 wx))
    case first =>
      cases O
      case false =>
        go_wp2_with fail
        go_loopw [8] (fun i wr => ∃ k : Nat, k ≤ l.length ∧ i = .int .i64 k ∧ Hid (Below w3.heap.size w3 wr)) (fun i _ => l.length - (intOf i).toNat)
        case atStart => exact ⟨0, Nat.zero_le _, rfl, Lib.hid (bref _)⟩
        case round =>
          obtain ⟨k, hk, rfl, HWr⟩ := hrel
          by_cases hlt : (k : Int) < (l.length : Int)
          all_goals
            go_wp2_with fail
            go_meet
            exact HWr
      case true =>
        have HALL := Lib.hid (by have h := strong_all HO.out; rw [HB.out] at h; exact h)
        go_wp2_with fail
        go_loopw [8] (fun i wr => ∃ k : Nat, k ≤ l.length ∧ i = .int .i64 k ∧ Hid (Below w3.heap.size w3 wr)) (fun i _ => l.length - (intOf i).toNat)
        case atStart => exact ⟨0, Nat.zero_le _, rfl, Lib.hid (bref _)⟩
        case round =>
          obtain ⟨i, hi, rfl, HWr⟩ := hrel
          by_cases hlt : i < l.length
          case pos =>
            obtain ⟨m, hm⟩ := some_get hlt
            have i0 := ib0 i
            have i1 := ib1 hlt
            have HM := Lib.hid hm
            clear hm
            obtain ⟨wo, rfl⟩ : ∃ wo : World, wo = wr := ⟨_, rfl⟩
            go_wp2_with fail
            go_loopw [9] (fun j wi => ∃ k : Nat, k ≤ l.length ∧ j = .int .i64 k ∧ Hid (Below wo.heap.size wo wi)) (fun j _ => l.length - (intOf j).toNat)
            case atStart => exact ⟨0, Nat.zero_le _, rfl, Lib.hid (bref _)⟩
            case' round =>
              obtain ⟨k, hk, rfl, HW⟩ := hrel
              by_cases hlk : k < l.length
              case pos =>
                obtain ⟨q, hq⟩ := some_get hlk
                have j0 := ib0 k
                have j1 := ib1 hlk
                obtain ⟨b1, o1, e1, hb1, p0, p1, p2, p3, p4⟩ := (RowAt.below HL.out (bstep HWr.out HW.out)).fe HM.out
                obtain ⟨b2, o2, e2, hb2, q0, q1, q2, q3, q4⟩ := (RowAt.below HL.out (bstep HWr.out HW.out)).fe hq
                rw [e1] at e2
                cases e2
                subst e1
                by_cases hid : m.id = B
                case' pos =>
                  have hle := HALL.out m (List.mem_of_getElem? HM.out) hid q (List.mem_of_getElem? hq)
                  have hnl : ¬ m.lv < q.lv := by omega
                  have hnb : decide (m.lv < q.lv) = false := by simp; omega
                  have hib : (m.id == B) = true := by simp [hid]
                case' neg =>
                  have hib : (m.id == B) = false := by simp [hid]
                all_goals
                  clear hq hid
                  go_wp2_with fail
                  (refine wp_region_calm (by kernel_rfl) (by kernel_rfl) ?_; (repeat (go_big_quiet_step ((fail)))); refine wpQuiet_nil ?_; intro xw; have hb7 := xw.is; generalize xw.w = w7 at hb7 ⊢; clear xw)
                  go_wp2_with fail
                  go_roundw
                  case rel => exact ⟨k + 1, by omega, by go_num, Lib.hid (bstep HW.out hb7)⟩
                  case measure => simp [intOf]; omega
              obtain rfl : k = l.length := by omega
              go_wp2_with fail
              go_roundw
              case rel => exact ⟨i + 1, by omega, by go_num, Lib.hid (bstep HWr.out HW.out)⟩
              case measure => simp [intOf]; omega
          obtain rfl : i = l.length := by omega
          go_wp2_with fail
          go_meet
          exact HWr
    case rest =>
      replace C := Lib.hid (bstep C.out hcut.out)
      go_wp2_with fail
      refine (drawCenter_any A n c _ (HC.out.below2 C.out) hn).mono ?_; rintro e w30 ⟨f, F, cf, least, rfl, ⟨hlf, ho1⟩, hb⟩
      replace C := Lib.hid (bstep C.out hb)
      have HF := Lib.hid (RowAt.of_own ho1 encFe_len (by decide))
      obtain ⟨m1, hm1⟩ : ∃ m1, (centerL least f).1 = m1 := ⟨_, rfl⟩
      obtain ⟨m2, hm2⟩ : ∃ m2, (centerL least f).2.1 = m2 := ⟨_, rfl⟩
      obtain ⟨m3, hm3⟩ : ∃ m3, (centerL least f).2.2 = m3 := ⟨_, rfl⟩
      have M1 := Lib.hid hm1
      have M2 := Lib.hid hm2
      have M3 := Lib.hid hm3
      clear ho1 hb hm1 hm2 hm3
      go_wp2_with fail
      refine (iCenter_any f F cf least _ HF.out (by omega)).mono ?_; rw [M1.out, M2.out, M3.out]; rintro e w31 ⟨rfl, hb⟩
      replace C := Lib.hid (bstep C.out hb)
      replace HF := Lib.hid (RowAt.below HF.out hb)
      clear hb
      go_wp2_with fail
      refine (sCenter_any f F cf least _ HF.out (by omega)).mono ?_; rw [M1.out, M2.out, M3.out]; rintro e w32 ⟨rfl, hb⟩
      replace C := Lib.hid (bstep C.out hb)
      replace HF := Lib.hid (RowAt.below HF.out hb)
      clear hb
      go_upto_if 126 with fail
      go_cut [18, 19, 20] from 127 to 176 (fun _ _ _ wx => Hid (Below w32.heap.size w32 wx))
      case first =>
        cases m3
        case false =>
          go_wp2_with fail
          go_meet
          exact Lib.hid (bref _)
        case true =>
          obtain ⟨lo, hi⟩ := center_all M3.out
          rw [M1.out] at lo hi
          have LO := Lib.hid lo
          have HI := Lib.hid hi
          clear lo hi
          go_wp2_with fail
          go_loopw [18, 19, 20] (fun vl vh i wr => ∃ (k : Nat) (P Q : Bool), k ≤ f.length ∧ i = .int .i64 k ∧ vl = .bool P ∧ vh = .bool Q ∧ Hid (P = (f.take k).any fun m => decide (least ≤ m.lv) && decide (m.x ≤ m1)) ∧ Hid (Q = (f.take k).any fun m => decide (least ≤ m.lv) && decide (m1 ≤ m.x)) ∧ Hid (Below w32.heap.size w32 wr)) (fun _ _ i _ => f.length - (intOf i).toNat)
          case atStart => exact ⟨0, false, false, Nat.zero_le _, rfl, rfl, rfl, Lib.hid (by simp), Lib.hid (by simp), Lib.hid (bref _)⟩
          case round =>
            obtain ⟨k, P, Q, hk, rfl, rfl, rfl, HP, HQ, HWr⟩ := hrel
            by_cases hlt : k < f.length
            case pos =>
              obtain ⟨m, hm⟩ := some_get hlt
              have i0 := ib0 k
              have i1 := ib1 hlt
              have E1 := Lib.hid (any_succ (fun m : Fe => decide (least ≤ m.lv) && decide (m.x ≤ m1)) hm)
              have E2 := Lib.hid (any_succ (fun m : Fe => decide (least ≤ m.lv) && decide (m1 ≤ m.x)) hm)
              obtain ⟨b1, o1, eF, hb1, q0, q1, q2, q3, q4⟩ := (RowAt.below HF.out HWr.out).fe hm
              subst eF
              clear hm
              by_cases c1 : least ≤ m.lv <;> by_cases c2 : m.x ≤ m1 <;> by_cases c3 : m1 ≤ m.x
              all_goals try (exfalso; omega)
              all_goals
                cases P <;> cases Q
              all_goals
                go_wp2_with fail
                go_roundw
                case rel => exact ⟨k + 1, _, _, by omega, by go_num, rfl, rfl, Lib.hid (by rw [E1.out, ← HP.out]; simp [c1, c2]), Lib.hid (by rw [E2.out, ← HQ.out]; simp [c1, c3]), HWr⟩
                case measure => simp [intOf]; omega
            obtain rfl : k = f.length := by omega
            obtain rfl : P = true := by rw [HP.out, List.take_length]; exact LO.out
            obtain rfl : Q = true := by rw [HQ.out, List.take_length]; exact HI.out
            go_wp2_with fail
            go_meet
            exact HWr
      case rest =>
        replace C := Lib.hid (bstep C.out hcut.out)
        clear HF
        go_wp2_with fail
        refine (drawMer_any A n c _ (HC.out.below2 C.out) hn).mono ?_; rintro e w50 ⟨a, b, X, Y, cx, cy, rfl, ⟨hla, ho1⟩, ⟨hlb, ho2⟩, hb⟩
        replace C := Lib.hid (bstep C.out hb)
        have HX := Lib.hid (RowAt.of_own ho1 encFe_len (by decide))
        have HY := Lib.hid (RowAt.of_own ho2 encFe_len (by decide))
        obtain ⟨D, hD⟩ : ∃ D, merL a b = D := ⟨_, rfl⟩
        obtain ⟨T, hT⟩ : ∃ T, merOK a b = T := ⟨_, rfl⟩
        have HD := Lib.hid hD
        have HT := Lib.hid hT
        have hDl : D.length ≤ 12 := by rw [← hD]; exact merL_le a b
        clear ho1 ho2 hb hD hT
        go_wp2_with fail
        refine (iMer_any a b X Y cx cy _ HX.out HY.out (by omega) (by omega)).mono ?_; rw [HD.out, HT.out]; rintro e w51 ⟨A2, k2, rfl, ho, hb⟩
        replace C := Lib.hid (bstep C.out hb)
        replace HX := Lib.hid (RowAt.below HX.out hb)
        replace HY := Lib.hid (RowAt.below HY.out hb)
        have H2 := Lib.hid (RowAt.of_own ho encFe_len (by decide))
        clear hb
        clear ho
        go_wp2_with fail
        refine (sMer_any a b X Y cx cy _ HX.out HY.out (by omega) (by omega)).mono ?_; rw [HD.out, HT.out]; rintro e w52 ⟨A3, k3, rfl, ho, hb⟩
        replace C := Lib.hid (bstep C.out hb)
        replace HX := Lib.hid (RowAt.below HX.out hb)
        replace HY := Lib.hid (RowAt.below HY.out hb)
        replace H2 := Lib.hid (RowAt.below H2.out hb)
        have H3 := Lib.hid (RowAt.of_own ho encFe_len (by decide))
        clear hb
        clear ho
        go_wp2_with fail
        refine (rFe_same D A2 A3 k2 k3 _ H2.out H3.out (by omega)).mono ?_; rintro e w53 ⟨rfl, hb⟩
        replace C := Lib.hid (bstep C.out hb)
        replace HX := Lib.hid (RowAt.below HX.out hb)
        replace HY := Lib.hid (RowAt.below HY.out hb)
        replace H2 := Lib.hid (RowAt.below H2.out hb)
        replace H3 := Lib.hid (RowAt.below H3.out hb)
        clear hb
        clear H3
        go_upto_if 203 with fail
        go_cut [27, 28] from 204 to 217 (fun _ _ wx => Hid (Below w53.heap.size w53 wx))
        case first =>
          cases T
          case false =>
            go_wp2_with fail
            go_meet
            exact Lib.hid (bref _)
          case true =>
            obtain ⟨hok, hsame⟩ := mer_again HT.out
            rw [HD.out] at hok hsame
            have HOK := Lib.hid hok
            have HSAME := Lib.hid hsame
            have Z0 := Lib.hid (bref w53)
            clear hok hsame C
            have C := Z0
            go_wp2_with fail
            refine (iMer_any D b A2 Y k2 cy _ H2.out HY.out (by omega) (by omega)).mono ?_; rw [HSAME.out, HOK.out]; rintro e w61 ⟨A4, k4, rfl, ho, hb⟩
            replace C := Lib.hid (bstep C.out hb)
            replace HX := Lib.hid (RowAt.below HX.out hb)
            replace HY := Lib.hid (RowAt.below HY.out hb)
            replace H2 := Lib.hid (RowAt.below H2.out hb)
            have H4 := Lib.hid (RowAt.of_own ho encFe_len (by decide))
            clear hb
            clear ho
            go_wp2_with fail
            refine (rFe_same D A4 A2 k4 k2 _ H4.out H2.out (by omega)).mono ?_; rintro e w62 ⟨rfl, hb⟩
            replace C := Lib.hid (bstep C.out hb)
            replace HX := Lib.hid (RowAt.below HX.out hb)
            replace HY := Lib.hid (RowAt.below HY.out hb)
            replace H2 := Lib.hid (RowAt.below H2.out hb)
            replace H4 := Lib.hid (RowAt.below H4.out hb)
            clear hb
            clear H4
            go_wp2_with fail
            go_meet
            exact C
        case rest =>
          replace C := Lib.hid (bstep C.out hcut.out)
          clear H2 HX HY
          go_wp2_with fail
          refine (drawOdd_any A n c _ (HC.out.below2 C.out) hn).mono ?_; rintro e w70 ⟨u, U, cu, nr, st, rfl, ⟨hlu, ho1⟩, hb⟩
          replace C := Lib.hid (bstep C.out hb)
          have HU := Lib.hid (RowAt.of_own ho1 encFe_len (by decide))
          obtain ⟨z2, hz2⟩ : ∃ z2, oddOK nr st u = z2 := ⟨_, rfl⟩
          have Z2 := Lib.hid hz2
          have hol := oddRes_le nr st u
          clear ho1 hb hz2
          go_wp2_with fail
          refine (iOdd_any u U cu nr st _ HU.out (by omega)).mono ?_; rw [Z2.out]; rintro e w71 ⟨A5, k5, rfl, ho, hb⟩
          replace C := Lib.hid (bstep C.out hb)
          replace HU := Lib.hid (RowAt.below HU.out hb)
          have H5 := Lib.hid (RowAt.of_own ho encI_len (by decide))
          clear hb
          clear ho
          go_wp2_with fail
          refine (sOdd_any u U cu nr st _ HU.out (by omega)).mono ?_; rw [Z2.out]; rintro e w72 ⟨A6, k6, rfl, ho, hb⟩
          replace C := Lib.hid (bstep C.out hb)
          replace HU := Lib.hid (RowAt.below HU.out hb)
          replace H5 := Lib.hid (RowAt.below H5.out hb)
          have H6 := Lib.hid (RowAt.of_own ho encI_len (by decide))
          clear hb
          clear ho
          go_wp2_with fail
          refine (drawIsFelt_any A n c _ (HC.out.below2 C.out) hn).mono ?_; rintro e w80 ⟨q, rfl, hb⟩
          replace C := Lib.hid (bstep C.out hb)
          replace H5 := Lib.hid (RowAt.below H5.out hb)
          replace H6 := Lib.hid (RowAt.below H6.out hb)
          clear hb
          go_upto_region 43 with fail
          have hx := balloc (bref w80) (.cells #[.int .i64 q.id, .int .i64 q.x, .int .i64 q.y, .int .i64 q.lv, .int .i64 q.pp] 25)
          have hq1 := fbox1 w80 q
          generalize w80.alloc (.cells #[.int .i64 q.id, .int .i64 q.x, .int .i64 q.y, .int .i64 q.lv, .int .i64 q.pp] 25) = w8x at hx hq1 ⊢
          replace C := Lib.hid (bstep C.out hx)
          replace H5 := Lib.hid (RowAt.below H5.out hx)
          replace H6 := Lib.hid (RowAt.below H6.out hx)
          have HV := Lib.hid (fun W (h : Below w8x.heap.size w8x W) => rInts_same (oddRes nr st u) A5 A6 k5 k6 W (RowAt.below H5.out h) (RowAt.below H6.out h) (by omega))
          obtain ⟨hbq, q0, q1, q2, q3, q4⟩ := hq1
          clear hx
          (refine wp_region_calm (by kernel_rfl) (by kernel_rfl) ?_; (repeat (go_big_quiet_step ((first | (go_at_call 54; with_reducible exact calm_of (HV.out _ (Ext.is _))) | (go_at_call 17; exact calm_of (isFelt_any _ _ _ _ _ _)) | (go_at_call 15; exact calm_of (sIsFelt_any _ _ _ _ _ _)))))); refine wpQuiet_nil ?_; intro xw; have hb9 := xw.is; generalize xw.w = w9 at hb9 ⊢; clear xw)
          go_wp2
          go_ret
          exact ⟨rfl, bstep C.out hb9⟩
  · go_enter Try.func13, Try.ntmps13
    go_wp2_with fail
    refine (rBig_any _ _ _ _).mono ?_; rintro e w' ⟨rfl, rfl⟩
    rw [decide_eq_true (show 65536 < (n : Int) by omega)]
    go_wp2
    go_ret
    exact ⟨rfl, bref _⟩
-- THE ROW --
set_option maxRecDepth 100000 in
theorem lawFnShaking_lifted (os : Os) (started : os.Started) (H : Type) (enc : TypeId × Value → H) :
    ReturnsInHanded {} Try.checked os 13 .any (Rows.fnShakingSpec.pre6 enc Try.prog Try.f13 Rows.fnShakingRow.domain false) (Rows.fnShakingSpec.post enc Try.prog Try.f13 false true false false) := by
  refine returnsInHanded_of_change (C := Try.checked) Try.own started (by kernel_rfl) Try.func13
    (ChangeSpec.witness6 (enc := enc) (C := Try.checked) false ⟨#[], #[.slice none 0 0], []⟩ 8 (by kernel_rfl) (by kernel_rfl) (by kernel_rfl) (by kernel_rfl)) ?_
  intro W base args ds gs before hval0 hW hcnd _
  have hval : ∀ (j : Nat) t v, Try.f13.params[j]? = some t → args[j]? = some v → Value.okWide Try.prog W .any base t v := hval0
  have hW' := hW
  obtain ⟨p, q, hA0, hV, hpq, hfz, hnd⟩ := hW
  have hA : DataW.TrodAll enc Try.prog W 0 (fun _ => true) true Try.f13.params.toList args.toList ds p := hA0
  rw [Try.params13] at hA hval
  obtain ⟨v0, vs0, d0, ds0, p0, q0, hargs, rfl, rfl, h0, r0⟩ := trodAll_cons hA
  obtain ⟨rfl, rfl, rfl⟩ := trodAll_nil r0
  obtain rfl : args = #[v0] := by cases args; simp_all
  obtain ⟨A0, n0, c0, rfl, hr0, hm0⟩ := rowU8 (hval 0 59 v0 rfl rfl) h0
  refine (lawShk_walk A0 n0 c0 W hr0 hm0).mono fun e W' ⟨he, hb⟩ => ?_
  subst he
  exact law_post Try.laidOut (by kernel_rfl) (by kernel_rfl) Try.underlying4 rfl ⟨rfl, rfl, rfl⟩ hW' hb

theorem lawFnShaking : Rows.FnShakingSaid :=
  OpenClaim.holds_of_wide 13 Try.f13 rfl rfl rfl rfl rfl rfl rfl ⟨rfl, rfl, rfl, rfl, rfl⟩ rfl rfl rfl rfl rfl (by kernel_rfl) Try.func13 (by kernel_rfl)
    (of_decide_eq_true (by kernel_rfl)) (by unfold Func.isWrapper; first | (rw [if_pos (by decide +kernel)]; kernel_rfl) | (rw [if_neg (by decide +kernel)]; exact ⟨rfl, rfl⟩))
    (fun os started H enc _ => lawFnShaking_lifted os started H enc)
end Go.Proofs.Ytjjinblahmcplaa
