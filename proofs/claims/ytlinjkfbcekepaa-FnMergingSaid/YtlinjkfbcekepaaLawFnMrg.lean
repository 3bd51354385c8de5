/-
  Proved here: for every code, a merged catalogue has all of the first one, and no more than both together (FnMerging returns true). No condition.
-/
import Derived.Test.YtlinjkfbcekepaaQuPl
import Derived.Test.YtlinjkfbcekepaaQuDrw2
import Derived.Test.YtlinjkfbcekepaaQuMrgI
import Derived.Test.YtlinjkfbcekepaaQuMrg
import Derived.Test.YtlinjkfbcekepaaQuVin
import Derived.Test.YtlinjkfbcekepaaVinB
import Derived.Test.YtlinjkfbcekepaaQuPutQ
import Derived.Test.YtlinjkfbcekepaaQuLngL
import Derived.Test.YtlinjkfbcekepaaQuIns
import Derived.Test.YtlinjkfbcekepaaByte
import Derived.Test.YtlinjkfbcekepaaBox4
namespace Go.Proofs.Ytlinjkfbcekepaa
set_option linter.unusedVariables false
set_option linter.unusedSimpArgs false
set_option linter.unnecessarySimpa false
open Go.RowKit Go.WideShapes Go.ChangeShapes Go.ChangeAt
attribute [local go_sem] ext_cell ext_frozen eqQ_run eqQ_guard isQ_mk eqQ_mk
def QBox (w : World) (g : Nat) (q : Qu) : Prop := g < w.heap.size ∧ w.cell? ⟨g, 0, none⟩ = some (.int .i64 q.tk) ∧ w.cell? ⟨g, 1, none⟩ = some (.int .i64 q.x) ∧ w.cell? ⟨g, 2, none⟩ = some (.int .i64 q.y) ∧ w.cell? ⟨g, 3, none⟩ = some (.int .i64 q.sz)
theorem QBox.below {w w' : World} {g : Nat} {q : Qu} (h : QBox w g q) (hb : Below w.heap.size w w') : QBox w' g q := by
  obtain ⟨h0, h1, h2, h3, h4⟩ := h
  exact ⟨Nat.lt_of_lt_of_le h0 hb.size, (hb.cell (p := ⟨g, 0, none⟩) h0).trans h1, (hb.cell (p := ⟨g, 1, none⟩) h0).trans h2, (hb.cell (p := ⟨g, 2, none⟩) h0).trans h3, (hb.cell (p := ⟨g, 3, none⟩) h0).trans h4⟩
theorem qbox1 (w : World) (q : Qu) : QBox (w.alloc (.cells #[.int .i64 q.tk, .int .i64 q.x, .int .i64 q.y, .int .i64 q.sz] 26)) w.heap.size q := by
  have h2 := box4_of (heap_new1 w (.cells #[.int .i64 q.tk, .int .i64 q.x, .int .i64 q.y, .int .i64 q.sz] 26))
  exact ⟨h2.1, h2.2.1⟩
theorem qbox2 (w : World) (p q : Qu) : QBox ((w.alloc (.cells #[.int .i64 p.tk, .int .i64 p.x, .int .i64 p.y, .int .i64 p.sz] 26)).alloc (.cells #[.int .i64 q.tk, .int .i64 q.x, .int .i64 q.y, .int .i64 q.sz] 26)) w.heap.size p ∧ QBox ((w.alloc (.cells #[.int .i64 p.tk, .int .i64 p.x, .int .i64 p.y, .int .i64 p.sz] 26)).alloc (.cells #[.int .i64 q.tk, .int .i64 q.x, .int .i64 q.y, .int .i64 q.sz] 26)) (w.heap.size + 1) q := by
  have h1 := box4_of (blk_alloc (heap_new1 w (.cells #[.int .i64 p.tk, .int .i64 p.x, .int .i64 p.y, .int .i64 p.sz] 26)) (.cells #[.int .i64 q.tk, .int .i64 q.x, .int .i64 q.y, .int .i64 q.sz] 26))
  have h2 := box4_of (heap_new1 (w.alloc (.cells #[.int .i64 p.tk, .int .i64 p.x, .int .i64 p.y, .int .i64 p.sz] 26)) (.cells #[.int .i64 q.tk, .int .i64 q.x, .int .i64 q.y, .int .i64 q.sz] 26))
  simp only [World.size_alloc] at h2
  exact ⟨⟨h1.1, h1.2.1⟩, ⟨h2.1, h2.2.1⟩⟩

theorem CodeAt.below2 {w w' : World} {A : Option Addr} {n : Nat} (h : CodeAt w A n) (hb : Below w.heap.size w w') : CodeAt w' A n := h.grown (only_of_below hb none) (fun _ _ _ e => by cases e)
set_option maxRecDepth 100000 in
set_option maxHeartbeats 16000000 in
theorem lawMrg_walk (A : Option Addr) (n c : Nat) (w : World) (hr : CodeAt w A n) (hm : n ≤ 9223372036854775807) :
    Calls Try.prog 13 #[.slice A n c] w fun e w' => e = .returned (.bool true) ∧ Below w.heap.size w w' := by
  have HC := Lib.hid hr
  clear hr
  by_cases hn : n ≤ 65536
  · go_enter Try.func13, Try.ntmps13
    go_wp2_with fail
    refine (vBig_any _ _ _ _).mono ?_; rintro e w' ⟨rfl, rfl⟩
    rw [decide_eq_false (show ¬ 65536 < (n : Int) by omega)]
    go_wp2_with fail
    refine (drawMrg_any A n c _ HC.out hn).mono ?_; rintro e w1 ⟨a, b, B, D, cb, cd, t, f, rfl, ⟨hla, hlb⟩, ho1, ho2, hb⟩
    have HA := Lib.hid (RowAt.of_own ho1 encQu_len (by decide))
    have HB := Lib.hid (RowAt.of_own ho2 encQu_len (by decide))
    have C := Lib.hid hb
    obtain ⟨M, hM⟩ : ∃ M, mrgL a b t f = M := ⟨_, rfl⟩
    obtain ⟨O, hO⟩ : ∃ O, mrgOK a b t f = O := ⟨_, rfl⟩
    have HM := Lib.hid hM
    have HO := Lib.hid hO
    have hMl : M.length ≤ 10 := by rw [← hM]; exact mrgL_le a b t f
    clear ho1 ho2 hb hM hO
    go_wp2_with fail
    refine (iMrg_any a b B D cb cd t f _ HA.out HB.out (by omega) (by omega)).mono ?_; rw [HM.out, HO.out]; rintro e w2 ⟨A2, k2, rfl, ho, hb⟩
    replace C := Lib.hid (bstep C.out hb)
    replace HA := Lib.hid (RowAt.below HA.out hb)
    replace HB := Lib.hid (RowAt.below HB.out hb)
    have H2 := Lib.hid (RowAt.of_own ho encQu_len (by decide))
    clear hb
    clear ho
    go_wp2_with fail
    refine (sMrg_any a b B D cb cd t f _ HA.out HB.out (by omega) (by omega)).mono ?_; rw [HM.out, HO.out]; rintro e w3 ⟨A3, k3, rfl, ho, hb⟩
    replace C := Lib.hid (bstep C.out hb)
    replace HA := Lib.hid (RowAt.below HA.out hb)
    replace HB := Lib.hid (RowAt.below HB.out hb)
    replace H2 := Lib.hid (RowAt.below H2.out hb)
    have H3 := Lib.hid (RowAt.of_own ho encQu_len (by decide))
    clear hb
    clear ho
    go_wp2_with fail
    refine (vQu_same M A2 A3 k2 k3 _ H2.out H3.out (by omega)).mono ?_; rintro e w4 ⟨rfl, hb⟩
    replace C := Lib.hid (bstep C.out hb)
    replace HA := Lib.hid (RowAt.below HA.out hb)
    replace HB := Lib.hid (RowAt.below HB.out hb)
    replace H2 := Lib.hid (RowAt.below H2.out hb)
    replace H3 := Lib.hid (RowAt.below H3.out hb)
    clear hb
    clear H3
    cases O
    case' false =>
      go_wp2_with fail
    case' true =>
      obtain ⟨hbo, hgm, hlen, hall⟩ := mrg_all HO.out
      rw [HM.out] at hgm hlen hall
      have HBO := Lib.hid hbo
      have HGM := Lib.hid hgm
      have HALL := Lib.hid hall
      have hlp := lngL_le a b t f
      clear hbo hgm hall
      go_wp2_with fail
      go_loopw [11] (fun i wr => ∃ k : Nat, k ≤ a.length ∧ i = .int .i64 k ∧ Hid (Below w4.heap.size w4 wr)) (fun i _ => a.length - (intOf i).toNat)
      case atStart => exact ⟨0, Nat.zero_le _, rfl, Lib.hid (bref _)⟩
      case' round =>
        obtain ⟨i, hi, rfl, HWr⟩ := hrel
        by_cases hlt : i < a.length
        case pos =>
          obtain ⟨x, hx⟩ := some_get hlt
          have i0 := ib0 i
          have i1 := ib1 hlt
          have HX := Lib.hid hx
          have HIN := Lib.hid (HALL.out x (List.mem_of_getElem? hx))
          clear hx
          obtain ⟨wo, rfl⟩ : ∃ wo : World, wo = wr := ⟨_, rfl⟩
          go_wp2_with fail
          go_loopw [12, 13] (fun vf j wi => ∃ (k : Nat) (F : Bool), k ≤ M.length ∧ j = .int .i64 k ∧ vf = .bool F ∧ Hid (F = decide (x ∈ M.take k)) ∧ Hid (Below wo.heap.size wo wi)) (fun _ j _ => M.length - (intOf j).toNat)
          case atStart => exact ⟨0, false, Nat.zero_le _, rfl, rfl, Lib.hid (by simp), Lib.hid (bref _)⟩
          case' round =>
            obtain ⟨k, F, hk, rfl, rfl, HF, HW⟩ := hrel
            by_cases hlk : k < M.length
            case pos =>
              obtain ⟨m, hm⟩ := some_get hlk
              have j0 := ib0 k
              have j1 := ib1 hlk
              have HMk := Lib.hid hm
              obtain ⟨b1, o1, e1, hb1, q0, q1, q2, q3⟩ := (RowAt.below H2.out (bstep HWr.out HW.out)).qu hm
              obtain ⟨b2, o2, e2, hb2, r0, r1, r2, r3⟩ := (RowAt.below HA.out (bstep HWr.out HW.out)).qu HX.out
              subst e1 e2
              clear hm
              cases F
              case true =>
                go_wp2_with fail
                (refine wp_region_calm (by kernel_rfl) (by kernel_rfl) ?_; (repeat (go_big_quiet_step ((fail)))); refine wpQuiet_nil ?_; intro xw; have hb7 := xw.is; generalize xw.w = w7 at hb7 ⊢; clear xw)
                go_wp2_with fail
                go_roundw
                case rel => exact ⟨k + 1, true, by omega, by go_num, rfl, Lib.hid (by have h := HF.out; rw [List.take_add_one, HMk.out]; simp at h ⊢; exact .inl h), Lib.hid (bstep HW.out hb7)⟩
                case measure => simp [intOf]; omega
              case false =>
                go_wp2_with fail
                (refine wp_region_calm (by kernel_rfl) (by kernel_rfl) ?_; (repeat (go_big_quiet_step ((fail)))); refine wpQuiet_nil ?_; intro xw; have hb7 := xw.is; generalize xw.w = w7 at hb7 ⊢; clear xw)
                go_wp2_with fail
                go_roundw
                case rel => exact ⟨k + 1, eqQ m x, by omega, by go_num, rfl, Lib.hid (by have h := HF.out; rw [List.take_add_one, HMk.out]; simp at h ⊢; rw [Bool.eq_iff_iff, eqQ_iff]; simp [h, eq_comm]), Lib.hid (bstep HW.out hb7)⟩
                case measure => simp [intOf]; omega
            obtain rfl : k = M.length := by omega
            have hFt : F = true := by rw [HF.out, List.take_length]; simpa using HIN.out
            subst hFt
            go_wp2_with fail
            go_roundw
            case rel => exact ⟨i + 1, by omega, by go_num, Lib.hid (bstep HWr.out HW.out)⟩
            case measure => simp [intOf]; omega
        obtain rfl : i = a.length := by omega
        replace C := Lib.hid (bstep C.out HWr.out)
        replace HA := Lib.hid (RowAt.below HA.out HWr.out)
        replace HB := Lib.hid (RowAt.below HB.out HWr.out)
        replace H2 := Lib.hid (RowAt.below H2.out HWr.out)
        go_wp2_with fail
        refine (iLng_any a b B D cb cd t f _ HA.out HB.out (by omega) (by omega)).mono ?_; rw [HBO.out]; rintro e w21 ⟨A4, k4, rfl, ho, hb⟩
        replace C := Lib.hid (bstep C.out hb)
        replace HA := Lib.hid (RowAt.below HA.out hb)
        replace HB := Lib.hid (RowAt.below HB.out hb)
        replace H2 := Lib.hid (RowAt.below H2.out hb)
        clear hb
        clear ho
        go_wp2_with fail
        refine (iIsCat_any M A2 k2 _ H2.out (by omega)).mono ?_; rw [HGM.out]; rintro e w22 ⟨rfl, hb⟩
        replace C := Lib.hid (bstep C.out hb)
        replace HA := Lib.hid (RowAt.below HA.out hb)
        replace HB := Lib.hid (RowAt.below HB.out hb)
        replace H2 := Lib.hid (RowAt.below H2.out hb)
        clear hb
        go_wp2_with fail
    all_goals
      refine (drawOnl_any A n c _ (HC.out.below2 C.out) hn).mono ?_; rintro e w30 ⟨x, y, X, Y, cx, cy, u, v, rfl, ⟨hlx, hly⟩, ho1, ho2, hb⟩
      replace C := Lib.hid (bstep C.out hb)
      have HX := Lib.hid (RowAt.of_own ho1 encQu_len (by decide))
      have HY := Lib.hid (RowAt.of_own ho2 encQu_len (by decide))
      obtain ⟨O2, hO2⟩ : ∃ O2, bothB x y u v = O2 := ⟨_, rfl⟩
      have HO2 := Lib.hid hO2
      have hon := onlyL_le x y u v
      have hma := matL_le x y u v
      have HMO := Lib.hid (mat_only x y u v)
      clear ho1 ho2 hb hO2
      go_wp2_with fail
      refine (iOnly_any x y X Y cx cy u v _ HX.out HY.out (by omega) (by omega)).mono ?_; rw [HO2.out]; rintro e w31 ⟨A5, k5, rfl, ho, hb⟩
      replace C := Lib.hid (bstep C.out hb)
      replace HX := Lib.hid (RowAt.below HX.out hb)
      replace HY := Lib.hid (RowAt.below HY.out hb)
      have H5 := Lib.hid (RowAt.of_own ho encI_len (by decide))
      clear hb
      clear ho
      go_wp2_with fail
      refine (sOnly_any x y X Y cx cy u v _ HX.out HY.out (by omega) (by omega)).mono ?_; rw [HO2.out]; rintro e w32 ⟨A6, k6, rfl, ho, hb⟩
      replace C := Lib.hid (bstep C.out hb)
      replace HX := Lib.hid (RowAt.below HX.out hb)
      replace HY := Lib.hid (RowAt.below HY.out hb)
      replace H5 := Lib.hid (RowAt.below H5.out hb)
      have H6 := Lib.hid (RowAt.of_own ho encI_len (by decide))
      clear hb
      clear ho
      go_wp2_with fail
      refine (vInts_same (onlyL x y u v) A5 A6 k5 k6 _ H5.out H6.out (by omega)).mono ?_; rintro e w33 ⟨rfl, hb⟩
      replace C := Lib.hid (bstep C.out hb)
      replace HX := Lib.hid (RowAt.below HX.out hb)
      replace HY := Lib.hid (RowAt.below HY.out hb)
      replace H5 := Lib.hid (RowAt.below H5.out hb)
      replace H6 := Lib.hid (RowAt.below H6.out hb)
      clear hb
      clear H6
      cases O2
      case' false =>
        go_wp2_with fail
      case' true =>
        go_wp2_with fail
        refine (iMat_any x y X Y cx cy u v _ HX.out HY.out (by omega) (by omega)).mono ?_; rw [HO2.out]; rintro e w41 ⟨A7, k7, rfl, ho, hb⟩
        replace C := Lib.hid (bstep C.out hb)
        replace HX := Lib.hid (RowAt.below HX.out hb)
        replace HY := Lib.hid (RowAt.below HY.out hb)
        replace H5 := Lib.hid (RowAt.below H5.out hb)
        have H7 := Lib.hid (RowAt.of_own ho encP2_len (by decide))
        clear hb
        clear ho
        go_wp2_with fail
        go_loopw [26] (fun i wr => ∃ k : Nat, k ≤ (matL x y u v).length ∧ i = .int .i64 k ∧ Hid (Below w41.heap.size w41 wr)) (fun i _ => (matL x y u v).length - (intOf i).toNat)
        case atStart => exact ⟨0, Nat.zero_le _, rfl, Lib.hid (bref _)⟩
        case' round =>
          obtain ⟨k, hk, rfl, HWr⟩ := hrel
          by_cases hlt : k < (matL x y u v).length
          case pos =>
            obtain ⟨m, hm⟩ := some_get hlt
            have i0 := ib0 k
            have i1 := ib1 hlt
            have hmn := HMO.out m (List.mem_of_getElem? hm)
            obtain ⟨b2, o2, e2, hb2, q0, q1⟩ := (RowAt.below H7.out HWr.out).p2 hm
            subst e2
            have HH := Lib.hid (by have h := vHas_any (onlyL x y u v) A5 k5 m.a _ (RowAt.below H5.out HWr.out) (by omega); rw [decide_eq_false hmn] at h; exact h)
            clear hm
            go_wp2_with (go_at_call 56; (with_reducible refine HH.out.mono ?_); rintro e w' ⟨rfl, rfl⟩)
            go_roundw
            case rel => exact ⟨k + 1, by omega, by go_num, HWr⟩
            case measure => simp [intOf]; omega
          obtain rfl : k = (matL x y u v).length := by omega
          replace C := Lib.hid (bstep C.out HWr.out)
          go_wp2_with fail
      all_goals
        refine (drawPut_any A n c _ (HC.out.below2 C.out) hn).mono ?_; rintro e w50 ⟨l, L, cl, q, rfl, hll, ho1, hb⟩
        replace C := Lib.hid (bstep C.out hb)
        have HL := Lib.hid (RowAt.of_own ho1 encQu_len (by decide))
        have HAF := Lib.hid (af_own ho1)
        have hcap := own_cap ho1
        obtain ⟨O3, hO3⟩ : ∃ O3, putOK l q = O3 := ⟨_, rfl⟩
        have HO3 := Lib.hid hO3
        have hpl := putL_le l q
        have hpl2 := putL_len l q
        clear ho1 hb hO3
        go_wp2_with fail
        have hx := balloc (bref w50) (.cells #[.int .i64 q.tk, .int .i64 q.x, .int .i64 q.y, .int .i64 q.sz] 26)
        have hq1 := qbox1 w50 q
        generalize w50.alloc (.cells #[.int .i64 q.tk, .int .i64 q.x, .int .i64 q.y, .int .i64 q.sz] 26) = w5x at hx hq1 ⊢
        replace C := Lib.hid (bstep C.out hx)
        replace HL := Lib.hid (RowAt.below HL.out hx)
        have HQ1 := Lib.hid hq1
        clear hx hq1
        refine (iPutQ_any l q L cl _ HL.out (by omega)).mono ?_; rw [HO3.out]; rintro e w51 ⟨A8, k8, rfl, ho, hb⟩
        replace C := Lib.hid (bstep C.out hb)
        replace HQ1 := Lib.hid (QBox.below HQ1.out hb)
        replace HL := Lib.hid (RowAt.below HL.out hb)
        have H8 := Lib.hid (RowAt.of_own ho encQu_len (by decide))
        clear hb
        clear ho
        obtain ⟨_, z0, z1, z2, z3⟩ := HQ1.out
        go_wp2_with fail
        refine (sPutQ_any l q L cl _ HL.out HAF.out hcap (by omega)).mono ?_; rw [HO3.out]; rintro e w52 ⟨A9, k9, rfl, ho, hb⟩
        replace C := Lib.hid (bstep C.out hb)
        replace HQ1 := Lib.hid (QBox.below HQ1.out hb)
        replace HL := Lib.hid (RowAt.below HL.out hb)
        replace H8 := Lib.hid (RowAt.below H8.out hb)
        have H9 := Lib.hid (RowAt.of_own ho encQu_len (by decide))
        clear hb
        clear ho
        go_wp2_with fail
        refine (vQu_same (putL l q) A8 A9 k8 k9 _ H8.out H9.out (by omega)).mono ?_; rintro e w53 ⟨rfl, hb⟩
        replace C := Lib.hid (bstep C.out hb)
        replace HQ1 := Lib.hid (QBox.below HQ1.out hb)
        replace HL := Lib.hid (RowAt.below HL.out hb)
        replace H8 := Lib.hid (RowAt.below H8.out hb)
        replace H9 := Lib.hid (RowAt.below H9.out hb)
        clear hb
        cases O3
        case false =>
          go_wp2
          go_ret
          exact ⟨rfl, C.out⟩
        case true =>
          obtain ⟨hpn, hpg⟩ := put_all HO3.out
          have hpn2 : ((putL l q).length : Int) = (l.length : Int) + 1 := by omega
          have HPG := Lib.hid hpg
          clear hpg hpn
          go_wp2_with fail
          have h5 := iIsCat_any (putL l q) A8 k8 _ H8.out (by omega)
          rw [HPG.out] at h5
          refine h5.mono ?_; rintro e w70 ⟨rfl, hb⟩
          replace C := Lib.hid (bstep C.out hb)
          clear hb h5
          go_wp2
          go_ret
          exact ⟨rfl, C.out⟩
  · go_enter Try.func13, Try.ntmps13
    go_wp2_with fail
    refine (vBig_any _ _ _ _).mono ?_; rintro e w' ⟨rfl, rfl⟩
    rw [decide_eq_true (show 65536 < (n : Int) by omega)]
    go_wp2
    go_ret
    exact ⟨rfl, bref _⟩
-- THE ROW --
set_option maxRecDepth 100000 in
theorem lawFnMerging_lifted (os : Os) (started : os.Started) (H : Type) (enc : TypeId × Value → H) :
    ReturnsInHanded {} Try.checked os 13 .any (Rows.fnMergingSpec.pre6 enc Try.prog Try.f13 Rows.fnMergingRow.domain false) (Rows.fnMergingSpec.post enc Try.prog Try.f13 false true false false) := by
  refine returnsInHanded_of_change (C := Try.checked) Try.own started (by kernel_rfl) Try.func13
    (ChangeSpec.witness6 (enc := enc) (C := Try.checked) false ⟨#[], #[.slice none 0 0], []⟩ 8 (by kernel_rfl) (by kernel_rfl) (by kernel_rfl) (by kernel_rfl)) ?_
  intro W base args ds gs before hval0 hW hcnd _
  have hval : ∀ (j : Nat) t v, Try.f13.params[j]? = some t → args[j]? = some v → Value.okWide Try.prog W .any base t v := hval0
  have hW' := hW
  obtain ⟨p, q, hA0, hV, hpq, hfz, hnd⟩ := hW
  have hA : DataW.TrodAll enc Try.prog W 0 (fun _ => true) true Try.f13.params.toList args.toList ds p := hA0
  rw [Try.params13] at hA hval
  obtain ⟨v0, vs0, d0, ds0, p0, q0, hargs, rfl, rfl, h0, r0⟩ := trodAll_cons hA
  obtain ⟨rfl, rfl, rfl⟩ := trodAll_nil r0
  obtain rfl : args = #[v0] := by cases args; simp_all
  obtain ⟨A0, n0, c0, rfl, hr0, hm0⟩ := rowU8 (hval 0 29 v0 rfl rfl) h0
  refine (lawMrg_walk A0 n0 c0 W hr0 hm0).mono fun e W' ⟨he, hb⟩ => ?_
  subst he
  exact law_post Try.laidOut (by kernel_rfl) (by kernel_rfl) Try.underlying4 rfl ⟨rfl, rfl, rfl⟩ hW' hb

theorem lawFnMerging : Rows.FnMergingSaid :=
  OpenClaim.holds_of_wide 13 Try.f13 rfl rfl rfl rfl rfl rfl rfl ⟨rfl, rfl, rfl, rfl, rfl⟩ rfl rfl rfl rfl rfl (by kernel_rfl) Try.func13 (by kernel_rfl)
    (of_decide_eq_true (by kernel_rfl)) (by unfold Func.isWrapper; first | (rw [if_pos (by decide +kernel)]; kernel_rfl) | (rw [if_neg (by decide +kernel)]; exact ⟨rfl, rfl⟩))
    (fun os started H enc _ => lawFnMerging_lifted os started H enc)
end Go.Proofs.Ytlinjkfbcekepaa
