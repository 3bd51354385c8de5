/-
  Proved here: for every argument, impl.IsPairing and spec.IsPairing answer alike and leave the arguments as they were (FnExactIsPairing returns true). No condition.
-/
import Derived.Test.YtlinjkfbcekepaaQuPairI
import Derived.Test.YtlinjkfbcekepaaQuSz
import Derived.Test.YtlinjkfbcekepaaP2Sz
import Derived.Test.YtlinjkfbcekepaaQuRow
import Derived.Test.YtlinjkfbcekepaaP2Row
namespace Go.Proofs.Ytlinjkfbcekepaa
open Go.RowKit Go.WideShapes Go.ChangeShapes Go.ChangeAt

set_option maxRecDepth 100000 in
set_option maxHeartbeats 2000000 in
theorem lawIsPairing_walk (l0 : List Qu) (A0 : Option Addr) (c0 : Nat) (l1 : List Qu) (A1 : Option Addr) (c1 : Nat) (a2 : Int) (a3 : Int) (l4 : List P2) (A4 : Option Addr) (c4 : Nat) (w : World) (hr0 : RowAt 4 encQu w A0 l0) (hm0 : l0.length ≤ 9223372036854775807) (hr1 : RowAt 4 encQu w A1 l1) (hm1 : l1.length ≤ 9223372036854775807) (b2 : -9223372036854775808 ≤ a2 ∧ a2 ≤ 9223372036854775807) (b3 : -9223372036854775808 ≤ a3 ∧ a3 ≤ 9223372036854775807) (hr4 : RowAt 2 encP2 w A4 l4) (hm4 : l4.length ≤ 9223372036854775807) :
    Calls Try.prog 6 #[.slice A0 l0.length c0, .slice A1 l1.length c1, .int .i64 a2, .int .i64 a3, .slice A4 l4.length c4] w fun e w' => e = .returned (.bool true) ∧ Below w.heap.size w w' := by
  have hr0' := Lib.hid hr0
  have hr1' := Lib.hid hr1
  have hr4' := Lib.hid hr4
  clear hr0 hr1 hr4
  by_cases hl0 : l0.length ≤ 1048576
  · skip
    by_cases hl1 : l0.length + l1.length ≤ 1048576
    · skip
      by_cases hl4 : l0.length + l1.length + l4.length ≤ 1048576
      · skip
        go_enter Try.func6, Try.ntmps6
        go_wp2_with fail
        refine (szQuS_in _ l0.length _ (1048576) _ (by omega) (by omega)).mono ?_; rintro e w' ⟨rfl, rfl⟩
        go_wp2_with fail
        refine (szQuS_in _ l1.length _ (1048576 - (l0.length : Int)) _ (by omega) (by omega)).mono ?_; rintro e w' ⟨rfl, rfl⟩
        go_wp2_with fail
        refine (szP2S_in _ l4.length _ (1048576 - (l0.length : Int) - (l1.length : Int)) _ (by omega) (by omega)).mono ?_; rintro e w' ⟨rfl, rfl⟩
        go_wp2_with fail
        refine (toQuS_any l0 _ _ _ hr0'.out (by omega)).mono ?_; rintro e w1 ⟨A21, c21, rfl, ho1, hb1⟩
        have hx1 := Lib.hid (RowAt.of_own ho1 encQu_len (by omega))
        have kc1 := own_cap ho1
        clear ho1
        go_wp2_with fail
        refine (toQuS_any l1 _ _ _ (RowAt.below hr1'.out hb1) (by omega)).mono ?_; rintro e w2 ⟨A22, c22, rfl, ho2, hb2⟩
        have hx2 := Lib.hid (RowAt.of_own ho2 encQu_len (by omega))
        have kc2 := own_cap ho2
        clear ho2
        go_wp2_with fail
        refine (toP2S_any l4 _ _ _ (RowAt.below hr4'.out (bstep hb1 hb2)) (by omega)).mono ?_; rintro e w3 ⟨A23, c23, rfl, ho3, hb3⟩
        have hx3 := Lib.hid (RowAt.of_own ho3 encP2_len (by omega))
        have kc3 := own_cap ho3
        clear ho3
        go_wp2_with fail
        refine (sPair_any l0 l1 _ _ _ _ _ _ a2 a3 l4 _ (RowAt.below hx1.out (bstep hb2 hb3)) (RowAt.below hx2.out hb3) hx3.out (by omega) (by omega) (by omega)).mono ?_; rintro e w4 ⟨rfl, hb4⟩
        go_wp2_with fail
        refine (toQuS_any l0 _ _ _ (RowAt.below hr0'.out (bstep (bstep (bstep hb1 hb2) hb3) hb4)) (by omega)).mono ?_; rintro e w5 ⟨A25, c25, rfl, ho5, hb5⟩
        have hx5 := Lib.hid (RowAt.of_own ho5 encQu_len (by omega))
        have kc5 := own_cap ho5
        clear ho5
        go_wp2_with fail
        refine (toQuS_any l1 _ _ _ (RowAt.below hr1'.out (bstep (bstep (bstep (bstep hb1 hb2) hb3) hb4) hb5)) (by omega)).mono ?_; rintro e w6 ⟨A26, c26, rfl, ho6, hb6⟩
        have hx6 := Lib.hid (RowAt.of_own ho6 encQu_len (by omega))
        have kc6 := own_cap ho6
        clear ho6
        go_wp2_with fail
        refine (toP2S_any l4 _ _ _ (RowAt.below hr4'.out (bstep (bstep (bstep (bstep (bstep hb1 hb2) hb3) hb4) hb5) hb6)) (by omega)).mono ?_; rintro e w7 ⟨A27, c27, rfl, ho7, hb7⟩
        have hx7 := Lib.hid (RowAt.of_own ho7 encP2_len (by omega))
        have kc7 := own_cap ho7
        clear ho7
        go_wp2_with fail
        refine (iPair_any l0 l1 _ _ _ _ _ _ a2 a3 l4 _ (RowAt.below hx5.out (bstep hb6 hb7)) (RowAt.below hx6.out hb7) hx7.out (by omega) (by omega) (by omega)).mono ?_; rintro e w8 ⟨rfl, hb8⟩
        go_wp2_with fail
        refine (toQuS_any l0 _ _ _ (RowAt.below hr0'.out (bstep (bstep (bstep (bstep (bstep (bstep (bstep hb1 hb2) hb3) hb4) hb5) hb6) hb7) hb8)) (by omega)).mono ?_; rintro e w9 ⟨A29, c29, rfl, ho9, hb9⟩
        have hx9 := Lib.hid (RowAt.of_own ho9 encQu_len (by omega))
        have kc9 := own_cap ho9
        clear ho9
        go_wp2_with fail
        refine (eqQuS_same l0 _ _ _ _ _ (RowAt.below hx5.out (bstep (bstep (bstep hb6 hb7) hb8) hb9)) hx9.out (by omega)).mono ?_; rintro e w10 ⟨rfl, hb10⟩
        go_wp2_with fail
        refine (toQuS_any l1 _ _ _ (RowAt.below hr1'.out (bstep (bstep (bstep (bstep (bstep (bstep (bstep (bstep (bstep hb1 hb2) hb3) hb4) hb5) hb6) hb7) hb8) hb9) hb10)) (by omega)).mono ?_; rintro e w11 ⟨A31, c31, rfl, ho11, hb11⟩
        have hx11 := Lib.hid (RowAt.of_own ho11 encQu_len (by omega))
        have kc11 := own_cap ho11
        clear ho11
        go_wp2_with fail
        refine (eqQuS_same l1 _ _ _ _ _ (RowAt.below hx6.out (bstep (bstep (bstep (bstep hb7 hb8) hb9) hb10) hb11)) hx11.out (by omega)).mono ?_; rintro e w12 ⟨rfl, hb12⟩
        go_wp2_with fail
        refine (toP2S_any l4 _ _ _ (RowAt.below hr4'.out (bstep (bstep (bstep (bstep (bstep (bstep (bstep (bstep (bstep (bstep (bstep hb1 hb2) hb3) hb4) hb5) hb6) hb7) hb8) hb9) hb10) hb11) hb12)) (by omega)).mono ?_; rintro e w13 ⟨A33, c33, rfl, ho13, hb13⟩
        have hx13 := Lib.hid (RowAt.of_own ho13 encP2_len (by omega))
        have kc13 := own_cap ho13
        clear ho13
        go_wp2_with fail
        refine (eqP2S_same l4 _ _ _ _ _ (RowAt.below hx7.out (bstep (bstep (bstep (bstep (bstep hb8 hb9) hb10) hb11) hb12) hb13)) hx13.out (by omega)).mono ?_; rintro e w14 ⟨rfl, hb14⟩
        go_wp2
        go_ret
        exact ⟨rfl, (bstep (bstep (bstep (bstep (bstep (bstep (bstep (bstep (bstep (bstep (bstep (bstep (bstep hb1 hb2) hb3) hb4) hb5) hb6) hb7) hb8) hb9) hb10) hb11) hb12) hb13) hb14)⟩
      · go_enter Try.func6, Try.ntmps6
        go_wp2_with fail
        refine (szQuS_in _ l0.length _ (1048576) _ (by omega) (by omega)).mono ?_; rintro e w' ⟨rfl, rfl⟩
        go_wp2_with fail
        refine (szQuS_in _ l1.length _ (1048576 - (l0.length : Int)) _ (by omega) (by omega)).mono ?_; rintro e w' ⟨rfl, rfl⟩
        go_wp2_with fail
        refine (szP2S_out _ l4.length _ (1048576 - (l0.length : Int) - (l1.length : Int)) _ (by omega) (by omega) (by omega)).mono ?_; rintro e w' ⟨rfl, rfl⟩
        go_wp2
        go_ret
        exact ⟨rfl, (by repeat (first | exact bref _ | (refine balloc ?_ _) | (refine bdrew ?_) | (refine bdrewN ?_ _) | (refine bstep ?_ (by assumption))))⟩
    · go_enter Try.func6, Try.ntmps6
      go_wp2_with fail
      refine (szQuS_in _ l0.length _ (1048576) _ (by omega) (by omega)).mono ?_; rintro e w' ⟨rfl, rfl⟩
      go_wp2_with fail
      refine (szQuS_out _ l1.length _ (1048576 - (l0.length : Int)) _ (by omega) (by omega) (by omega)).mono ?_; rintro e w' ⟨rfl, rfl⟩
      go_wp2
      go_ret
      exact ⟨rfl, (by repeat (first | exact bref _ | (refine balloc ?_ _) | (refine bdrew ?_) | (refine bdrewN ?_ _) | (refine bstep ?_ (by assumption))))⟩
  · go_enter Try.func6, Try.ntmps6
    go_wp2_with fail
    refine (szQuS_out _ l0.length _ (1048576) _ (by omega) (by omega) (by omega)).mono ?_; rintro e w' ⟨rfl, rfl⟩
    go_wp2
    go_ret
    exact ⟨rfl, (by repeat (first | exact bref _ | (refine balloc ?_ _) | (refine bdrew ?_) | (refine bdrewN ?_ _) | (refine bstep ?_ (by assumption))))⟩

-- THE ROW --
set_option maxRecDepth 100000 in
theorem lawIsPairing_lifted (os : Os) (started : os.Started) (H : Type) (enc : TypeId × Value → H) :
    ReturnsInHanded {} Try.checked os 6 .any (Rows.fnExactIsPairingSpec.pre6 enc Try.prog Try.f6 Rows.fnExactIsPairingRow.domain false) (Rows.fnExactIsPairingSpec.post enc Try.prog Try.f6 false true false false) := by
  refine returnsInHanded_of_change (C := Try.checked) Try.own started (by kernel_rfl) Try.func6
    (ChangeSpec.witness6 (enc := enc) (C := Try.checked) false ⟨#[], #[.slice none 0 0, .slice none 0 0, .int .i64 0, .int .i64 0, .slice none 0 0], []⟩ 8 (by kernel_rfl) (by kernel_rfl) (by kernel_rfl) (by kernel_rfl)) ?_
  intro W base args ds gs before hval0 hW hcnd _
  have hval : ∀ (j : Nat) t v, Try.f6.params[j]? = some t → args[j]? = some v → Value.okWide Try.prog W .any base t v := hval0
  have hW' := hW
  obtain ⟨p, q, hA0, hV, hpq, hfz, hnd⟩ := hW
  have hA : DataW.TrodAll enc Try.prog W 0 (fun _ => true) true Try.f6.params.toList args.toList ds p := hA0
  rw [Try.params6] at hA hval
  obtain ⟨v0, vs0, d0, ds0, p0, q0, hargs, rfl, rfl, h0, r0⟩ := trodAll_cons hA
  obtain ⟨v1, vs1, d1, ds1, p1, q1, rfl, rfl, rfl, h1, r1⟩ := trodAll_cons r0
  obtain ⟨v2, vs2, d2, ds2, p2, q2, rfl, rfl, rfl, h2, r2⟩ := trodAll_cons r1
  obtain ⟨v3, vs3, d3, ds3, p3, q3, rfl, rfl, rfl, h3, r3⟩ := trodAll_cons r2
  obtain ⟨v4, vs4, d4, ds4, p4, q4, rfl, rfl, rfl, h4, r4⟩ := trodAll_cons r3
  obtain ⟨rfl, rfl, rfl⟩ := trodAll_nil r4
  obtain rfl : args = #[v0, v1, v2, v3, v4] := by cases args; simp_all
  obtain ⟨l0, A0, c0, rfl, hr0, hm0⟩ := rowQu (hval 0 46 v0 rfl rfl) h0
  obtain ⟨l1, A1, c1, rfl, hr1, hm1⟩ := rowQu (hval 1 46 v1 rfl rfl) h1
  obtain ⟨a2, rfl, rfl, rfl, w2⟩ := open_int Try.underlying3 (hval 2 3 v2 rfl rfl) h2
  have b2 := bounds_i64 w2
  obtain ⟨a3, rfl, rfl, rfl, w3⟩ := open_int Try.underlying3 (hval 3 3 v3 rfl rfl) h3
  have b3 := bounds_i64 w3
  obtain ⟨l4, A4, c4, rfl, hr4, hm4⟩ := rowP2 (hval 4 34 v4 rfl rfl) h4
  refine (lawIsPairing_walk l0 A0 c0 l1 A1 c1 a2 a3 l4 A4 c4 W hr0 hm0 hr1 hm1 b2 b3 hr4 hm4).mono fun e W' ⟨he, hb⟩ => ?_
  subst he
  exact law_post Try.laidOut (by kernel_rfl) (by kernel_rfl) Try.underlying4 rfl ⟨rfl, rfl, rfl⟩ hW' hb

theorem lawIsPairing : Rows.FnExactIsPairingSaid :=
  OpenClaim.holds_of_wide 6 Try.f6 rfl rfl rfl rfl rfl rfl rfl ⟨rfl, rfl, rfl, rfl, rfl⟩ rfl rfl rfl rfl rfl (by kernel_rfl) Try.func6 (by kernel_rfl)
    (of_decide_eq_true (by kernel_rfl)) (by unfold Func.isWrapper; first | (rw [if_pos (by decide +kernel)]; kernel_rfl) | (rw [if_neg (by decide +kernel)]; exact ⟨rfl, rfl⟩))
    (fun os started H enc _ => lawIsPairing_lifted os started H enc)
end Go.Proofs.Ytlinjkfbcekepaa
