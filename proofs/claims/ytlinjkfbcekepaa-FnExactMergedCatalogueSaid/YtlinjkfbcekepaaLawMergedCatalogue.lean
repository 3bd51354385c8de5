/-
  Proved here: for every argument, impl.MergedCatalogue and spec.MergedCatalogue answer alike and leave the arguments as they were, and the result shares no memory (FnExactMergedCatalogue returns true). No condition.
-/
import Derived.Test.YtlinjkfbcekepaaQuMrgI
import Derived.Test.YtlinjkfbcekepaaQuSz
import Derived.Test.YtlinjkfbcekepaaQuRow
namespace Go.Proofs.Ytlinjkfbcekepaa
set_option linter.unusedVariables false
set_option linter.unusedSimpArgs false
set_option linter.unnecessarySimpa false
open Go.RowKit Go.WideShapes Go.ChangeShapes Go.ChangeAt

set_option maxRecDepth 100000 in
set_option maxHeartbeats 8000000 in
theorem lawMergedCatalogue_walk (l0 : List Qu) (A0 : Option Addr) (c0 : Nat) (l1 : List Qu) (A1 : Option Addr) (c1 : Nat) (a2 : Int) (a3 : Int) (w : World) (hr0 : RowAt 4 encQu w A0 l0) (hm0 : l0.length ≤ 9223372036854775807) (hr1 : RowAt 4 encQu w A1 l1) (hm1 : l1.length ≤ 9223372036854775807) (b2 : -9223372036854775808 ≤ a2 ∧ a2 ≤ 9223372036854775807) (b3 : -9223372036854775808 ≤ a3 ∧ a3 ≤ 9223372036854775807) :
    Calls Try.prog 12 #[.slice A0 l0.length c0, .slice A1 l1.length c1, .int .i64 a2, .int .i64 a3] w fun e w' => e = .returned (.bool true) ∧ Below w.heap.size w w' := by
  have hr0' := Lib.hid hr0
  have hr1' := Lib.hid hr1
  clear hr0 hr1
  by_cases hl0 : l0.length ≤ 1048576
  · skip
    by_cases hl1 : l0.length + l1.length ≤ 1048576
    · skip
      have hn : (mrgL l0 l1 a2 a3).length ≤ 2097152 := by have := mrgL_le l0 l1 a2 a3; omega
      go_enter Try.func12, Try.ntmps12
      go_wp2_with fail
      refine (szQuS_in _ l0.length _ (1048576) _ (by omega) (by omega)).mono ?_; rintro e w' ⟨rfl, rfl⟩
      go_wp2_with fail
      refine (szQuS_in _ l1.length _ (1048576 - (l0.length : Int)) _ (by omega) (by omega)).mono ?_; rintro e w' ⟨rfl, rfl⟩
      go_wp2_with fail
      refine (toQuS_any l0 _ _ _ hr0'.out (by omega)).mono ?_; rintro e w1 ⟨A21, c21, rfl, ho1, hb1⟩
      have hx1 := Lib.hid (RowAt.of_own ho1 encQu_len (by omega))
      have kc1 := own_cap ho1
      clear ho1
      go_wp2_with fail
      refine (toQuS_any l1 _ _ _ (RowAt.below hr1'.out hb1) (by omega)).mono ?_; rintro e w2 ⟨A22, c22, rfl, ho2, hb2⟩
      have hx2 := Lib.hid (RowAt.of_own ho2 encQu_len (by omega))
      have kc2 := own_cap ho2
      clear ho2
      go_wp2_with fail
      refine (sMrg_any l0 l1 _ _ _ _ a2 a3 _ (RowAt.below hx1.out hb2) hx2.out (by omega) (by omega)).mono ?_; rintro e w3 ⟨A23, c23, rfl, ho3, hb3⟩
      have hw := Lib.hid (RowAt.of_own ho3 encQu_len (by omega))
      clear ho3
      go_wp2_with fail
      refine (toQuS_any l0 _ _ _ (RowAt.below hr0'.out (bstep (bstep hb1 hb2) hb3)) (by omega)).mono ?_; rintro e w4 ⟨A24, c24, rfl, ho4, hb4⟩
      have hx4 := Lib.hid (RowAt.of_own ho4 encQu_len (by omega))
      have kc4 := own_cap ho4
      have ho4 := Lib.hid ho4
      go_wp2_with fail
      refine (toQuS_any l1 _ _ _ (RowAt.below hr1'.out (bstep (bstep (bstep hb1 hb2) hb3) hb4)) (by omega)).mono ?_; rintro e w5 ⟨A25, c25, rfl, ho5, hb5⟩
      have hx5 := Lib.hid (RowAt.of_own ho5 encQu_len (by omega))
      have kc5 := own_cap ho5
      have ho5 := Lib.hid ho5
      go_wp2_with fail
      refine (iMrg_any l0 l1 _ _ _ _ a2 a3 _ (RowAt.below hx4.out hb5) hx5.out (by omega) (by omega)).mono ?_; rintro e w6 ⟨A26, c26, rfl, ho6, hb6⟩
      have hg6 := Lib.hid (RowAt.of_own ho6 encQu_len (by omega))
      have ho6 := Lib.hid ho6
      go_wp2_with fail
      refine (eqQuS_same (mrgL l0 l1 a2 a3) _ _ _ _ _ hg6.out (RowAt.below hw.out (bstep (bstep hb4 hb5) hb6)) (by omega)).mono ?_; rintro e w7 ⟨rfl, hb7⟩
      go_wp2_with fail
      refine (toQuS_any l0 _ _ _ (RowAt.below hr0'.out (bstep (bstep (bstep (bstep (bstep (bstep hb1 hb2) hb3) hb4) hb5) hb6) hb7)) (by omega)).mono ?_; rintro e w8 ⟨A28, c28, rfl, ho8, hb8⟩
      have hx8 := Lib.hid (RowAt.of_own ho8 encQu_len (by omega))
      have kc8 := own_cap ho8
      clear ho8
      go_wp2_with fail
      refine (eqQuS_same l0 _ _ _ _ _ (RowAt.below hx4.out (bstep (bstep (bstep hb5 hb6) hb7) hb8)) hx8.out (by omega)).mono ?_; rintro e w9 ⟨rfl, hb9⟩
      go_wp2_with fail
      refine (toQuS_any l1 _ _ _ (RowAt.below hr1'.out (bstep (bstep (bstep (bstep (bstep (bstep (bstep (bstep hb1 hb2) hb3) hb4) hb5) hb6) hb7) hb8) hb9)) (by omega)).mono ?_; rintro e w10 ⟨A30, c30, rfl, ho10, hb10⟩
      have hx10 := Lib.hid (RowAt.of_own ho10 encQu_len (by omega))
      have kc10 := own_cap ho10
      clear ho10
      go_wp2_with fail
      refine (eqQuS_same l1 _ _ _ _ _ (RowAt.below hx5.out (bstep (bstep (bstep (bstep hb6 hb7) hb8) hb9) hb10)) hx10.out (by omega)).mono ?_; rintro e w11 ⟨rfl, hb11⟩
      go_wp2_with fail
      refine (markQuS_any (1) _ _ _ _ _ _ (own_below ho4.out (bstep (bstep (bstep (bstep (bstep (bstep hb5 hb6) hb7) hb8) hb9) hb10) hb11)) (by omega) (by omega) (by omega)).mono ?_; rintro e w12 ⟨rfl, hm12, hgr12⟩
      have r4 := row_mine ho4.out
      have t4 := ho4.out.lt
      have hox112 := Lib.hid (World.ownsRow.kept (own_below ho5.out (bstep (bstep (bstep (bstep (bstep hb6 hb7) hb8) hb9) hb10) hb11)) hgr12 (own_apart ho5.out (fun k hk => (t4 k hk).2)))
      have hog12 := Lib.hid (World.ownsRow.kept (own_below ho6.out (bstep (bstep (bstep (bstep hb7 hb8) hb9) hb10) hb11)) hgr12 (own_apart ho6.out (fun k hk => Nat.lt_of_lt_of_le (t4 k hk).2 hb5.size)))
      clear hm12
      go_wp2_with fail
      refine (markQuS_any (1 + 4 * (l0.length : Int)) _ _ _ _ _ _ hox112.out (by omega) (by omega) (by omega)).mono ?_; rintro e w13 ⟨rfl, hm13, hgr13⟩
      have r5 := row_mine ho5.out
      have t5 := ho5.out.lt
      have hog13 := Lib.hid (World.ownsRow.kept hog12.out hgr13 (own_apart ho6.out (fun k hk => (t5 k hk).2)))
      clear hm13
      go_wp2_with fail
      have hg13 := Lib.hid (RowAt.of_own hog13.out encQu_len (by omega))
      refine (eqQuS_same (mrgL l0 l1 a2 a3) _ _ _ _ _ hg13.out (RowAt.below hw.out (bgrown (bgrown (bstep (bstep (bstep (bstep (bstep (bstep (bstep hb4 hb5) hb6) hb7) hb8) hb9) hb10) hb11) hgr12 r4) hgr13 (fun k hk => Nat.le_trans hb4.size (r5 k hk)))) (by omega)).mono ?_; rintro e w14 ⟨rfl, hb14⟩
      go_wp2_with fail
      refine (markQuS_any 1 _ _ _ _ _ _ (own_below hog13.out hb14) (by omega) (by omega) (by omega)).mono ?_; rintro e w15 ⟨rfl, hm15, hgr15⟩
      have r6 := row_mine ho6.out
      have t6 := ho6.out.lt
      have hmm := Lib.hid (RowAt.of_own hm15 encQu_len (by omega))
      clear hm15
      go_wp2_with fail
      refine (heldQuS_any 1 _ _ _ _ hmm.out (by omega) (by omega) (by omega)).mono ?_; rintro e w' ⟨rfl, rfl⟩
      go_wp2_with fail
      refine (toQuS_any l0 _ _ _ (RowAt.below hr0'.out (bgrown (bstep (bgrown (bgrown (bstep (bstep (bstep (bstep (bstep (bstep (bstep (bstep (bstep (bstep hb1 hb2) hb3) hb4) hb5) hb6) hb7) hb8) hb9) hb10) hb11) hgr12 (fun k hk => Nat.le_trans (bstep (bstep hb1 hb2) hb3).size (r4 k hk))) hgr13 (fun k hk => Nat.le_trans (bstep (bstep (bstep hb1 hb2) hb3) hb4).size (r5 k hk))) hb14) hgr15 (fun k hk => Nat.le_trans (bstep (bstep (bstep (bstep hb1 hb2) hb3) hb4) hb5).size (r6 k hk)))) (by omega)).mono ?_; rintro e w16 ⟨A36, c36, rfl, ho16, hb16⟩
      have hx16 := Lib.hid (RowAt.of_own ho16 encQu_len (by omega))
      have kc16 := own_cap ho16
      clear ho16
      go_wp2_with fail
      refine (toQuS_any l1 _ _ _ (RowAt.below hr1'.out (bstep (bgrown (bstep (bgrown (bgrown (bstep (bstep (bstep (bstep (bstep (bstep (bstep (bstep (bstep (bstep hb1 hb2) hb3) hb4) hb5) hb6) hb7) hb8) hb9) hb10) hb11) hgr12 (fun k hk => Nat.le_trans (bstep (bstep hb1 hb2) hb3).size (r4 k hk))) hgr13 (fun k hk => Nat.le_trans (bstep (bstep (bstep hb1 hb2) hb3) hb4).size (r5 k hk))) hb14) hgr15 (fun k hk => Nat.le_trans (bstep (bstep (bstep (bstep hb1 hb2) hb3) hb4) hb5).size (r6 k hk))) hb16)) (by omega)).mono ?_; rintro e w17 ⟨A37, c37, rfl, ho17, hb17⟩
      have hx17 := Lib.hid (RowAt.of_own ho17 encQu_len (by omega))
      have kc17 := own_cap ho17
      clear ho17
      go_wp2_with fail
      refine (iMrg_any l0 l1 _ _ _ _ a2 a3 _ (RowAt.below hx16.out hb17) hx17.out (by omega) (by omega)).mono ?_; rintro e w18 ⟨A38, c38, rfl, ho18, hb18⟩
      have hg18 := Lib.hid (RowAt.of_own ho18 encQu_len (by omega))
      clear ho18
      go_wp2_with fail
      refine (eqQuS_same (mrgL l0 l1 a2 a3) _ _ _ _ _ hg18.out (RowAt.below hw.out (bstep (bstep (bstep (bgrown (bstep (bgrown (bgrown (bstep (bstep (bstep (bstep (bstep (bstep (bstep hb4 hb5) hb6) hb7) hb8) hb9) hb10) hb11) hgr12 r4) hgr13 (fun k hk => Nat.le_trans hb4.size (r5 k hk))) hb14) hgr15 (fun k hk => Nat.le_trans (bstep hb4 hb5).size (r6 k hk))) hb16) hb17) hb18)) (by omega)).mono ?_; rintro e w19 ⟨rfl, hb19⟩
      go_wp2_with fail
      refine (heldQuS_any 1 _ _ _ _ (RowAt.below hmm.out (bstep (bstep (bstep hb16 hb17) hb18) hb19)) (by omega) (by omega) (by omega)).mono ?_; rintro e w' ⟨rfl, rfl⟩
      go_wp2
      go_ret
      exact ⟨rfl, (bstep (bstep (bstep (bstep (bgrown (bstep (bgrown (bgrown (bstep (bstep (bstep (bstep (bstep (bstep (bstep (bstep (bstep (bstep hb1 hb2) hb3) hb4) hb5) hb6) hb7) hb8) hb9) hb10) hb11) hgr12 (fun k hk => Nat.le_trans (bstep (bstep hb1 hb2) hb3).size (r4 k hk))) hgr13 (fun k hk => Nat.le_trans (bstep (bstep (bstep hb1 hb2) hb3) hb4).size (r5 k hk))) hb14) hgr15 (fun k hk => Nat.le_trans (bstep (bstep (bstep (bstep hb1 hb2) hb3) hb4) hb5).size (r6 k hk))) hb16) hb17) hb18) hb19)⟩
    · go_enter Try.func12, Try.ntmps12
      go_wp2_with fail
      refine (szQuS_in _ l0.length _ (1048576) _ (by omega) (by omega)).mono ?_; rintro e w' ⟨rfl, rfl⟩
      go_wp2_with fail
      refine (szQuS_out _ l1.length _ (1048576 - (l0.length : Int)) _ (by omega) (by omega) (by omega)).mono ?_; rintro e w' ⟨rfl, rfl⟩
      go_wp2
      go_ret
      exact ⟨rfl, (by repeat (first | exact bref _ | (refine balloc ?_ _) | (refine bdrew ?_) | (refine bdrewN ?_ _) | (refine bstep ?_ (by assumption))))⟩
  · go_enter Try.func12, Try.ntmps12
    go_wp2_with fail
    refine (szQuS_out _ l0.length _ (1048576) _ (by omega) (by omega) (by omega)).mono ?_; rintro e w' ⟨rfl, rfl⟩
    go_wp2
    go_ret
    exact ⟨rfl, (by repeat (first | exact bref _ | (refine balloc ?_ _) | (refine bdrew ?_) | (refine bdrewN ?_ _) | (refine bstep ?_ (by assumption))))⟩

-- THE ROW --
set_option maxRecDepth 100000 in
theorem lawMergedCatalogue_lifted (os : Os) (started : os.Started) (H : Type) (enc : TypeId × Value → H) :
    ReturnsInHanded {} Try.checked os 12 .any (Rows.fnExactMergedCatalogueSpec.pre6 enc Try.prog Try.f12 Rows.fnExactMergedCatalogueRow.domain false) (Rows.fnExactMergedCatalogueSpec.post enc Try.prog Try.f12 false true false false) := by
  refine returnsInHanded_of_change (C := Try.checked) Try.own started (by kernel_rfl) Try.func12
    (ChangeSpec.witness6 (enc := enc) (C := Try.checked) false ⟨#[], #[.slice none 0 0, .slice none 0 0, .int .i64 0, .int .i64 0], []⟩ 8 (by kernel_rfl) (by kernel_rfl) (by kernel_rfl) (by kernel_rfl)) ?_
  intro W base args ds gs before hval0 hW hcnd _
  have hval : ∀ (j : Nat) t v, Try.f12.params[j]? = some t → args[j]? = some v → Value.okWide Try.prog W .any base t v := hval0
  have hW' := hW
  obtain ⟨p, q, hA0, hV, hpq, hfz, hnd⟩ := hW
  have hA : DataW.TrodAll enc Try.prog W 0 (fun _ => true) true Try.f12.params.toList args.toList ds p := hA0
  rw [Try.params12] at hA hval
  obtain ⟨v0, vs0, d0, ds0, p0, q0, hargs, rfl, rfl, h0, r0⟩ := trodAll_cons hA
  obtain ⟨v1, vs1, d1, ds1, p1, q1, rfl, rfl, rfl, h1, r1⟩ := trodAll_cons r0
  obtain ⟨v2, vs2, d2, ds2, p2, q2, rfl, rfl, rfl, h2, r2⟩ := trodAll_cons r1
  obtain ⟨v3, vs3, d3, ds3, p3, q3, rfl, rfl, rfl, h3, r3⟩ := trodAll_cons r2
  obtain ⟨rfl, rfl, rfl⟩ := trodAll_nil r3
  obtain rfl : args = #[v0, v1, v2, v3] := by cases args; simp_all
  obtain ⟨l0, A0, c0, rfl, hr0, hm0⟩ := rowQu (hval 0 46 v0 rfl rfl) h0
  obtain ⟨l1, A1, c1, rfl, hr1, hm1⟩ := rowQu (hval 1 46 v1 rfl rfl) h1
  obtain ⟨a2, rfl, rfl, rfl, w2⟩ := open_int Try.underlying3 (hval 2 3 v2 rfl rfl) h2
  have b2 := bounds_i64 w2
  obtain ⟨a3, rfl, rfl, rfl, w3⟩ := open_int Try.underlying3 (hval 3 3 v3 rfl rfl) h3
  have b3 := bounds_i64 w3
  refine (lawMergedCatalogue_walk l0 A0 c0 l1 A1 c1 a2 a3 W hr0 hm0 hr1 hm1 b2 b3).mono fun e W' ⟨he, hb⟩ => ?_
  subst he
  exact law_post Try.laidOut (by kernel_rfl) (by kernel_rfl) Try.underlying4 rfl ⟨rfl, rfl, rfl⟩ hW' hb

theorem lawMergedCatalogue : Rows.FnExactMergedCatalogueSaid :=
  OpenClaim.holds_of_wide 12 Try.f12 rfl rfl rfl rfl rfl rfl rfl ⟨rfl, rfl, rfl, rfl, rfl⟩ rfl rfl rfl rfl rfl (by kernel_rfl) Try.func12 (by kernel_rfl)
    (of_decide_eq_true (by kernel_rfl)) (by unfold Func.isWrapper; first | (rw [if_pos (by decide +kernel)]; kernel_rfl) | (rw [if_neg (by decide +kernel)]; exact ⟨rfl, rfl⟩))
    (fun os started H enc _ => lawMergedCatalogue_lifted os started H enc)
end Go.Proofs.Ytlinjkfbcekepaa
