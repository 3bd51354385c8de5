/-
  Proved here: for every argument, impl.IsCatalogue and spec.IsCatalogue answer alike and leave the arguments as they were (FnExactIsCatalogue returns true). No condition.
-/
import Derived.Test.YtlinjkfbcekepaaQuGood
import Derived.Test.YtlinjkfbcekepaaQuSz
import Derived.Test.YtlinjkfbcekepaaQuRow
namespace Go.Proofs.Ytlinjkfbcekepaa
open Go.RowKit Go.WideShapes Go.ChangeShapes Go.ChangeAt

set_option maxRecDepth 100000 in
set_option maxHeartbeats 2000000 in
theorem lawIsCatalogue_walk (l0 : List Qu) (A0 : Option Addr) (c0 : Nat) (w : World) (hr0 : RowAt 4 encQu w A0 l0) (hm0 : l0.length ≤ 9223372036854775807) :
    Calls Try.prog 5 #[.slice A0 l0.length c0] w fun e w' => e = .returned (.bool true) ∧ Below w.heap.size w w' := by
  have hr0' := Lib.hid hr0
  clear hr0
  by_cases hl0 : l0.length ≤ 1048576
  · skip
    go_enter Try.func5, Try.ntmps5
    go_wp2_with fail
    refine (szQuS_in _ l0.length _ (1048576) _ (by omega) (by omega)).mono ?_; rintro e w' ⟨rfl, rfl⟩
    go_wp2_with fail
    refine (toQuS_any l0 _ _ _ hr0'.out (by omega)).mono ?_; rintro e w1 ⟨A21, c21, rfl, ho1, hb1⟩
    have hx1 := Lib.hid (RowAt.of_own ho1 encQu_len (by omega))
    have kc1 := own_cap ho1
    clear ho1
    go_wp2_with fail
    refine (sIsCat_any l0 _ _ _ hx1.out (by omega)).mono ?_; rintro e w2 ⟨rfl, hb2⟩
    go_wp2_with fail
    refine (toQuS_any l0 _ _ _ (RowAt.below hr0'.out (bstep hb1 hb2)) (by omega)).mono ?_; rintro e w3 ⟨A23, c23, rfl, ho3, hb3⟩
    have hx3 := Lib.hid (RowAt.of_own ho3 encQu_len (by omega))
    have kc3 := own_cap ho3
    clear ho3
    go_wp2_with fail
    refine (iIsCat_any l0 _ _ _ hx3.out (by omega)).mono ?_; rintro e w4 ⟨rfl, hb4⟩
    go_wp2_with fail
    refine (toQuS_any l0 _ _ _ (RowAt.below hr0'.out (bstep (bstep (bstep hb1 hb2) hb3) hb4)) (by omega)).mono ?_; rintro e w5 ⟨A25, c25, rfl, ho5, hb5⟩
    have hx5 := Lib.hid (RowAt.of_own ho5 encQu_len (by omega))
    have kc5 := own_cap ho5
    clear ho5
    go_wp2_with fail
    refine (eqQuS_same l0 _ _ _ _ _ (RowAt.below hx3.out (bstep hb4 hb5)) hx5.out (by omega)).mono ?_; rintro e w6 ⟨rfl, hb6⟩
    go_wp2
    go_ret
    exact ⟨rfl, (bstep (bstep (bstep (bstep (bstep hb1 hb2) hb3) hb4) hb5) hb6)⟩
  · go_enter Try.func5, Try.ntmps5
    go_wp2_with fail
    refine (szQuS_out _ l0.length _ (1048576) _ (by omega) (by omega) (by omega)).mono ?_; rintro e w' ⟨rfl, rfl⟩
    go_wp2
    go_ret
    exact ⟨rfl, (by repeat (first | exact bref _ | (refine balloc ?_ _) | (refine bdrew ?_) | (refine bdrewN ?_ _) | (refine bstep ?_ (by assumption))))⟩

-- THE ROW --
set_option maxRecDepth 100000 in
theorem lawIsCatalogue_lifted (os : Os) (started : os.Started) (H : Type) (enc : TypeId × Value → H) :
    ReturnsInHanded {} Try.checked os 5 .any (Rows.fnExactIsCatalogueSpec.pre6 enc Try.prog Try.f5 Rows.fnExactIsCatalogueRow.domain false) (Rows.fnExactIsCatalogueSpec.post enc Try.prog Try.f5 false true false false) := by
  refine returnsInHanded_of_change (C := Try.checked) Try.own started (by kernel_rfl) Try.func5
    (ChangeSpec.witness6 (enc := enc) (C := Try.checked) false ⟨#[], #[.slice none 0 0], []⟩ 8 (by kernel_rfl) (by kernel_rfl) (by kernel_rfl) (by kernel_rfl)) ?_
  intro W base args ds gs before hval0 hW hcnd _
  have hval : ∀ (j : Nat) t v, Try.f5.params[j]? = some t → args[j]? = some v → Value.okWide Try.prog W .any base t v := hval0
  have hW' := hW
  obtain ⟨p, q, hA0, hV, hpq, hfz, hnd⟩ := hW
  have hA : DataW.TrodAll enc Try.prog W 0 (fun _ => true) true Try.f5.params.toList args.toList ds p := hA0
  rw [Try.params5] at hA hval
  obtain ⟨v0, vs0, d0, ds0, p0, q0, hargs, rfl, rfl, h0, r0⟩ := trodAll_cons hA
  obtain ⟨rfl, rfl, rfl⟩ := trodAll_nil r0
  obtain rfl : args = #[v0] := by cases args; simp_all
  obtain ⟨l0, A0, c0, rfl, hr0, hm0⟩ := rowQu (hval 0 46 v0 rfl rfl) h0
  refine (lawIsCatalogue_walk l0 A0 c0 W hr0 hm0).mono fun e W' ⟨he, hb⟩ => ?_
  subst he
  exact law_post Try.laidOut (by kernel_rfl) (by kernel_rfl) Try.underlying4 rfl ⟨rfl, rfl, rfl⟩ hW' hb

theorem lawIsCatalogue : Rows.FnExactIsCatalogueSaid :=
  OpenClaim.holds_of_wide 5 Try.f5 rfl rfl rfl rfl rfl rfl rfl ⟨rfl, rfl, rfl, rfl, rfl⟩ rfl rfl rfl rfl rfl (by kernel_rfl) Try.func5 (by kernel_rfl)
    (of_decide_eq_true (by kernel_rfl)) (by unfold Func.isWrapper; first | (rw [if_pos (by decide +kernel)]; kernel_rfl) | (rw [if_neg (by decide +kernel)]; exact ⟨rfl, rfl⟩))
    (fun os started H enc _ => lawIsCatalogue_lifted os started H enc)
end Go.Proofs.Ytlinjkfbcekepaa
