/-
  Proved here: for every argument, impl.FairShare and spec.FairShare answer alike and leave the arguments as they were (FnExactFairShare returns true). No condition.
-/
import Derived.Test.YtldhlmjfpnpamaaDuFair
import Derived.Test.YtldhlmjfpnpamaaDuRow
namespace Go.Proofs.Ytldhlmjfpnpamaa
open Go.RowKit Go.WideShapes Go.ChangeShapes Go.ChangeAt

set_option maxHeartbeats 1000000 in
theorem lawFairShare_walk (l : List Du) (A : Option Addr) (c : Nat) (w : World) (hr : RowAt 4 encDu w A l) (hmax : l.length ≤ 9223372036854775807) :
    Calls Try.prog 10 #[.slice A l.length c] w fun e w' => e = .returned (.bool true) ∧ Below w.heap.size w w' := by
  by_cases hlen : l.length ≤ 1048576
  · have hr0 := Lib.hid hr
    clear hr
    go_enter Try.func10, Try.ntmps10
    go_wp2_with fail
    refine (szDu_fit _ _ _ _ hlen).mono ?_; rintro e w' ⟨rfl, rfl⟩
    go_wp2_with fail
    refine (toDuS_any l _ _ _ hr0.out hlen).mono ?_; rintro e w1 ⟨A1, c1, rfl, ho1, hb1⟩
    have hx1 := Lib.hid (RowAt.of_own ho1 encDu_len (by omega))
    have kc1 := own_cap ho1
    clear ho1
    go_wp2_with fail
    refine (sFair_any l _ _ _ hx1.out (by omega)).mono ?_; rintro e w2 ⟨rfl, hb2⟩
    have b2 := bstep hb1 hb2
    go_wp2_with fail
    refine (toDuS_any l _ _ _ (hr0.out.below b2) hlen).mono ?_; rintro e w3 ⟨A3, c3, rfl, ho3, hb3⟩
    have hx3 := Lib.hid (RowAt.of_own ho3 encDu_len (by omega))
    have kc3 := own_cap ho3
    clear ho3
    have b3 := bstep b2 hb3
    go_wp2_with fail
    refine (iFair_any l _ _ _ hx3.out (by omega) kc3).mono ?_; rintro e w4 ⟨rfl, hb4⟩
    have b4 := bstep b3 hb4
    go_wp2_with fail
    refine (toDuS_any l _ _ _ (hr0.out.below b4) hlen).mono ?_; rintro e w5 ⟨A5, c5, rfl, ho5, hb5⟩
    have hx5 := Lib.hid (RowAt.of_own ho5 encDu_len (by omega))
    clear ho5
    have b5 := bstep b4 hb5
    have x5 := bstep hb4 hb5
    go_wp2_with fail
    refine (eqDuS_same l _ _ _ _ _ (hx3.out.below x5) hx5.out (by omega)).mono ?_; rintro e w6 ⟨rfl, hb6⟩
    have b6 := bstep b5 hb6
    go_wp2
    go_ret
    exact ⟨rfl, b6⟩
  · go_enter Try.func10, Try.ntmps10
    go_wp2_with fail
    refine (szDu_big _ _ _ _ (by omega) hmax).mono ?_; rintro e w' ⟨rfl, rfl⟩
    go_wp2
    go_ret
    exact ⟨rfl, (by repeat (first | exact bref _ | (refine balloc ?_ _) | (refine bdrew ?_) | (refine bdrewN ?_ _) | (refine bstep ?_ (by assumption))))⟩
-- THE ROW --
set_option maxRecDepth 100000 in
theorem lawFairShare_lifted (os : Os) (started : os.Started) (H : Type) (enc : TypeId × Value → H) :
    ReturnsInHanded {} Try.checked os 10 .any (Rows.fnExactFairShareSpec.pre6 enc Try.prog Try.f10 Rows.fnExactFairShareRow.domain false) (Rows.fnExactFairShareSpec.post enc Try.prog Try.f10 false true false false) := by
  refine returnsInHanded_of_change (C := Try.checked) Try.own started (by kernel_rfl) Try.func10
    (ChangeSpec.witness6 (enc := enc) (C := Try.checked) false ⟨#[], #[.slice none 0 0], []⟩ 8 (by kernel_rfl) (by kernel_rfl) (by kernel_rfl) (by kernel_rfl)) ?_
  intro W base args ds gs before hval0 hW hcnd _
  have hval : ∀ (j : Nat) t v, Try.f10.params[j]? = some t → args[j]? = some v → Value.okWide Try.prog W .any base t v := hval0
  have hW' := hW
  obtain ⟨p, q, hA0, hV, hpq, hfz, hnd⟩ := hW
  have hA : DataW.TrodAll enc Try.prog W 0 (fun _ => true) true Try.f10.params.toList args.toList ds p := hA0
  rw [Try.params10] at hA hval
  obtain ⟨v0, vs0, d0, ds0, p0, q0, hargs, rfl, rfl, h0, r0⟩ := trodAll_cons hA
  obtain ⟨rfl, rfl, rfl⟩ := trodAll_nil r0
  obtain rfl : args = #[v0] := by cases args; simp_all
  obtain ⟨l0, A0, c0, rfl, hr0, hm0⟩ := rowDu (hval 0 28 v0 rfl rfl) h0
  refine (lawFairShare_walk l0 A0 c0 W hr0 hm0).mono fun e W' ⟨he, hb⟩ => ?_
  subst he
  exact law_post Try.laidOut (by kernel_rfl) (by kernel_rfl) Try.underlying4 rfl ⟨rfl, rfl, rfl⟩ hW' hb

theorem lawFairShare : Rows.FnExactFairShareSaid :=
  OpenClaim.holds_of_wide 10 Try.f10 rfl rfl rfl rfl rfl rfl rfl ⟨rfl, rfl, rfl, rfl, rfl⟩ rfl rfl rfl rfl rfl (by kernel_rfl) Try.func10 (by kernel_rfl)
    (of_decide_eq_true (by kernel_rfl)) (by unfold Func.isWrapper; first | (rw [if_pos (by decide +kernel)]; kernel_rfl) | (rw [if_neg (by decide +kernel)]; exact ⟨rfl, rfl⟩))
    (fun os started H enc _ => lawFairShare_lifted os started H enc)
end Go.Proofs.Ytldhlmjfpnpamaa
