/-
  Proved here: for every argument, impl.FreeFor and spec.FreeFor answer alike and leave the arguments as they were, and the result shares no memory (FnExactFreeFor returns true). No condition.
-/
import Derived.Test.YtldhlmjfpnpamaaDuFree
import Derived.Test.YtldhlmjfpnpamaaDuSz
import Derived.Test.YtldhlmjfpnpamaaDuRow
namespace Go.Proofs.Ytldhlmjfpnpamaa
open Go.RowKit Go.WideShapes Go.ChangeShapes Go.ChangeAt

set_option maxRecDepth 100000 in
set_option maxHeartbeats 2000000 in
theorem lawFreeFor_walk (l0 : List Du) (A0 : Option Addr) (c0 : Nat) (a1 : Int) (a2 : Int) (w : World) (hr0 : RowAt 4 encDu w A0 l0) (hm0 : l0.length ≤ 9223372036854775807) (b1 : -9223372036854775808 ≤ a1 ∧ a1 ≤ 9223372036854775807) (b2 : -9223372036854775808 ≤ a2 ∧ a2 ≤ 9223372036854775807) :
    Calls Try.prog 12 #[.slice A0 l0.length c0, .int .i64 a1, .int .i64 a2] w fun e w' => e = .returned (.bool true) ∧ Below w.heap.size w w' := by
  have hr0' := Lib.hid hr0
  clear hr0
  by_cases hl0 : l0.length ≤ 1048576
  · skip
    have hn : (freeR l0 a1 a2).length ≤ 2097152 := by have := freeR_le l0 a1 a2; omega
    go_enter Try.func12, Try.ntmps12
    go_wp2_with fail
    refine (szDuS_in _ l0.length _ (1048576) _ (by omega) (by omega)).mono ?_; rintro e w' ⟨rfl, rfl⟩
    go_wp2_with fail
    refine (toDuS_any l0 _ _ _ hr0'.out (by omega)).mono ?_; rintro e w1 ⟨A21, c21, rfl, ho1, hb1⟩
    have hx1 := Lib.hid (RowAt.of_own ho1 encDu_len (by omega))
    have kc1 := own_cap ho1
    have kf1 := af_own ho1
    clear ho1
    go_wp2_with fail
    refine (sFree_any l0 a1 a2 _ _ _ hx1.out kf1 kc1 (by omega)).mono ?_; rintro e w2 ⟨A22, c22, rfl, ho2, hb2⟩
    have hw := Lib.hid (RowAt.of_own ho2 encI_len (by omega))
    clear ho2
    go_wp2_with fail
    refine (toDuS_any l0 _ _ _ (RowAt.below hr0'.out (bstep hb1 hb2)) (by omega)).mono ?_; rintro e w3 ⟨A23, c23, rfl, ho3, hb3⟩
    have hx3 := Lib.hid (RowAt.of_own ho3 encDu_len (by omega))
    have kc3 := own_cap ho3
    have kf3 := af_own ho3
    have ho3 := Lib.hid ho3
    go_wp2_with fail
    refine (iFree_any l0 a1 a2 _ _ _ hx3.out (by omega) kc3).mono ?_; rintro e w4 ⟨A24, c24, rfl, ho4, hb4⟩
    have hg4 := Lib.hid (RowAt.of_own ho4 encI_len (by omega))
    have ho4 := Lib.hid ho4
    go_wp2_with fail
    refine (eqIS_same (freeR l0 a1 a2) _ _ _ _ _ hg4.out (RowAt.below hw.out (bstep hb3 hb4)) (by omega)).mono ?_; rintro e w5 ⟨rfl, hb5⟩
    go_wp2_with fail
    refine (toDuS_any l0 _ _ _ (RowAt.below hr0'.out (bstep (bstep (bstep (bstep hb1 hb2) hb3) hb4) hb5)) (by omega)).mono ?_; rintro e w6 ⟨A26, c26, rfl, ho6, hb6⟩
    have hx6 := Lib.hid (RowAt.of_own ho6 encDu_len (by omega))
    have kc6 := own_cap ho6
    have kf6 := af_own ho6
    clear ho6
    go_wp2_with fail
    refine (eqDuS_same l0 _ _ _ _ _ (RowAt.below hx3.out (bstep (bstep hb4 hb5) hb6)) hx6.out (by omega)).mono ?_; rintro e w7 ⟨rfl, hb7⟩
    go_wp2_with fail
    refine (markDuS_any (1) _ _ _ _ _ _ (own_below ho3.out (bstep (bstep (bstep hb4 hb5) hb6) hb7)) (by omega) (by omega) (by omega)).mono ?_; rintro e w8 ⟨rfl, hm8, hgr8⟩
    have r3 := row_mine ho3.out
    have t3 := ho3.out.lt
    have hog8 := Lib.hid (World.ownsRow.kept (own_below ho4.out (bstep (bstep hb5 hb6) hb7)) hgr8 (own_apart ho4.out (fun k hk => (t3 k hk).2)))
    clear hm8
    go_wp2_with fail
    have hg8 := Lib.hid (RowAt.of_own hog8.out encI_len (by omega))
    refine (eqIS_same (freeR l0 a1 a2) _ _ _ _ _ hg8.out (RowAt.below hw.out (bgrown (bstep (bstep (bstep (bstep hb3 hb4) hb5) hb6) hb7) hgr8 r3)) (by omega)).mono ?_; rintro e w9 ⟨rfl, hb9⟩
    go_wp2_with fail
    refine (markIS_any 1 _ _ _ _ _ _ (own_below hog8.out hb9) (by omega) (by omega) (by omega)).mono ?_; rintro e w10 ⟨rfl, hm10, hgr10⟩
    have r4 := row_mine ho4.out
    have t4 := ho4.out.lt
    have hmm := Lib.hid (RowAt.of_own hm10 encI_len (by omega))
    clear hm10
    go_wp2_with fail
    refine (heldIS_any 1 _ _ _ _ hmm.out (by omega) (by omega) (by omega)).mono ?_; rintro e w' ⟨rfl, rfl⟩
    go_wp2_with fail
    refine (toDuS_any l0 _ _ _ (RowAt.below hr0'.out (bgrown (bstep (bgrown (bstep (bstep (bstep (bstep (bstep (bstep hb1 hb2) hb3) hb4) hb5) hb6) hb7) hgr8 (fun k hk => Nat.le_trans (bstep hb1 hb2).size (r3 k hk))) hb9) hgr10 (fun k hk => Nat.le_trans (bstep (bstep hb1 hb2) hb3).size (r4 k hk)))) (by omega)).mono ?_; rintro e w11 ⟨A31, c31, rfl, ho11, hb11⟩
    have hx11 := Lib.hid (RowAt.of_own ho11 encDu_len (by omega))
    have kc11 := own_cap ho11
    have kf11 := af_own ho11
    clear ho11
    go_wp2_with fail
    refine (iFree_any l0 a1 a2 _ _ _ hx11.out (by omega) kc11).mono ?_; rintro e w12 ⟨A32, c32, rfl, ho12, hb12⟩
    have hg12 := Lib.hid (RowAt.of_own ho12 encI_len (by omega))
    clear ho12
    go_wp2_with fail
    refine (eqIS_same (freeR l0 a1 a2) _ _ _ _ _ hg12.out (RowAt.below hw.out (bstep (bstep (bgrown (bstep (bgrown (bstep (bstep (bstep (bstep hb3 hb4) hb5) hb6) hb7) hgr8 r3) hb9) hgr10 (fun k hk => Nat.le_trans hb3.size (r4 k hk))) hb11) hb12)) (by omega)).mono ?_; rintro e w13 ⟨rfl, hb13⟩
    go_wp2_with fail
    refine (heldIS_any 1 _ _ _ _ (RowAt.below hmm.out (bstep (bstep hb11 hb12) hb13)) (by omega) (by omega) (by omega)).mono ?_; rintro e w' ⟨rfl, rfl⟩
    go_wp2
    go_ret
    exact ⟨rfl, (bstep (bstep (bstep (bgrown (bstep (bgrown (bstep (bstep (bstep (bstep (bstep (bstep hb1 hb2) hb3) hb4) hb5) hb6) hb7) hgr8 (fun k hk => Nat.le_trans (bstep hb1 hb2).size (r3 k hk))) hb9) hgr10 (fun k hk => Nat.le_trans (bstep (bstep hb1 hb2) hb3).size (r4 k hk))) hb11) hb12) hb13)⟩
  · go_enter Try.func12, Try.ntmps12
    go_wp2_with fail
    refine (szDuS_out _ l0.length _ (1048576) _ (by omega) (by omega) (by omega)).mono ?_; rintro e w' ⟨rfl, rfl⟩
    go_wp2
    go_ret
    exact ⟨rfl, (by repeat (first | exact bref _ | (refine balloc ?_ _) | (refine bdrew ?_) | (refine bdrewN ?_ _) | (refine bstep ?_ (by assumption))))⟩

-- THE ROW --
set_option maxRecDepth 100000 in
theorem lawFreeFor_lifted (os : Os) (started : os.Started) (H : Type) (enc : TypeId × Value → H) :
    ReturnsInHanded {} Try.checked os 12 .any (Rows.fnExactFreeForSpec.pre6 enc Try.prog Try.f12 Rows.fnExactFreeForRow.domain false) (Rows.fnExactFreeForSpec.post enc Try.prog Try.f12 false true false false) := by
  refine returnsInHanded_of_change (C := Try.checked) Try.own started (by kernel_rfl) Try.func12
    (ChangeSpec.witness6 (enc := enc) (C := Try.checked) false ⟨#[], #[.slice none 0 0, .int .i64 0, .int .i64 0], []⟩ 8 (by kernel_rfl) (by kernel_rfl) (by kernel_rfl) (by kernel_rfl)) ?_
  intro W base args ds gs before hval0 hW hcnd _
  have hval : ∀ (j : Nat) t v, Try.f12.params[j]? = some t → args[j]? = some v → Value.okWide Try.prog W .any base t v := hval0
  have hW' := hW
  obtain ⟨p, q, hA0, hV, hpq, hfz, hnd⟩ := hW
  have hA : DataW.TrodAll enc Try.prog W 0 (fun _ => true) true Try.f12.params.toList args.toList ds p := hA0
  rw [Try.params12] at hA hval
  obtain ⟨v0, vs0, d0, ds0, p0, q0, hargs, rfl, rfl, h0, r0⟩ := trodAll_cons hA
  obtain ⟨v1, vs1, d1, ds1, p1, q1, rfl, rfl, rfl, h1, r1⟩ := trodAll_cons r0
  obtain ⟨v2, vs2, d2, ds2, p2, q2, rfl, rfl, rfl, h2, r2⟩ := trodAll_cons r1
  obtain ⟨rfl, rfl, rfl⟩ := trodAll_nil r2
  obtain rfl : args = #[v0, v1, v2] := by cases args; simp_all
  obtain ⟨l0, A0, c0, rfl, hr0, hm0⟩ := rowDu (hval 0 28 v0 rfl rfl) h0
  obtain ⟨a1, rfl, rfl, rfl, w1⟩ := open_int Try.underlying3 (hval 1 3 v1 rfl rfl) h1
  have b1 := bounds_i64 w1
  obtain ⟨a2, rfl, rfl, rfl, w2⟩ := open_int Try.underlying3 (hval 2 3 v2 rfl rfl) h2
  have b2 := bounds_i64 w2
  refine (lawFreeFor_walk l0 A0 c0 a1 a2 W hr0 hm0 b1 b2).mono fun e W' ⟨he, hb⟩ => ?_
  subst he
  exact law_post Try.laidOut (by kernel_rfl) (by kernel_rfl) Try.underlying4 rfl ⟨rfl, rfl, rfl⟩ hW' hb

theorem lawFreeFor : Rows.FnExactFreeForSaid :=
  OpenClaim.holds_of_wide 12 Try.f12 rfl rfl rfl rfl rfl rfl rfl ⟨rfl, rfl, rfl, rfl, rfl⟩ rfl rfl rfl rfl rfl (by kernel_rfl) Try.func12 (by kernel_rfl)
    (of_decide_eq_true (by kernel_rfl)) (by unfold Func.isWrapper; first | (rw [if_pos (by decide +kernel)]; kernel_rfl) | (rw [if_neg (by decide +kernel)]; exact ⟨rfl, rfl⟩))
    (fun os started H enc _ => lawFreeFor_lifted os started H enc)
end Go.Proofs.Ytldhlmjfpnpamaa
