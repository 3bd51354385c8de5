/-
  Proved here: for every argument, impl.ArePackets and spec.ArePackets answer alike and leave the arguments as they were (FnExactArePackets returns true). No condition.
-/
import Derived.Test.YtifkakpiipoadaaPkGood
import Derived.Test.YtifkakpiipoadaaPkMark
import Derived.Test.YtifkakpiipoadaaPkRow
namespace Go.Proofs.Ytifkakpiipoadaa
open Go.RowKit Go.WideShapes Go.ChangeShapes Go.ChangeAt

set_option maxRecDepth 100000 in
set_option maxHeartbeats 4000000 in
theorem lawArePackets_walk (l0 : List Pk) (A0 : Option Addr) (c0 : Nat) (w : World) (hr0 : PkAt w A0 l0) (hm0 : l0.length ≤ 9223372036854775807 ∧ ∀ p ∈ l0, p.sm.length ≤ 9223372036854775807) :
    Calls Try.prog 3 #[.slice A0 l0.length c0] w fun e w' => e = .returned (.bool true) ∧ Below w.heap.size w w' := by
  have HR0 := Lib.hid hr0
  have HM0 := Lib.hid hm0
  have hml := hm0.1
  clear hr0 hm0
  by_cases hl0 : tot l0 ≤ 1048576
  · have hl1 : l0.length ≤ 1048576 := by unfold tot at hl0; omega
    go_enter Try.func3, Try.ntmps3
    go_wp2_with fail
    refine (szPkS_in l0 _ _ 1048576 _ HR0.out (by omega) (by omega)).mono ?_; rintro e w1 ⟨rfl, hb1⟩
    go_wp2_with fail
    refine (toPkS_any l0 _ _ _ (HR0.out.below hb1) hl0).mono ?_; rintro e w2 ⟨L2, g2, rfl, hp2, hn2, ho2, hb2⟩
    have HX2 := Lib.hid ho2.at_
    have HP2 := Lib.hid hp2
    have ht2 : tot L2 ≤ 1048576 := Nat.le_trans (Nat.le_of_eq (tot_pl hp2)) hl0
    have HT2 := Lib.hid ht2
    have HN2 := Lib.hid hn2
    have HO2 := Lib.hid ho2
    clear ho2 hp2 hn2 ht2
    have hs := sAreP_any L2 (some ⟨g2, 0, none⟩) l0.length w2 HX2.out (by have := HT2.out; omega)
    rw [HN2.out] at hs
    rw [show plS L2 = plS l0 from HP2.out] at hs
    have HS3 := Lib.hid hs
    clear hs
    go_wp2_with fail
    refine HS3.out.mono ?_; rintro e w' ⟨rfl, rfl⟩
    go_wp2_with fail
    refine (toPkS_any l0 _ _ _ (HR0.out.below (bstep hb1 hb2)) hl0).mono ?_; rintro e w3 ⟨L3, g3, rfl, hp3, hn3, ho3, hb3⟩
    have HX3 := Lib.hid ho3.at_
    have HP3 := Lib.hid hp3
    have ht3 : tot L3 ≤ 1048576 := Nat.le_trans (Nat.le_of_eq (tot_pl hp3)) hl0
    have HT3 := Lib.hid ht3
    have HN3 := Lib.hid hn3
    have HO3 := Lib.hid ho3
    clear ho3 hp3 hn3 ht3
    have hs := iAreP_any L3 (some ⟨g3, 0, none⟩) l0.length w3 HX3.out (by have := HT3.out; omega)
    rw [HN3.out] at hs
    rw [show plS L3 = plS l0 from HP3.out] at hs
    have HS4 := Lib.hid hs
    clear hs
    go_wp2_with fail
    refine HS4.out.mono ?_; rintro e w4 ⟨rfl, hb4⟩
    go_wp2_with fail
    refine (toPkS_any l0 _ _ _ (HR0.out.below (bstep (bstep (bstep hb1 hb2) hb3) hb4)) hl0).mono ?_; rintro e w5 ⟨L5, g5, rfl, hp5, hn5, ho5, hb5⟩
    have HX5 := Lib.hid ho5.at_
    have HP5 := Lib.hid hp5
    have ht5 : tot L5 ≤ 1048576 := Nat.le_trans (Nat.le_of_eq (tot_pl hp5)) hl0
    have HT5 := Lib.hid ht5
    have HN5 := Lib.hid hn5
    have HO5 := Lib.hid ho5
    clear ho5 hp5 hn5 ht5
    have he := eqPkS_same L3 L5 (some ⟨g3, 0, none⟩) (some ⟨g5, 0, none⟩) l0.length l0.length w5 (HP5.out.trans HP3.out.symm) (HX3.out.below (bstep hb4 hb5)) HX5.out (by have := HT3.out; omega)
    rw [HN3.out] at he
    have HE5 := Lib.hid he
    clear he
    go_wp2_with fail
    refine HE5.out.mono ?_; rintro e w6 ⟨rfl, hb6⟩
    go_wp2
    go_ret
    exact ⟨rfl, (bstep (bstep (bstep (bstep (bstep hb1 hb2) hb3) hb4) hb5) hb6)⟩
  · go_enter Try.func3, Try.ntmps3
    go_wp2_with fail
    refine (szPkS_out l0 _ _ 1048576 _ HR0.out (by omega) (by omega) (by omega) hml HM0.out.2).mono ?_; rintro e w1 ⟨rfl, hb1⟩
    go_wp2
    go_ret
    exact ⟨rfl, hb1⟩

-- THE ROW --
set_option maxRecDepth 100000 in
theorem lawArePackets_lifted (os : Os) (started : os.Started) (H : Type) (enc : TypeId × Value → H) :
    ReturnsInHanded {} Try.checked os 3 .any (Rows.fnExactArePacketsSpec.pre6 enc Try.prog Try.f3 Rows.fnExactArePacketsRow.domain false) (Rows.fnExactArePacketsSpec.post enc Try.prog Try.f3 false true false false) := by
  refine returnsInHanded_of_change (C := Try.checked) Try.own started (by kernel_rfl) Try.func3
    (ChangeSpec.witness6 (enc := enc) (C := Try.checked) false ⟨#[], #[.slice none 0 0], []⟩ 8 (by kernel_rfl) (by kernel_rfl) (by kernel_rfl) (by kernel_rfl)) ?_
  intro W base args ds gs before hval0 hW hcnd _
  have hval : ∀ (j : Nat) t v, Try.f3.params[j]? = some t → args[j]? = some v → Value.okWide Try.prog W .any base t v := hval0
  have hW' := hW
  obtain ⟨p, q, hA0, hV, hpq, hfz, hnd⟩ := hW
  have hA : DataW.TrodAll enc Try.prog W 0 (fun _ => true) true Try.f3.params.toList args.toList ds p := hA0
  rw [Try.params3] at hA hval
  obtain ⟨v0, vs0, d0, ds0, p0, q0, hargs, rfl, rfl, h0, r0⟩ := trodAll_cons hA
  obtain ⟨rfl, rfl, rfl⟩ := trodAll_nil r0
  obtain rfl : args = #[v0] := by cases args; simp_all
  obtain ⟨l0, A0, c0, rfl, hr0, hm0⟩ := rowPk (hval 0 22 v0 rfl rfl) h0
  refine (lawArePackets_walk l0 A0 c0 W hr0 hm0).mono fun e W' ⟨he, hb⟩ => ?_
  subst he
  exact law_post Try.laidOut (by kernel_rfl) (by kernel_rfl) Try.underlying4 rfl ⟨rfl, rfl, rfl⟩ hW' hb

theorem lawArePackets : Rows.FnExactArePacketsSaid :=
  OpenClaim.holds_of_wide 3 Try.f3 rfl rfl rfl rfl rfl rfl rfl ⟨rfl, rfl, rfl, rfl, rfl⟩ rfl rfl rfl rfl rfl (by kernel_rfl) Try.func3 (by kernel_rfl)
    (of_decide_eq_true (by kernel_rfl)) (by unfold Func.isWrapper; first | (rw [if_pos (by decide +kernel)]; kernel_rfl) | (rw [if_neg (by decide +kernel)]; exact ⟨rfl, rfl⟩))
    (fun os started H enc _ => lawArePackets_lifted os started H enc)
end Go.Proofs.Ytifkakpiipoadaa
