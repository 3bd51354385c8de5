/-
  Proved here: for every argument, impl.SamplesOfRun and spec.SamplesOfRun answer alike and leave the arguments as they were, and the result shares no memory (FnExactSamplesOfRun returns true). No condition.
-/
import Derived.Test.YtifkakpiipoadaaPkSmp
import Derived.Test.YtifkakpiipoadaaPkMark
import Derived.Test.YtifkakpiipoadaaPkRow
namespace Go.Proofs.Ytifkakpiipoadaa
open Go.RowKit Go.WideShapes Go.ChangeShapes Go.ChangeAt

set_option maxRecDepth 100000 in
set_option maxHeartbeats 4000000 in
theorem lawSamplesOfRun_walk (l0 : List Pk) (A0 : Option Addr) (c0 : Nat) (a1 : Int) (w : World) (hr0 : PkAt w A0 l0) (hm0 : l0.length ≤ 9223372036854775807 ∧ ∀ p ∈ l0, p.sm.length ≤ 9223372036854775807) (b1 : -9223372036854775808 ≤ a1 ∧ a1 ≤ 9223372036854775807) :
    Calls Try.prog 11 #[.slice A0 l0.length c0, .int .i64 a1] w fun e w' => e = .returned (.bool true) ∧ Below w.heap.size w w' := by
  have HR0 := Lib.hid hr0
  have HM0 := Lib.hid hm0
  have hml := hm0.1
  clear hr0 hm0
  by_cases hl0 : tot l0 ≤ 1048576
  · have hl1 : l0.length ≤ 1048576 := by unfold tot at hl0; omega
    have hn : (smpR a1 (plS l0)).length ≤ 2097152 := by have := smpR_le (l := l0) a1; omega
    go_enter Try.func11, Try.ntmps11
    go_wp2_with fail
    refine (szPkS_in l0 _ _ 1048576 _ HR0.out (by omega) (by omega)).mono ?_; rintro e w1 ⟨rfl, hb1⟩
    go_wp2_with fail
    refine (toPkS_any l0 _ _ _ (HR0.out.below hb1) hl0).mono ?_; rintro e w2 ⟨L2, g2, rfl, hp2, hn2, ho2, hb2⟩
    have HX2 := Lib.hid ho2.at_
    have HP2 := Lib.hid hp2
    have ht2 : tot L2 ≤ 1048576 := Nat.le_trans (Nat.le_of_eq (tot_pl hp2)) hl0
    have HT2 := Lib.hid ht2
    have HN2 := Lib.hid hn2
    have HO2 := Lib.hid ho2
    clear ho2 hp2 hn2 ht2
    have hs := sSmp_any L2 (some ⟨g2, 0, none⟩) l0.length a1 w2 HX2.out HT2.out
    rw [HN2.out] at hs
    rw [show plS L2 = plS l0 from HP2.out] at hs
    have HS3 := Lib.hid hs
    clear hs
    go_wp2_with fail
    refine HS3.out.mono ?_; rintro e w3 ⟨A3, c3, rfl, ho3, hb3⟩
    have hw := Lib.hid (RowAt.of_own ho3 encI_len (by omega))
    clear ho3
    go_wp2_with fail
    refine (toPkS_any l0 _ _ _ (HR0.out.below (bstep (bstep hb1 hb2) hb3)) hl0).mono ?_; rintro e w4 ⟨L4, g4, rfl, hp4, hn4, ho4, hb4⟩
    have HX4 := Lib.hid ho4.at_
    have HP4 := Lib.hid hp4
    have ht4 : tot L4 ≤ 1048576 := Nat.le_trans (Nat.le_of_eq (tot_pl hp4)) hl0
    have HT4 := Lib.hid ht4
    have HN4 := Lib.hid hn4
    have HO4 := Lib.hid ho4
    clear ho4 hp4 hn4 ht4
    have hs := iSmp_any L4 (some ⟨g4, 0, none⟩) l0.length a1 w4 HX4.out HT4.out
    rw [HN4.out] at hs
    rw [show plS L4 = plS l0 from HP4.out] at hs
    have HS5 := Lib.hid hs
    clear hs
    go_wp2_with fail
    refine HS5.out.mono ?_; rintro e w5 ⟨A5, c5, rfl, ho5, hb5⟩
    have hg5 := Lib.hid (RowAt.of_own ho5 encI_len (by omega))
    have ho5 := Lib.hid ho5
    go_wp2_with fail
    refine (eqIS_same (smpR a1 (plS l0)) _ _ _ _ _ hg5.out (RowAt.below hw.out (bstep hb4 hb5)) (by omega)).mono ?_; rintro e w6 ⟨rfl, hb6⟩
    go_wp2_with fail
    refine (toPkS_any l0 _ _ _ (HR0.out.below (bstep (bstep (bstep (bstep (bstep hb1 hb2) hb3) hb4) hb5) hb6)) hl0).mono ?_; rintro e w7 ⟨L7, g7, rfl, hp7, hn7, ho7, hb7⟩
    have HX7 := Lib.hid ho7.at_
    have HP7 := Lib.hid hp7
    have ht7 : tot L7 ≤ 1048576 := Nat.le_trans (Nat.le_of_eq (tot_pl hp7)) hl0
    have HT7 := Lib.hid ht7
    have HN7 := Lib.hid hn7
    have HO7 := Lib.hid ho7
    clear ho7 hp7 hn7 ht7
    have he := eqPkS_same L4 L7 (some ⟨g4, 0, none⟩) (some ⟨g7, 0, none⟩) l0.length l0.length w7 (HP7.out.trans HP4.out.symm) (HX4.out.below (bstep (bstep hb5 hb6) hb7)) HX7.out (by have := HT4.out; omega)
    rw [HN4.out] at he
    have HE7 := Lib.hid he
    clear he
    go_wp2_with fail
    refine HE7.out.mono ?_; rintro e w8 ⟨rfl, hb8⟩
    have hO := PkOwn.below HO4.out (bstep (bstep (bstep hb5 hb6) hb7) hb8)
    have hM := markPkS_any L4 g4 _ w8 hO (by have := HT4.out; omega)
    rw [HN4.out] at hM
    have HM9 := Lib.hid hM
    clear hM
    go_wp2_with fail
    refine HM9.out.mono ?_; rintro e w9 ⟨rfl, hT9⟩
    have hB9 := hT9.below hO
    have hog := Lib.hid (Turned.kept hT9 (own_below ho5.out (bstep (bstep hb6 hb7) hb8)) (fun b hb => HO4.out.far_ (row_mine ho5.out b hb)))
    clear hO hT9
    have hgt := Lib.hid (RowAt.of_own hog.out encI_len (by omega))
    go_wp2_with fail
    refine (eqIS_same (smpR a1 (plS l0)) _ _ _ _ _ hgt.out (RowAt.below hw.out (bturn (bstep (bstep (bstep (bstep hb4 hb5) hb6) hb7) hb8) hB9 (Nat.le_refl _))) (by omega)).mono ?_; rintro e w10 ⟨rfl, hb10⟩
    go_wp2_with fail
    refine (markIS_any 1 _ _ _ _ _ _ (own_below hog.out hb10) (by omega) (by omega) (by omega)).mono ?_; rintro e w11 ⟨rfl, hm11, hgr11⟩
    have r5 := row_mine ho5.out
    have hmm := Lib.hid (RowAt.of_own hm11 encI_len (by omega))
    clear hm11
    go_wp2_with fail
    refine (heldIS_any 1 _ _ _ _ hmm.out (by omega) (by omega) (by omega)).mono ?_; rintro e w' ⟨rfl, rfl⟩
    go_wp2_with fail
    refine (toPkS_any l0 _ _ _ (HR0.out.below (bgrown (bstep (bturn (bstep (bstep (bstep (bstep (bstep (bstep (bstep hb1 hb2) hb3) hb4) hb5) hb6) hb7) hb8) hB9 (bstep (bstep hb1 hb2) hb3).size) hb10) hgr11 (fun k hk => Nat.le_trans (bstep (bstep (bstep hb1 hb2) hb3) hb4).size (r5 k hk)))) hl0).mono ?_; rintro e w12 ⟨L12, g12, rfl, hp12, hn12, ho12, hb12⟩
    have HX12 := Lib.hid ho12.at_
    have HP12 := Lib.hid hp12
    have ht12 : tot L12 ≤ 1048576 := Nat.le_trans (Nat.le_of_eq (tot_pl hp12)) hl0
    have HT12 := Lib.hid ht12
    have HN12 := Lib.hid hn12
    have HO12 := Lib.hid ho12
    clear ho12 hp12 hn12 ht12
    have hs := iSmp_any L12 (some ⟨g12, 0, none⟩) l0.length a1 w12 HX12.out HT12.out
    rw [HN12.out] at hs
    rw [show plS L12 = plS l0 from HP12.out] at hs
    have HS13 := Lib.hid hs
    clear hs
    go_wp2_with fail
    refine HS13.out.mono ?_; rintro e w13 ⟨A13, c13, rfl, ho13, hb13⟩
    have hg13 := Lib.hid (RowAt.of_own ho13 encI_len (by omega))
    clear ho13
    go_wp2_with fail
    refine (eqIS_same (smpR a1 (plS l0)) _ _ _ _ _ hg13.out (RowAt.below hw.out (bstep (bstep (bgrown (bstep (bturn (bstep (bstep (bstep (bstep hb4 hb5) hb6) hb7) hb8) hB9 (Nat.le_refl _)) hb10) hgr11 (fun k hk => Nat.le_trans hb4.size (r5 k hk))) hb12) hb13)) (by omega)).mono ?_; rintro e w14 ⟨rfl, hb14⟩
    go_wp2_with fail
    refine (heldIS_any 1 _ _ _ _ (RowAt.below hmm.out (bstep (bstep hb12 hb13) hb14)) (by omega) (by omega) (by omega)).mono ?_; rintro e w' ⟨rfl, rfl⟩
    go_wp2
    go_ret
    exact ⟨rfl, (bstep (bstep (bstep (bgrown (bstep (bturn (bstep (bstep (bstep (bstep (bstep (bstep (bstep hb1 hb2) hb3) hb4) hb5) hb6) hb7) hb8) hB9 (bstep (bstep hb1 hb2) hb3).size) hb10) hgr11 (fun k hk => Nat.le_trans (bstep (bstep (bstep hb1 hb2) hb3) hb4).size (r5 k hk))) hb12) hb13) hb14)⟩
  · go_enter Try.func11, Try.ntmps11
    go_wp2_with fail
    refine (szPkS_out l0 _ _ 1048576 _ HR0.out (by omega) (by omega) (by omega) hml HM0.out.2).mono ?_; rintro e w1 ⟨rfl, hb1⟩
    go_wp2
    go_ret
    exact ⟨rfl, hb1⟩

-- THE ROW --
set_option maxRecDepth 100000 in
theorem lawSamplesOfRun_lifted (os : Os) (started : os.Started) (H : Type) (enc : TypeId × Value → H) :
    ReturnsInHanded {} Try.checked os 11 .any (Rows.fnExactSamplesOfRunSpec.pre6 enc Try.prog Try.f11 Rows.fnExactSamplesOfRunRow.domain false) (Rows.fnExactSamplesOfRunSpec.post enc Try.prog Try.f11 false true false false) := by
  refine returnsInHanded_of_change (C := Try.checked) Try.own started (by kernel_rfl) Try.func11
    (ChangeSpec.witness6 (enc := enc) (C := Try.checked) false ⟨#[], #[.slice none 0 0, .int .i64 0], []⟩ 8 (by kernel_rfl) (by kernel_rfl) (by kernel_rfl) (by kernel_rfl)) ?_
  intro W base args ds gs before hval0 hW hcnd _
  have hval : ∀ (j : Nat) t v, Try.f11.params[j]? = some t → args[j]? = some v → Value.okWide Try.prog W .any base t v := hval0
  have hW' := hW
  obtain ⟨p, q, hA0, hV, hpq, hfz, hnd⟩ := hW
  have hA : DataW.TrodAll enc Try.prog W 0 (fun _ => true) true Try.f11.params.toList args.toList ds p := hA0
  rw [Try.params11] at hA hval
  obtain ⟨v0, vs0, d0, ds0, p0, q0, hargs, rfl, rfl, h0, r0⟩ := trodAll_cons hA
  obtain ⟨v1, vs1, d1, ds1, p1, q1, rfl, rfl, rfl, h1, r1⟩ := trodAll_cons r0
  obtain ⟨rfl, rfl, rfl⟩ := trodAll_nil r1
  obtain rfl : args = #[v0, v1] := by cases args; simp_all
  obtain ⟨l0, A0, c0, rfl, hr0, hm0⟩ := rowPk (hval 0 22 v0 rfl rfl) h0
  obtain ⟨a1, rfl, rfl, rfl, w1⟩ := open_int Try.underlying3 (hval 1 3 v1 rfl rfl) h1
  have b1 := bounds_i64 w1
  refine (lawSamplesOfRun_walk l0 A0 c0 a1 W hr0 hm0 b1).mono fun e W' ⟨he, hb⟩ => ?_
  subst he
  exact law_post Try.laidOut (by kernel_rfl) (by kernel_rfl) Try.underlying4 rfl ⟨rfl, rfl, rfl⟩ hW' hb

theorem lawSamplesOfRun : Rows.FnExactSamplesOfRunSaid :=
  OpenClaim.holds_of_wide 11 Try.f11 rfl rfl rfl rfl rfl rfl rfl ⟨rfl, rfl, rfl, rfl, rfl⟩ rfl rfl rfl rfl rfl (by kernel_rfl) Try.func11 (by kernel_rfl)
    (of_decide_eq_true (by kernel_rfl)) (by unfold Func.isWrapper; first | (rw [if_pos (by decide +kernel)]; kernel_rfl) | (rw [if_neg (by decide +kernel)]; exact ⟨rfl, rfl⟩))
    (fun os started H enc _ => lawSamplesOfRun_lifted os started H enc)
end Go.Proofs.Ytifkakpiipoadaa
