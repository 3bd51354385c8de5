/-
  Proved here: for every argument, impl.CellsOf and spec.CellsOf answer alike, the arguments are left as they were, and the result shares no memory (FnExactCellsOf returns true). No condition.
-/
import Derived.Test.YtjjinblahmcplaaFeCelI
import Derived.Test.YtjjinblahmcplaaFeCelS
import Derived.Test.YtjjinblahmcplaaFeRow
import Derived.Test.YtjjinblahmcplaaSs
namespace Go.Proofs.Ytjjinblahmcplaa
open Go.RowKit Go.WideShapes Go.ChangeShapes Go.ChangeAt

set_option maxRecDepth 100000 in
set_option maxHeartbeats 4000000 in
theorem lawCellsOf_walk (l : List Fe) (A : Option Addr) (c : Nat) (s : Int) (w : World) (hr : RowAt 5 encFe w A l) (hmax : l.length ≤ 9223372036854775807) :
    Calls Try.prog 12 #[.slice A l.length c, .int .i64 s] w fun e w' => e = .returned (.bool true) ∧ Below w.heap.size w w' := by
  by_cases hlen : l.length ≤ 1048576
  · obtain ⟨G, hG⟩ : ∃ G, cellsL s l = G := ⟨_, rfl⟩
    have HG := Lib.hid hG
    have hn : G.length ≤ 2097152 := by rw [← hG]; have := cellsL_le s l; omega
    have HS := Lib.hid (fun (L : List Rw) (h : L.map Rw.l = G) => show totR L ≤ 2097152 ∧ L.length = G.length by
      refine ⟨?_, by rw [← h, List.length_map]⟩
      rw [totR_eq h, ← hG]
      have := cellsL_sum s l
      omega)
    have hr0 := Lib.hid hr
    clear hr hG
    go_enter Try.func12, Try.ntmps12
    go_wp2_with fail
    refine (szFe_fit _ _ _ _ hlen).mono ?_; rintro e w' ⟨rfl, rfl⟩
    -- what the reference returns
    go_wp2_with fail
    refine (toFeS_any l _ _ _ hr0.out hlen).mono ?_; rintro e w1 ⟨A1, c1, rfl, ho1, hb1⟩
    have hx1 := Lib.hid (RowAt.of_own ho1 encFe_len (by omega))
    have kc1 := own_cap ho1
    clear ho1
    go_wp2_with fail
    refine (sCel_any l _ _ s _ hx1.out (by omega)).mono ?_; rw [HG.out]; rintro e w2 ⟨L2, A2, c2, rfl, hp2, ho2, hb2⟩
    have hw2 := Lib.hid ho2.at_
    have P2 := Lib.hid hp2
    clear ho2 hp2
    have b2 := bstep hb1 hb2
    -- what the program returns
    go_wp2_with fail
    refine (toFeS_any l _ _ _ (hr0.out.below b2) hlen).mono ?_; rintro e w3 ⟨A3, c3, rfl, ho3, hb3⟩
    have hx3 := Lib.hid (RowAt.of_own ho3 encFe_len (by omega))
    have kc3 := own_cap ho3
    have ho3 := Lib.hid ho3
    have b3 := bstep b2 hb3
    go_wp2_with fail
    refine (iCel_any l _ _ s _ hx3.out (by omega)).mono ?_; rw [HG.out]; rintro e w4 ⟨L4, A4, c4, rfl, hp4, ho4, hb4⟩
    have hg4 := Lib.hid ho4.at_
    have P4 := Lib.hid hp4
    have ho4 := Lib.hid ho4
    have b4 := bstep b3 hb4
    have d4 := bstep hb3 hb4
    clear hp4
    go_wp2_with fail
    refine (eqSs_same G.length L4 L2 _ _ _ _ _ (HS.out L4 P4.out).2 (P2.out.trans P4.out.symm) hg4.out (hw2.out.below d4) hn (HS.out L4 P4.out).1).mono ?_; rintro e w5 ⟨rfl, hb5⟩
    have b5 := bstep b4 hb5
    have d5 := bstep d4 hb5
    go_wp2_with fail
    refine (toFeS_any l _ _ _ (hr0.out.below b5) hlen).mono ?_; rintro e w6 ⟨A6, c6, rfl, ho6, hb6⟩
    have hx6 := Lib.hid (RowAt.of_own ho6 encFe_len (by omega))
    clear ho6
    have b6 := bstep b5 hb6
    have d6 := bstep d5 hb6
    have x6 := bstep (bstep hb4 hb5) hb6
    go_wp2_with fail
    refine (eqFeS_same l _ _ _ _ _ (hx3.out.below x6) hx6.out (by omega)).mono ?_; rintro e w7 ⟨rfl, hb7⟩
    have b7 := bstep b6 hb7
    have d7 := bstep d6 hb7
    have x7 := bstep x6 hb7
    have g7 := bstep (bstep hb5 hb6) hb7
    -- the program's argument is overwritten
    go_wp2_with fail
    refine (markFeS_any 1 _ _ _ _ _ _ (own_below ho3.out x7) (by omega) (by omega) (by omega)).mono ?_; rintro e w8 ⟨rfl, _, hgr8⟩
    have r3 := row_mine ho3.out
    have t3 := ho3.out.lt
    have b8 := bgrown b7 hgr8 (fun k hk => Nat.le_trans b2.size (r3 k hk))
    have d8 := bgrown d7 hgr8 r3
    have ho8 := Lib.hid (SsRes.kept (ho4.out.below g7) hgr8 (fun k hk => (t3 k hk).2))
    have hg8 := Lib.hid ho8.out.at_
    have hs8 : w3.heap.size ≤ w8.heap.size := Nat.le_trans hb4.size (Nat.le_trans g7.size hgr8.size)
    clear hgr8 t3
    go_wp2_with fail
    refine (eqSs_same G.length L4 L2 _ _ _ _ _ (HS.out L4 P4.out).2 (P2.out.trans P4.out.symm) hg8.out (hw2.out.below d8) hn (HS.out L4 P4.out).1).mono ?_; rintro e w9 ⟨rfl, hb9⟩
    have b9 := bstep b8 hb9
    have d9 := bstep d8 hb9
    have h49 := (HS.out L4 P4.out).1
    have hl4 := (HS.out L4 P4.out).2
    have hs9 := Nat.le_trans hs8 hb9.size
    -- the result is overwritten
    go_wp2_with fail
    have h10 := markSsR_any L4 A4 c4 w3.heap.size w9 (ho8.out.below hb9) hs9 (by omega) h49
    rw [hl4] at h10
    refine h10.mono ?_; rintro e w10 ⟨rfl, ho10, hb10⟩
    have b10 := b9.trans (hb10.mono b3.size)
    have d10 := d9.trans (hb10.mono hb3.size)
    have hm10 := Lib.hid ho10.at_
    clear ho10 h10
    have ht0 : (0 : Int) ≤ (totR L4 : Int) := by omega
    have ht1 : (totR L4 : Int) ≤ 2097152 := by omega
    go_wp2_with fail
    have h11 := heldSsR_any L4 A4 c4 w10 hm10.out (by omega) h49
    rw [hl4] at h11
    refine h11.mono ?_; rintro e w' ⟨rfl, rfl⟩
    clear h11
    -- and asked again
    go_wp2_with fail
    refine (toFeS_any l _ _ _ (hr0.out.below b10) hlen).mono ?_; rintro e w11 ⟨A11, c11, rfl, ho11, hb11⟩
    have hx11 := Lib.hid (RowAt.of_own ho11 encFe_len (by omega))
    have kc11 := own_cap ho11
    clear ho11
    have b11 := bstep b10 hb11
    have d11 := bstep d10 hb11
    go_wp2_with fail
    refine (iCel_any l _ _ s _ hx11.out (by omega)).mono ?_; rw [HG.out]; rintro e w12 ⟨L12, A12, c12, rfl, hp12, ho12, hb12⟩
    have hg12 := Lib.hid ho12.at_
    have P12 := Lib.hid hp12
    clear ho12 hp12
    have b12 := bstep b11 hb12
    have d12 := bstep d11 hb12
    have m12 := bstep hb11 hb12
    go_wp2_with fail
    refine (eqSs_same G.length L12 L2 _ _ _ _ _ (HS.out L12 P12.out).2 (P2.out.trans P12.out.symm) hg12.out (hw2.out.below d12) hn (HS.out L12 P12.out).1).mono ?_; rintro e w13 ⟨rfl, hb13⟩
    have b13 := bstep b12 hb13
    have m13 := bstep m12 hb13
    go_wp2_with fail
    have h14 := heldSsR_any L4 A4 c4 w13 (hm10.out.below m13) (by omega) h49
    rw [hl4] at h14
    refine h14.mono ?_; rintro e w' ⟨rfl, rfl⟩
    go_wp2
    go_ret
    exact ⟨rfl, b13⟩
  · go_enter Try.func12, Try.ntmps12
    go_wp2_with fail
    refine (szFe_big _ _ _ _ (by omega) hmax).mono ?_; rintro e w' ⟨rfl, rfl⟩
    go_wp2
    go_ret
    exact ⟨rfl, (by repeat (first | exact bref _ | (refine balloc ?_ _) | (refine bdrew ?_) | (refine bdrewN ?_ _) | (refine bstep ?_ (by assumption))))⟩
-- THE ROW --
set_option maxRecDepth 100000 in
theorem lawCellsOf_lifted (os : Os) (started : os.Started) (H : Type) (enc : TypeId × Value → H) :
    ReturnsInHanded {} Try.checked os 12 .any (Rows.fnExactCellsOfSpec.pre6 enc Try.prog Try.f12 Rows.fnExactCellsOfRow.domain false) (Rows.fnExactCellsOfSpec.post enc Try.prog Try.f12 false true false false) := by
  refine returnsInHanded_of_change (C := Try.checked) Try.own started (by kernel_rfl) Try.func12
    (ChangeSpec.witness6 (enc := enc) (C := Try.checked) false ⟨#[], #[.slice none 0 0, .int .i64 0], []⟩ 8 (by kernel_rfl) (by kernel_rfl) (by kernel_rfl) (by kernel_rfl)) ?_
  intro W base args ds gs before hval0 hW hcnd _
  have hval : ∀ (j : Nat) t v, Try.f12.params[j]? = some t → args[j]? = some v → Value.okWide Try.prog W .any base t v := hval0
  have hW' := hW
  obtain ⟨p, q, hA0, hV, hpq, hfz, hnd⟩ := hW
  have hA : DataW.TrodAll enc Try.prog W 0 (fun _ => true) true Try.f12.params.toList args.toList ds p := hA0
  rw [Try.params12] at hA hval
  obtain ⟨v0, vs0, d0, ds0, p0, q0, hargs, rfl, rfl, h0, r0⟩ := trodAll_cons hA
  obtain ⟨v1, vs1, d1, ds1, p1, q1, rfl, rfl, rfl, h1, r1⟩ := trodAll_cons r0
  obtain ⟨rfl, rfl, rfl⟩ := trodAll_nil r1
  obtain rfl : args = #[v0, v1] := by cases args; simp_all
  obtain ⟨l0, A0, c0, rfl, hr0, hm0⟩ := rowFe (hval 0 28 v0 rfl rfl) h0
  obtain ⟨a1, rfl, rfl, rfl, w1⟩ := open_int Try.underlying3 (hval 1 3 v1 rfl rfl) h1
  have b1 := bounds_i64 w1
  refine (lawCellsOf_walk l0 A0 c0 a1 W hr0 hm0).mono fun e W' ⟨he, hb⟩ => ?_
  subst he
  exact law_post Try.laidOut (by kernel_rfl) (by kernel_rfl) Try.underlying4 rfl ⟨rfl, rfl, rfl⟩ hW' hb

theorem lawCellsOf : Rows.FnExactCellsOfSaid :=
  OpenClaim.holds_of_wide 12 Try.f12 rfl rfl rfl rfl rfl rfl rfl ⟨rfl, rfl, rfl, rfl, rfl⟩ rfl rfl rfl rfl rfl (by kernel_rfl) Try.func12 (by kernel_rfl)
    (of_decide_eq_true (by kernel_rfl)) (by unfold Func.isWrapper; first | (rw [if_pos (by decide +kernel)]; kernel_rfl) | (rw [if_neg (by decide +kernel)]; exact ⟨rfl, rfl⟩))
    (fun os started H enc _ => lawCellsOf_lifted os started H enc)
end Go.Proofs.Ytjjinblahmcplaa
