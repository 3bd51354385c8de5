/-
  Proved here: for every code, a plane explains the drawn motions as it explains them flipped or turned with the other polarity (FnPlanes returns true). No condition.
-/
import Derived.Test.YtefofllkeghfnaaMoPl
import Derived.Test.YtefofllkeghfnaaMoDrw
import Derived.Test.YtefofllkeghfnaaMoVin
import Derived.Test.YtefofllkeghfnaaVin
import Derived.Test.YtefofllkeghfnaaByte
namespace Go.Proofs.Ytefofllkeghfnaa
open Go.RowKit Go.WideShapes Go.ChangeShapes Go.ChangeAt

set_option maxRecDepth 100000 in
set_option maxHeartbeats 8000000 in
theorem lawPlanes_walk (A : Option Addr) (n c : Nat) (w : World) (hr : CodeAt w A n) (hm : n ≤ 9223372036854775807) :
    Calls Try.prog 13 #[.slice A n c] w fun e w' => e = .returned (.bool true) ∧ Below w.heap.size w w' := by
  have HC := Lib.hid hr
  clear hr
  by_cases hn : n ≤ 65536
  · have hg : ¬ (65536 < (n : Int)) := by omega
    go_enter Try.func13, Try.ntmps13
    go_wp2_with fail
    refine (vBig_any _ _ _ _).mono ?_; rintro e w' ⟨rfl, rfl⟩
    rw [decide_eq_false (show ¬ 65536 < (n : Int) by omega)]
    go_wp2_with fail
    refine (drawExpl_any A n c _ HC.out hn).mono ?_; rintro e w1 ⟨l, B, cb, p, q, rfl, ⟨hl, ho1⟩, hb1⟩
    have HR := Lib.hid (RowAt.of_own ho1 encMo_len (by decide))
    clear ho1
    obtain ⟨N, O, hE⟩ : ∃ N O, explL p q l = (N, O) := ⟨_, _, rfl⟩
    have HE := Lib.hid hE
    have HO := Lib.hid (show O = askMo p q l by rw [← expl_ask, hE])
    clear hE
    go_wp2_with fail
    refine (iExpl_any l B cb p q _ HR.out (by omega)).mono ?_; rw [HE.out]; rintro e w2 ⟨rfl, hb2⟩
    have c2 := bstep hb1 hb2
    go_wp2_with fail
    refine (sExpl_any l B cb p q _ (HR.out.below hb2) (by omega)).mono ?_; rw [HE.out]; rintro e w3 ⟨rfl, hb3⟩
    have c3 := bstep c2 hb3
    have d3 := bstep hb2 hb3
    go_wp2_with fail
    refine (iAreMo_any l B cb _ (HR.out.below d3) (by omega)).mono ?_; rintro e w4 ⟨rfl, hb4⟩
    have c4 := bstep c3 hb4
    have d4 := bstep d3 hb4
    go_wp2_with fail
    refine (sAreMo_any l B cb _ (HR.out.below d4) (by omega)).mono ?_; rintro e w5 ⟨rfl, hb5⟩
    have c5 := bstep c4 hb5
    have d5 := bstep d4 hb5
    clear c2 c3 c4 d3 d4 hb2 hb3 hb4 hb5
    cases O
    case' false =>
      go_wp2_with fail
      have cm := c5
      obtain ⟨wm, hwm⟩ : ∃ wm, wm = w5 := ⟨_, rfl⟩
      rw [← hwm] at cm ⊢
      clear hwm
    case' true =>
      have hask := HO.out.symm
      obtain ⟨hgl, _, _⟩ := ask_good hask
      have HFL := Lib.hid (show flipL l = l.map flipMo by simp [flipL, hgl])
      have HTL := Lib.hid (show turnL l = l.map turnMo by simp [turnL, hgl])
      have HGL := Lib.hid hgl
      have hN := expl_not hask
      rw [HE.out] at hN
      have HASK := Lib.hid hask
      have HNL := Lib.hid (show notL p q l = missL p q l by simp [notL, hask])
      clear hask hgl
      go_wp2_with fail
      refine (iflip_any l B cb _ (HR.out.below d5) (by omega)).mono ?_; rw [HGL.out, HFL.out, List.length_map]; rintro e w6 ⟨A6, c6', rfl, ho6, hb6⟩
      rw [show l.length = (l.map flipMo).length by simp] at ho6
      have HF6 := Lib.hid (RowAt.of_own ho6 encMo_len (by decide))
      have c6 := bstep c5 hb6
      have d6 := bstep d5 hb6
      clear hb6 ho6
      obtain ⟨hp0, hq0⟩ : (0 ≤ p ∧ p ≤ 15) ∧ (-1 ≤ q ∧ q ≤ 1) := by
        obtain ⟨_, h1, h2⟩ := ask_good HASK.out
        exact ⟨h1, by omega⟩
      have HFE := Lib.hid (show explL p (-q) (l.map flipMo) = (N, true) by rw [expl_flip, HE.out])
      have HTE := Lib.hid (show explL p (-q) (l.map turnMo) = (N, true) by rw [expl_turn, HE.out])
      go_wp2_with fail
      have h7 := iExpl_any (l.map flipMo) A6 c6' p (-q) w6 HF6.out (by rw [List.length_map]; omega)
      rw [List.length_map, HFE.out] at h7
      refine h7.mono ?_; rintro e w7 ⟨rfl, hb7⟩
      have c7 := bstep c6 hb7
      have d7 := bstep d6 hb7
      clear h7 hb7
      go_wp2_with fail
      refine (iturn_any l B cb _ (HR.out.below d7) (by omega)).mono ?_; rw [HGL.out, HTL.out, List.length_map]; rintro e w8 ⟨A8, c8', rfl, ho8, hb8⟩
      rw [show l.length = (l.map turnMo).length by simp] at ho8
      have HF8 := Lib.hid (RowAt.of_own ho8 encMo_len (by decide))
      have c8 := bstep c7 hb8
      have d8 := bstep d7 hb8
      clear hb8 ho8
      go_wp2_with fail
      have h9 := iExpl_any (l.map turnMo) A8 c8' p (-q) w8 HF8.out (by rw [List.length_map]; omega)
      rw [List.length_map, HTE.out] at h9
      refine h9.mono ?_; rintro e w9 ⟨rfl, hb9⟩
      have c9 := bstep c8 hb9
      have d9 := bstep d8 hb9
      clear h9 hb9
      go_wp2_with fail
      refine (iNot_any l B cb p q _ (HR.out.below d9) (by omega)).mono ?_; rw [HASK.out]; rintro e w10 ⟨A10, c10', rfl, ho10, hb10⟩
      have cm := bstep c9 hb10
      clear ho10 hb10 c9 c8 c7 c6 d9 d8 d7 d6
      go_wp2_with fail
      obtain ⟨wm, hwm⟩ : ∃ wm, wm = w10 := ⟨_, rfl⟩
      rw [← hwm] at cm ⊢
      clear hwm
    all_goals
      refine (drawNot_any A n c _ (HC.out.below cm) hn).mono ?_; rintro e wx ⟨lx, Bx, kx, px, qx, rfl, ⟨hlx, hox⟩, hbx⟩
      have cx := bstep cm hbx
      have HX := Lib.hid (RowAt.of_own hox encMo_len (by decide))
      have HNX := Lib.hid (notL_le px qx lx)
      clear hox hbx
      go_wp2_with fail
      refine (iNot_any lx Bx kx px qx _ HX.out (by omega)).mono ?_; rintro e wy ⟨Ay, ky, rfl, hoy, hby⟩
      have HY := Lib.hid (RowAt.of_own hoy encI_len (by decide))
      have cy := bstep cx hby
      clear hoy
      go_wp2_with fail
      refine (sNot_any lx Bx kx px qx _ (HX.out.below hby) (by omega)).mono ?_; rintro e wz ⟨Az, kz, rfl, hoz, hbz⟩
      have HZ := Lib.hid (RowAt.of_own hoz encI_len (by decide))
      have cz := bstep cy hbz
      clear hoz
      go_wp2_with fail
      refine (vInts_same (notL px qx lx) Ay Az ky kz _ (HY.out.below hbz) HZ.out (by have := HNX.out; omega)).mono ?_; rintro e wv ⟨rfl, hbv⟩
      have cv := bstep cz hbv
      clear hbv hbz hby HY HZ HNX cx cy cz
      go_wp2_with fail
      refine (drawQuad_any A n c _ (HC.out.below cv) hn).mono ?_; rintro e wd ⟨m, k, rfl, hbd⟩
      have cd := bstep cv hbd
      obtain ⟨qa, qb, hq⟩ : ∃ qa qb, quadOf m.st m.x m.y m.sg k = (qa, qb) := ⟨_, _, rfl⟩
      have HQ := Lib.hid hq
      clear hq hbd cv
      go_wp2_with fail
      have k0 : (wd.alloc (.cells #[.int .i64 m.st, .int .i64 m.x, .int .i64 m.y, .int .i64 m.sg] 33)).cell? ⟨wd.heap.size, 0, none⟩ = some (.int .i64 m.st) := by simp [go_sem]
      have k1 : (wd.alloc (.cells #[.int .i64 m.st, .int .i64 m.x, .int .i64 m.y, .int .i64 m.sg] 33)).cell? ⟨wd.heap.size, 1, none⟩ = some (.int .i64 m.x) := by simp [go_sem]
      have k2 : (wd.alloc (.cells #[.int .i64 m.st, .int .i64 m.x, .int .i64 m.y, .int .i64 m.sg] 33)).cell? ⟨wd.heap.size, 2, none⟩ = some (.int .i64 m.y) := by simp [go_sem]
      have k3 : (wd.alloc (.cells #[.int .i64 m.st, .int .i64 m.x, .int .i64 m.y, .int .i64 m.sg] 33)).cell? ⟨wd.heap.size, 3, none⟩ = some (.int .i64 m.sg) := by simp [go_sem]
      have hkl : wd.heap.size < (wd.alloc (.cells #[.int .i64 m.st, .int .i64 m.x, .int .i64 m.y, .int .i64 m.sg] 33)).heap.size := by simp
      have cb := balloc cd (.cells #[.int .i64 m.st, .int .i64 m.x, .int .i64 m.y, .int .i64 m.sg] 33)
      generalize wd.alloc (.cells #[.int .i64 m.st, .int .i64 m.x, .int .i64 m.y, .int .i64 m.sg] 33) = wb at k0 k1 k2 k3 hkl cb ⊢
      refine (iQuadrantOf_any m.st m.x m.y m.sg k wb).mono ?_; rw [HQ.out]; rintro e we ⟨rfl, hbe⟩
      have j0 := (hbe.cell (p := ⟨wd.heap.size, 0, none⟩) hkl).trans k0
      have j1 := (hbe.cell (p := ⟨wd.heap.size, 1, none⟩) hkl).trans k1
      have j2 := (hbe.cell (p := ⟨wd.heap.size, 2, none⟩) hkl).trans k2
      have j3 := (hbe.cell (p := ⟨wd.heap.size, 3, none⟩) hkl).trans k3
      have ce := bstep cb hbe
      clear k0 k1 k2 k3 hbe cb
      go_wp2_with fail
      refine (sQuadrantOf_any m.st m.x m.y m.sg k we).mono ?_; rw [HQ.out]; rintro e wf ⟨rfl, hbf⟩
      have cf := bstep ce hbf
      clear j0 j1 j2 j3 hbf ce hkl
      go_wp2_with fail
      refine (drawTurn_any A n c _ (HC.out.below cf) hn).mono ?_; rintro e wg ⟨ly, By, kB, rfl, ⟨hly, hoy⟩, hby⟩
      have cg := bstep cf hby
      have HY := Lib.hid (RowAt.of_own hoy encMo_len (by decide))
      have HLY := Lib.hid (show (turnL ly).length ≤ ly.length by unfold turnL; split <;> simp)
      clear hoy hby cf
      go_wp2_with fail
      refine (iturn_any ly By kB _ HY.out (by omega)).mono ?_; rintro e wh ⟨Ah, kh, rfl, hoh, hbh⟩
      have HH := Lib.hid (RowAt.of_own hoh encMo_len (by decide))
      have ch := bstep cg hbh
      clear hoh
      go_wp2_with fail
      refine (sturn_any ly By kB _ (HY.out.below hbh) (by omega)).mono ?_; rintro e wi ⟨Ai, ki, rfl, hoi, hbi⟩
      have HI := Lib.hid (RowAt.of_own hoi encMo_len (by decide))
      have ci := bstep ch hbi
      clear hoi
      go_wp2_with fail
      refine (vMo_same (turnL ly) Ah Ai kh ki _ (HH.out.below hbi) HI.out (by have := HLY.out; omega)).mono ?_; rintro e wj ⟨rfl, hbj⟩
      have cj := bstep ci hbj
      clear hbj hbi hbh HH HI HY HLY cg ch ci
      go_wp2_with fail
      refine (drawFlip_any A n c _ (HC.out.below cj) hn).mono ?_; rintro e wk ⟨lz, Bz, kC, rfl, ⟨hlz, hoz⟩, hbz⟩
      have ck := bstep cj hbz
      have HY := Lib.hid (RowAt.of_own hoz encMo_len (by decide))
      have HLY := Lib.hid (show (flipL lz).length ≤ lz.length by unfold flipL; split <;> simp)
      clear hoz hbz cj
      go_wp2_with fail
      refine (iflip_any lz Bz kC _ HY.out (by omega)).mono ?_; rintro e wl ⟨Al, kl, rfl, hol, hbl⟩
      have HH := Lib.hid (RowAt.of_own hol encMo_len (by decide))
      have cl := bstep ck hbl
      clear hol
      go_wp2_with fail
      refine (sflip_any lz Bz kC _ (HY.out.below hbl) (by omega)).mono ?_; rintro e wo ⟨Ao, ko, rfl, hoo, hbo⟩
      have HI := Lib.hid (RowAt.of_own hoo encMo_len (by decide))
      have co := bstep cl hbo
      clear hoo
      go_wp2_with fail
      refine (vMo_same (flipL lz) Al Ao kl ko _ (HH.out.below hbo) HI.out (by have := HLY.out; omega)).mono ?_; rintro e wq ⟨rfl, hbq⟩
      go_wp2
      go_ret
      exact ⟨rfl, bstep co hbq⟩
  · go_enter Try.func13, Try.ntmps13
    go_wp2_with fail
    refine (vBig_any _ _ _ _).mono ?_; rintro e w' ⟨rfl, rfl⟩
    rw [decide_eq_true (show 65536 < (n : Int) by omega)]
    go_wp2
    go_ret
    exact ⟨rfl, bref _⟩

-- THE ROW --
set_option maxRecDepth 100000 in
theorem lawFnPlanes_lifted (os : Os) (started : os.Started) (H : Type) (enc : TypeId × Value → H) :
    ReturnsInHanded {} Try.checked os 13 .any (Rows.fnPlanesSpec.pre6 enc Try.prog Try.f13 Rows.fnPlanesRow.domain false) (Rows.fnPlanesSpec.post enc Try.prog Try.f13 false true false false) := by
  refine returnsInHanded_of_change (C := Try.checked) Try.own started (by kernel_rfl) Try.func13
    (ChangeSpec.witness6 (enc := enc) (C := Try.checked) false ⟨#[], #[.slice none 0 0], []⟩ 8 (by kernel_rfl) (by kernel_rfl) (by kernel_rfl) (by kernel_rfl)) ?_
  intro W base args ds gs before hval0 hW hcnd _
  have hval : ∀ (j : Nat) t v, Try.f13.params[j]? = some t → args[j]? = some v → Value.okWide Try.prog W .any base t v := hval0
  have hW' := hW
  obtain ⟨p, q, hA0, hV, hpq, hfz, hnd⟩ := hW
  have hA : DataW.TrodAll enc Try.prog W 0 (fun _ => true) true Try.f13.params.toList args.toList ds p := hA0
  rw [Try.params13] at hA hval
  obtain ⟨v0, vs0, d0, ds0, p0, q0, hargs, rfl, rfl, h0, r0⟩ := trodAll_cons hA
  obtain ⟨rfl, rfl, rfl⟩ := trodAll_nil r0
  obtain rfl : args = #[v0] := by cases args; simp_all
  obtain ⟨A0, n0, c0, rfl, hr0, hm0⟩ := rowU8 (hval 0 51 v0 rfl rfl) h0
  refine (lawPlanes_walk A0 n0 c0 W hr0 hm0).mono fun e W' ⟨he, hb⟩ => ?_
  subst he
  exact law_post Try.laidOut (by kernel_rfl) (by kernel_rfl) Try.underlying4 rfl ⟨rfl, rfl, rfl⟩ hW' hb

theorem lawFnPlanes : Rows.FnPlanesSaid :=
  OpenClaim.holds_of_wide 13 Try.f13 rfl rfl rfl rfl rfl rfl rfl ⟨rfl, rfl, rfl, rfl, rfl⟩ rfl rfl rfl rfl rfl (by kernel_rfl) Try.func13 (by kernel_rfl)
    (of_decide_eq_true (by kernel_rfl)) (by unfold Func.isWrapper; first | (rw [if_pos (by decide +kernel)]; kernel_rfl) | (rw [if_neg (by decide +kernel)]; exact ⟨rfl, rfl⟩))
    (fun os started H enc _ => lawFnPlanes_lifted os started H enc)
end Go.Proofs.Ytefofllkeghfnaa
