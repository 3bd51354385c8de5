/-
  Proved here: for every two quakes and window, impl.DoMatch and spec.DoMatch answer alike (FnExactDoMatch returns true). No condition.
-/
import Derived.Test.YtlinjkfbcekepaaQuMatch
import Derived.Test.YtlinjkfbcekepaaQuRow
namespace Go.Proofs.Ytlinjkfbcekepaa
open Go.RowKit Go.WideShapes Go.ChangeShapes Go.ChangeAt
attribute [local go_sem] ext_cell ext_frozen

set_option maxRecDepth 100000 in
set_option maxHeartbeats 2000000 in
theorem lawDoMatch_walk (a00 a01 a02 a03 a10 a11 a12 a13 a2 a3 : Int) (w : World) (b00 : -9223372036854775808 ≤ a00 ∧ a00 ≤ 9223372036854775807) (b01 : -9223372036854775808 ≤ a01 ∧ a01 ≤ 9223372036854775807) (b02 : -9223372036854775808 ≤ a02 ∧ a02 ≤ 9223372036854775807) (b03 : -9223372036854775808 ≤ a03 ∧ a03 ≤ 9223372036854775807) (b10 : -9223372036854775808 ≤ a10 ∧ a10 ≤ 9223372036854775807) (b11 : -9223372036854775808 ≤ a11 ∧ a11 ≤ 9223372036854775807) (b12 : -9223372036854775808 ≤ a12 ∧ a12 ≤ 9223372036854775807) (b13 : -9223372036854775808 ≤ a13 ∧ a13 ≤ 9223372036854775807) (b2 : -9223372036854775808 ≤ a2 ∧ a2 ≤ 9223372036854775807) (b3 : -9223372036854775808 ≤ a3 ∧ a3 ≤ 9223372036854775807) :
    Calls Try.prog 3 #[.agg #[.int .i64 a00, .int .i64 a01, .int .i64 a02, .int .i64 a03], .agg #[.int .i64 a10, .int .i64 a11, .int .i64 a12, .int .i64 a13], .int .i64 a2, .int .i64 a3] w fun e w' => e = .returned (.bool true) ∧ Below w.heap.size w w' := by
  go_enter Try.func3, Try.ntmps3
  go_wp2_with fail
  (refine wp_region_calm (by kernel_rfl) (by kernel_rfl) ?_; (repeat (go_big_quiet_step ((first | (go_at_call 15; exact calm_of (toQu_any _ _ _ _ _)) | (go_at_call 14; exact calm_of (sDo_any ⟨a00, a01, a02, a03⟩ ⟨a10, a11, a12, a13⟩ a2 a3 _)))))); refine wpQuiet_nil ?_; intro xw; have hb1 := xw.is; generalize xw.w = w1 at hb1 ⊢; clear xw)
  have hz1 : w.heap.size + 1 + 1 ≤ w1.heap.size := by simpa using hb1.size
  have hs1 : w.heap.size < w1.heap.size := by omega
  have hs2 : w.heap.size + 1 < w1.heap.size := by omega
  have q00 : w1.cell? ⟨w.heap.size, 0, none⟩ = some (.int .i64 a00) := (hb1.cell (p := ⟨w.heap.size, 0, none⟩) (by simp <;> omega)).trans (by simp [go_sem])
  have q01 : w1.cell? ⟨w.heap.size, 1, none⟩ = some (.int .i64 a01) := (hb1.cell (p := ⟨w.heap.size, 1, none⟩) (by simp <;> omega)).trans (by simp [go_sem])
  have q02 : w1.cell? ⟨w.heap.size, 2, none⟩ = some (.int .i64 a02) := (hb1.cell (p := ⟨w.heap.size, 2, none⟩) (by simp <;> omega)).trans (by simp [go_sem])
  have q03 : w1.cell? ⟨w.heap.size, 3, none⟩ = some (.int .i64 a03) := (hb1.cell (p := ⟨w.heap.size, 3, none⟩) (by simp <;> omega)).trans (by simp [go_sem])
  have q10 : w1.cell? ⟨w.heap.size + 1, 0, none⟩ = some (.int .i64 a10) := (hb1.cell (p := ⟨w.heap.size + 1, 0, none⟩) (by simp <;> omega)).trans (by simp [go_sem])
  have q11 : w1.cell? ⟨w.heap.size + 1, 1, none⟩ = some (.int .i64 a11) := (hb1.cell (p := ⟨w.heap.size + 1, 1, none⟩) (by simp <;> omega)).trans (by simp [go_sem])
  have q12 : w1.cell? ⟨w.heap.size + 1, 2, none⟩ = some (.int .i64 a12) := (hb1.cell (p := ⟨w.heap.size + 1, 2, none⟩) (by simp <;> omega)).trans (by simp [go_sem])
  have q13 : w1.cell? ⟨w.heap.size + 1, 3, none⟩ = some (.int .i64 a13) := (hb1.cell (p := ⟨w.heap.size + 1, 3, none⟩) (by simp <;> omega)).trans (by simp [go_sem])
  go_wp2_with fail
  (refine wp_region_calm (by kernel_rfl) (by kernel_rfl) ?_; (repeat (go_big_quiet_step ((first | (go_at_call 15; exact calm_of (toQu_any _ _ _ _ _)) | (go_at_call 16; exact calm_of (iDo_any ⟨a00, a01, a02, a03⟩ ⟨a10, a11, a12, a13⟩ a2 a3 _)))))); refine wpQuiet_nil ?_; intro xw; have hb2 := xw.is; generalize xw.w = w2 at hb2 ⊢; clear xw)
  go_wp2
  go_ret
  exact ⟨rfl, (by repeat (first | exact bref _ | (refine balloc ?_ _) | (refine bdrew ?_) | (refine bdrewN ?_ _) | (refine bstep ?_ (by assumption))))⟩

-- THE ROW --
set_option maxRecDepth 100000 in
theorem lawDoMatch_lifted (os : Os) (started : os.Started) (H : Type) (enc : TypeId × Value → H) :
    ReturnsInHanded {} Try.checked os 3 .any (Rows.fnExactDoMatchSpec.pre6 enc Try.prog Try.f3 Rows.fnExactDoMatchRow.domain false) (Rows.fnExactDoMatchSpec.post enc Try.prog Try.f3 false true false false) := by
  refine returnsInHanded_of_change (C := Try.checked) Try.own started (by kernel_rfl) Try.func3
    (ChangeSpec.witness6 (enc := enc) (C := Try.checked) false ⟨#[], #[.agg #[.int .i64 0, .int .i64 0, .int .i64 0, .int .i64 0], .agg #[.int .i64 0, .int .i64 0, .int .i64 0, .int .i64 0], .int .i64 0, .int .i64 0], []⟩ 8 (by kernel_rfl) (by kernel_rfl) (by kernel_rfl) (by kernel_rfl)) ?_
  intro W base args ds gs before hval0 hW hcnd _
  have hval : ∀ (j : Nat) t v, Try.f3.params[j]? = some t → args[j]? = some v → Value.okWide Try.prog W .any base t v := hval0
  have hW' := hW
  obtain ⟨p, q, hA0, hV, hpq, hfz, hnd⟩ := hW
  have hA : DataW.TrodAll enc Try.prog W 0 (fun _ => true) true Try.f3.params.toList args.toList ds p := hA0
  rw [Try.params3] at hA hval
  obtain ⟨v0, vs0, d0, ds0, p0, q0, hargs, rfl, rfl, h0, r0⟩ := trodAll_cons hA
  obtain ⟨v1, vs1, d1, ds1, p1, q1, rfl, rfl, rfl, h1, r1⟩ := trodAll_cons r0
  obtain ⟨v2, vs2, d2, ds2, p2, q2, rfl, rfl, rfl, h2, r2⟩ := trodAll_cons r1
  obtain ⟨v3, vs3, d3, ds3, p3, q3, rfl, rfl, rfl, h3, r3⟩ := trodAll_cons r2
  obtain ⟨rfl, rfl, rfl⟩ := trodAll_nil r3
  obtain rfl : args = #[v0, v1, v2, v3] := by cases args; simp_all
  obtain ⟨x00, x01, x02, x03, y00, y01, y02, y03, m0, rfl, rfl, rfl, t00, t01, t02, t03⟩ := Joins.open_agg4 Try.underlying23 (by kernel_rfl) (by kernel_rfl) (hval 0 23 v0 rfl rfl) h0
  obtain ⟨a00, e00, _, w00⟩ := DataW.trod_int Try.underlying3 t00
  simp only [List.cons.injEq, and_true] at e00
  subst e00
  have b00 := bounds_i64 w00
  obtain ⟨a01, e01, _, w01⟩ := DataW.trod_int Try.underlying3 t01
  simp only [List.cons.injEq, and_true] at e01
  subst e01
  have b01 := bounds_i64 w01
  obtain ⟨a02, e02, _, w02⟩ := DataW.trod_int Try.underlying3 t02
  simp only [List.cons.injEq, and_true] at e02
  subst e02
  have b02 := bounds_i64 w02
  obtain ⟨a03, e03, _, w03⟩ := DataW.trod_int Try.underlying3 t03
  simp only [List.cons.injEq, and_true] at e03
  subst e03
  have b03 := bounds_i64 w03
  obtain ⟨x10, x11, x12, x13, y10, y11, y12, y13, m1, rfl, rfl, rfl, t10, t11, t12, t13⟩ := Joins.open_agg4 Try.underlying23 (by kernel_rfl) (by kernel_rfl) (hval 1 23 v1 rfl rfl) h1
  obtain ⟨a10, e10, _, w10⟩ := DataW.trod_int Try.underlying3 t10
  simp only [List.cons.injEq, and_true] at e10
  subst e10
  have b10 := bounds_i64 w10
  obtain ⟨a11, e11, _, w11⟩ := DataW.trod_int Try.underlying3 t11
  simp only [List.cons.injEq, and_true] at e11
  subst e11
  have b11 := bounds_i64 w11
  obtain ⟨a12, e12, _, w12⟩ := DataW.trod_int Try.underlying3 t12
  simp only [List.cons.injEq, and_true] at e12
  subst e12
  have b12 := bounds_i64 w12
  obtain ⟨a13, e13, _, w13⟩ := DataW.trod_int Try.underlying3 t13
  simp only [List.cons.injEq, and_true] at e13
  subst e13
  have b13 := bounds_i64 w13
  obtain ⟨a2, rfl, rfl, rfl, w2⟩ := open_int Try.underlying3 (hval 2 3 v2 rfl rfl) h2
  have b2 := bounds_i64 w2
  obtain ⟨a3, rfl, rfl, rfl, w3⟩ := open_int Try.underlying3 (hval 3 3 v3 rfl rfl) h3
  have b3 := bounds_i64 w3
  refine (lawDoMatch_walk a00 a01 a02 a03 a10 a11 a12 a13 a2 a3 W b00 b01 b02 b03 b10 b11 b12 b13 b2 b3).mono fun e W' ⟨he, hb⟩ => ?_
  subst he
  exact law_post Try.laidOut (by kernel_rfl) (by kernel_rfl) Try.underlying4 rfl ⟨rfl, rfl, rfl⟩ hW' hb

theorem lawDoMatch : Rows.FnExactDoMatchSaid :=
  OpenClaim.holds_of_wide 3 Try.f3 rfl rfl rfl rfl rfl rfl rfl ⟨rfl, rfl, rfl, rfl, rfl⟩ rfl rfl rfl rfl rfl (by kernel_rfl) Try.func3 (by kernel_rfl)
    (of_decide_eq_true (by kernel_rfl)) (by unfold Func.isWrapper; first | (rw [if_pos (by decide +kernel)]; kernel_rfl) | (rw [if_neg (by decide +kernel)]; exact ⟨rfl, rfl⟩))
    (fun os started H enc _ => lawDoMatch_lifted os started H enc)
end Go.Proofs.Ytlinjkfbcekepaa
