/-
  Proved here: for every duty, impl.IsDuty and spec.IsDuty answer alike (FnExactIsDuty returns true). No condition.
-/
import Derived.Test.YtldhlmjfpnpamaaDuty1
import Derived.Test.YtldhlmjfpnpamaaKit
namespace Go.Proofs.Ytldhlmjfpnpamaa
open Go.RowKit Go.WideShapes Go.ChangeShapes Go.ChangeAt

set_option maxHeartbeats 400000 in
theorem specIsDuty_any (a b c : Int) (d : Bool) (w : World) (hb : -9223372036854775808 ≤ b ∧ b ≤ 9223372036854775807) :
    Calls Try.prog 14 #[.agg #[.int .i64 a, .int .i64 b, .int .i64 c, .bool d]] w fun e w' => e = .returned (.bool (dutyB a b c)) ∧ Below w.heap.size w w' := by
  go_enter Try.func14, Try.ntmps14
  go_wp2_with (go_at_call 52; refine (l17One_any _ _ _ _ _ hb).mono ?_; rintro e w1 ⟨rfl, hb1⟩)
  go_ret
  exact ⟨rfl, (by repeat (first | exact bref _ | (refine balloc ?_ _) | (refine bdrew ?_) | (refine bdrewN ?_ _) | (refine bstep ?_ (by assumption))))⟩

set_option maxHeartbeats 400000 in
theorem lawIsDuty_walk (a b c : Int) (d : Bool) (w : World) (hb : -9223372036854775808 ≤ b ∧ b ≤ 9223372036854775807) :
    Calls Try.prog 3 #[.agg #[.int .i64 a, .int .i64 b, .int .i64 c, .bool d]] w fun e w' => e = .returned (.bool true) ∧ Below w.heap.size w w' := by
  go_enter Try.func3, Try.ntmps3
  go_wp2_with (first | (go_at_call 15; (with_reducible refine (toDuty_any _ _ _ _ _).mono ?_); rintro e w1 ⟨rfl, hb1⟩; obtain ⟨hc_hb1, hf_hb1, hz_hb1⟩ := bcell (B := w.heap.size + 1) (by first | omega | (simp; done) | (simp; omega)) hb1) | (go_at_call 14; (with_reducible refine (specIsDuty_any _ _ _ _ _ hb).mono ?_); rintro e w2 ⟨rfl, hb2⟩; obtain ⟨hc_hb2, hf_hb2, hz_hb2⟩ := bcell (B := w.heap.size + 1) (by first | omega | (simp; done) | (simp; omega)) hb2) | (go_at_call 16; (with_reducible refine (isDuty_any _ _ _ _ _).mono ?_); rintro e w3 ⟨rfl, hb3⟩; obtain ⟨hc_hb3, hf_hb3, hz_hb3⟩ := bcell (B := w.heap.size + 1) (by first | omega | (simp; done) | (simp; omega)) hb3))
  go_ret
  exact ⟨rfl, (by repeat (first | exact bref _ | (refine balloc ?_ _) | (refine bdrew ?_) | (refine bdrewN ?_ _) | (refine bstep ?_ (by assumption))))⟩

set_option maxRecDepth 100000 in
theorem lawIsDuty_lifted (os : Os) (started : os.Started) (H : Type) (enc : TypeId × Value → H) :
    ReturnsInHanded {} Try.checked os 3 .any (Rows.fnExactIsDutySpec.pre6 enc Try.prog Try.f3 Rows.fnExactIsDutyRow.domain false) (Rows.fnExactIsDutySpec.post enc Try.prog Try.f3 false true false false) := by
  refine returnsInHanded_of_change (C := Try.checked) Try.own started (by kernel_rfl) Try.func3
    (ChangeSpec.witness6 (enc := enc) (C := Try.checked) false ⟨#[], #[.agg #[.int .i64 0, .int .i64 0, .int .i64 0, .bool false]], []⟩ 8 (by kernel_rfl) (by kernel_rfl) (by kernel_rfl) (by kernel_rfl)) ?_
  intro W base args ds gs before hval0 hW hcnd _
  have hval : ∀ (j : Nat) t v, Try.f3.params[j]? = some t → args[j]? = some v → Value.okWide Try.prog W .any base t v := hval0
  have hW' := hW
  obtain ⟨p, q, hA0, hV, hpq, hfz, hnd⟩ := hW
  have hA : DataW.TrodAll enc Try.prog W 0 (fun _ => true) true Try.f3.params.toList args.toList ds p := hA0
  rw [Try.params3] at hA hval
  obtain ⟨v0, vs0, d0, ds0, p0, q0, hargs, rfl, rfl, h0, r0⟩ := trodAll_cons hA
  obtain ⟨rfl, rfl, rfl⟩ := trodAll_nil r0
  obtain rfl : args = #[v0] := by cases args; simp_all
  obtain ⟨c0, c1, c2, c3, y0, y1, y2, y3, m, rfl, rfl, rfl, hy0, hy1, hy2, hy3⟩ := Joins.open_agg4 Try.underlying23 (by kernel_rfl) (by kernel_rfl) (hval 0 23 v0 rfl rfl) h0
  obtain ⟨a, e0, rfl, wa⟩ := DataW.trod_int Try.underlying3 hy0
  obtain ⟨b, e1, rfl, wb⟩ := DataW.trod_int Try.underlying3 hy1
  obtain ⟨c, e2, rfl, wc⟩ := DataW.trod_int Try.underlying3 hy2
  obtain ⟨d, e3, rfl⟩ := DataW.trod_bool Try.underlying4 hy3
  simp at e0 e1 e2 e3
  subst e0 e1 e2 e3
  refine (lawIsDuty_walk a b c d W ?_).mono fun e W' ⟨he, hb⟩ => ?_
  · simpa [Lit.wf, IntKind.min, IntKind.max, IntKind.signed, IntKind.bits] using wb
  · subst he
    exact law_post Try.laidOut (by kernel_rfl) (by kernel_rfl) Try.underlying4 rfl ⟨rfl, rfl, rfl⟩ hW' hb

theorem lawIsDuty : Rows.FnExactIsDutySaid :=
  OpenClaim.holds_of_wide 3 Try.f3 rfl rfl rfl rfl rfl rfl rfl ⟨rfl, rfl, rfl, rfl, rfl⟩ rfl rfl rfl rfl rfl (by kernel_rfl) Try.func3 (by kernel_rfl)
    (of_decide_eq_true (by kernel_rfl)) (by unfold Func.isWrapper; first | (rw [if_pos (by decide +kernel)]; kernel_rfl) | (rw [if_neg (by decide +kernel)]; exact ⟨rfl, rfl⟩))
    (fun os started H enc _ => lawIsDuty_lifted os started H enc)
end Go.Proofs.Ytldhlmjfpnpamaa
