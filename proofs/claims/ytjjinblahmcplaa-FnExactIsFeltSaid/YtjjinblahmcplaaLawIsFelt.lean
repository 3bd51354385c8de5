/-
  Proved here: for every felt report, impl.IsFelt and spec.IsFelt answer alike (FnExactIsFelt returns true). No condition.
-/
import Derived.Test.YtjjinblahmcplaaFeOne
import Derived.Test.YtjjinblahmcplaaFeRow
namespace Go.Proofs.Ytjjinblahmcplaa
open Go.RowKit Go.WideShapes Go.ChangeShapes Go.ChangeAt

set_option maxHeartbeats 1000000 in
theorem lawIsFelt_walk (i x y l p : Int) (w : World) :
    Calls Try.prog 3 #[.agg #[.int .i64 i, .int .i64 x, .int .i64 y, .int .i64 l, .int .i64 p]] w fun e w' => e = .returned (.bool true) ∧ Below w.heap.size w w' := by
  go_enter Try.func3, Try.ntmps3
  go_wp2_with (first | (go_at_call 16; (with_reducible refine (toFe_any _ _ _ _ _ _).mono ?_); rintro e w1 ⟨rfl, hb1⟩; obtain ⟨hc_hb1, hf_hb1, hz_hb1⟩ := bcell (B := w.heap.size + 1) (by first | omega | (simp; done) | (simp; omega)) hb1) | (go_at_call 15; (with_reducible refine (sIsFelt_any _ _ _ _ _ _).mono ?_); rintro e w2 ⟨rfl, hb2⟩; obtain ⟨hc_hb2, hf_hb2, hz_hb2⟩ := bcell (B := w.heap.size + 1) (by first | omega | (simp; done) | (simp; omega)) hb2) | (go_at_call 17; (with_reducible refine (isFelt_any _ _ _ _ _ _).mono ?_); rintro e w3 ⟨rfl, hb3⟩; obtain ⟨hc_hb3, hf_hb3, hz_hb3⟩ := bcell (B := w.heap.size + 1) (by first | omega | (simp; done) | (simp; omega)) hb3))
  go_ret
  exact ⟨rfl, (by repeat (first | exact bref _ | (refine balloc ?_ _) | (refine bdrew ?_) | (refine bdrewN ?_ _) | (refine bstep ?_ (by assumption))))⟩
-- THE ROW --
set_option maxRecDepth 100000 in
theorem lawIsFelt_lifted (os : Os) (started : os.Started) (H : Type) (enc : TypeId × Value → H) :
    ReturnsInHanded {} Try.checked os 3 .any (Rows.fnExactIsFeltSpec.pre6 enc Try.prog Try.f3 Rows.fnExactIsFeltRow.domain false) (Rows.fnExactIsFeltSpec.post enc Try.prog Try.f3 false true false false) := by
  refine returnsInHanded_of_change (C := Try.checked) Try.own started (by kernel_rfl) Try.func3
    (ChangeSpec.witness6 (enc := enc) (C := Try.checked) false ⟨#[], #[.agg #[.int .i64 0, .int .i64 0, .int .i64 0, .int .i64 0, .int .i64 0]], []⟩ 8 (by kernel_rfl) (by kernel_rfl) (by kernel_rfl) (by kernel_rfl)) ?_
  intro W base args ds gs before hval0 hW hcnd _
  have hval : ∀ (j : Nat) t v, Try.f3.params[j]? = some t → args[j]? = some v → Value.okWide Try.prog W .any base t v := hval0
  have hW' := hW
  obtain ⟨p, q, hA0, hV, hpq, hfz, hnd⟩ := hW
  have hA : DataW.TrodAll enc Try.prog W 0 (fun _ => true) true Try.f3.params.toList args.toList ds p := hA0
  rw [Try.params3] at hA hval
  obtain ⟨v0, vs0, d0, ds0, p0, q0, hargs, rfl, rfl, h0, r0⟩ := trodAll_cons hA
  obtain ⟨rfl, rfl, rfl⟩ := trodAll_nil r0
  obtain rfl : args = #[v0] := by cases args; simp_all
  obtain ⟨x00, x01, x02, x03, x04, y00, y01, y02, y03, y04, m0, rfl, rfl, rfl, t00, t01, t02, t03, t04⟩ := open_agg5 Try.underlying23 (by kernel_rfl) (by kernel_rfl) (hval 0 23 v0 rfl rfl) h0
  obtain ⟨a00, e00, _, w00⟩ := DataW.trod_int Try.underlying3 t00
  simp only [List.cons.injEq, and_true] at e00
  subst e00
  have b00 := bounds_i64 w00
  obtain ⟨a01, e01, _, w01⟩ := DataW.trod_int Try.underlying3 t01
  simp only [List.cons.injEq, and_true] at e01
  subst e01
  have b01 := bounds_i64 w01
  obtain ⟨a02, e02, _, w02⟩ := DataW.trod_int Try.underlying3 t02
  simp only [List.cons.injEq, and_true] at e02
  subst e02
  have b02 := bounds_i64 w02
  obtain ⟨a03, e03, _, w03⟩ := DataW.trod_int Try.underlying3 t03
  simp only [List.cons.injEq, and_true] at e03
  subst e03
  have b03 := bounds_i64 w03
  obtain ⟨a04, e04, _, w04⟩ := DataW.trod_int Try.underlying3 t04
  simp only [List.cons.injEq, and_true] at e04
  subst e04
  have b04 := bounds_i64 w04
  refine (lawIsFelt_walk a00 a01 a02 a03 a04 W).mono fun e W' ⟨he, hb⟩ => ?_
  subst he
  exact law_post Try.laidOut (by kernel_rfl) (by kernel_rfl) Try.underlying4 rfl ⟨rfl, rfl, rfl⟩ hW' hb

theorem lawIsFelt : Rows.FnExactIsFeltSaid :=
  OpenClaim.holds_of_wide 3 Try.f3 rfl rfl rfl rfl rfl rfl rfl ⟨rfl, rfl, rfl, rfl, rfl⟩ rfl rfl rfl rfl rfl (by kernel_rfl) Try.func3 (by kernel_rfl)
    (of_decide_eq_true (by kernel_rfl)) (by unfold Func.isWrapper; first | (rw [if_pos (by decide +kernel)]; kernel_rfl) | (rw [if_neg (by decide +kernel)]; exact ⟨rfl, rfl⟩))
    (fun os started H enc _ => lawIsFelt_lifted os started H enc)
end Go.Proofs.Ytjjinblahmcplaa
