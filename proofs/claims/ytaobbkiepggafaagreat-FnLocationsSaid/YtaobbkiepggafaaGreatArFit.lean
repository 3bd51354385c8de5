/-
  Whether an origin is consistent with arrivals: impl and spec answer alike.
-/
import Derived.Test.YtaobbkiepggafaaGreatArTks
import Derived.Test.YtaobbkiepggafaaGreatArPs
import Derived.Test.YtaobbkiepggafaaGreatApp
import Derived.Test.YtaobbkiepggafaaGreatKit
namespace Go.Proofs.YtaobbkiepggafaaGreat
set_option linter.unusedVariables false
set_option linter.unusedSimpArgs false
set_option linter.unnecessarySimpa false
open Go.RowKit
attribute [local go_sem] ext_cell ext_frozen

set_option maxRecDepth 100000 in
set_option maxHeartbeats 4000000 in
theorem l10Ticks_any (a : Ar) (x y : Int) (w : World) (ha : oneArM a = true) (hx : 0 ≤ x ∧ x ≤ 1014) (hy : 0 ≤ y ∧ y ≤ 1014) :
    Calls Tryz.prog 80 #[.agg #[.int .i64 a.id, .int .i64 a.x, .int .i64 a.y, .int .i64 a.tk, .int .i64 a.er], .int .i64 x, .int .i64 y] w fun e w' => e = .returned (.tuple #[.int .i64 (loT a x y), .int .i64 (hiT a x y)]) ∧ Below w.heap.size w w' := by
  obtain ⟨_, bx, by_, bt, be⟩ := oneAr_bounds ha
  have hs := sqT_bd ha hx hy
  obtain ⟨hr, hr4⟩ := rt_spec (n := 400 * sqT a x y) (by omega) (by omega)
  have hr0 := hr.1
  have hr1 := hr.2.1
  have hr2 := Int.mul_nonneg hr0 hr0
  have HS := Lib.hid (fun W => l10Square_any a x y W ha hx hy)
  have HR := Lib.hid (fun W => l10Root_any (400 * sqT a x y) W (by omega) (by omega))
  have HF := Lib.hid (show loT a x y = maxI 0 (a.tk - a.er - rt (400 * sqT a x y)) ∧ hiT a x y = minI 1000000 (a.tk + a.er - upT (400 * sqT a x y)) from ⟨rfl, rfl⟩)
  have HU := Lib.hid (show upT (400 * sqT a x y) = if rt (400 * sqT a x y) * rt (400 * sqT a x y) = 400 * sqT a x y then rt (400 * sqT a x y) else rt (400 * sqT a x y) + 1 from rfl)
  have HB0 := Lib.hid (boxAr w 71 a)
  generalize upT (400 * sqT a x y) = u at HF HU
  have hn : 400 * sqT a x y ≤ 1600000000 := by omega
  generalize 400 * sqT a x y = n at HS HR HF HU hr hr4 hr0 hr1 hr2 hn
  generalize rt n = r at HR HF HU hr hr4 hr0 hr1 hr2
  clear hr
  have hw1 : IntKind.i64.wrap (a.tk - a.er) = a.tk - a.er := by rw [IntKind.wrap_i64]; omega
  have hw2 : IntKind.i64.wrap (a.tk - a.er - r) = a.tk - a.er - r := by rw [IntKind.wrap_i64]; omega
  have hw3 : IntKind.i64.wrap (a.tk + a.er) = a.tk + a.er := by rw [IntKind.wrap_i64]; omega
  have hw4 : IntKind.i64.wrap (a.tk + a.er - u) = a.tk + a.er - u := by
    have := HU.out
    rw [IntKind.wrap_i64]; split at this <;> omega
  have HM := Lib.hid (fun W => l1Most_any 0 (a.tk - a.er - r) W)
  have HMI := Lib.hid (fun W => l1Least_any 1000000 (a.tk + a.er - u) W)
  by_cases hex : r * r < n
  · rw [if_neg (by omega)] at HU
    have hu := HU.out
    subst hu
    go_enter Tryz.func80, Tryz.ntmps80
    go_wp2_with (first | (go_at_call 57; (with_reducible refine (HS.out _).mono ?_); rintro e w' ⟨rfl, rfl⟩) | (go_at_call 56; (with_reducible refine (HR.out _).mono ?_); rintro e w1 ⟨rfl, hb1⟩; obtain ⟨d1, d2, d3, d4⟩ := cellAr4 (by simp) HB0.out hb1))
    have hs1 := hb1.size
    simp only [World.size_alloc] at hs1
    have hz1 : w.heap.size < w1.heap.size := by omega
    (refine wp_region_calm (by kernel_rfl) (by kernel_rfl) ?_; (repeat (go_big_quiet_step ((first | (go_at_call 26; with_reducible exact calm_same (HM.out _)) | (go_at_call 55; with_reducible exact calm_same (HMI.out _)))))); refine wpQuiet_nil ?_; intro xw; have hb2 := xw.is; generalize xw.w = w2 at hb2 ⊢; clear xw)
    go_wp2_with fail
    go_ret2
    exact ⟨ret_ii (F := (loT a x y, hiT a x y)) (by rw [HF.out.1, HF.out.2]), bstep (bstep (balloc (bref _) _) hb1) hb2⟩
  · rw [if_pos (by omega)] at HU
    have hu := HU.out
    subst hu
    go_enter Tryz.func80, Tryz.ntmps80
    go_wp2_with (first | (go_at_call 57; (with_reducible refine (HS.out _).mono ?_); rintro e w' ⟨rfl, rfl⟩) | (go_at_call 56; (with_reducible refine (HR.out _).mono ?_); rintro e w1 ⟨rfl, hb1⟩; obtain ⟨d1, d2, d3, d4⟩ := cellAr4 (by simp) HB0.out hb1))
    have hs1 := hb1.size
    simp only [World.size_alloc] at hs1
    have hz1 : w.heap.size < w1.heap.size := by omega
    (refine wp_region_calm (by kernel_rfl) (by kernel_rfl) ?_; (repeat (go_big_quiet_step ((first | (go_at_call 26; with_reducible exact calm_same (HM.out _)) | (go_at_call 55; with_reducible exact calm_same (HMI.out _)))))); refine wpQuiet_nil ?_; intro xw; have hb2 := xw.is; generalize xw.w = w2 at hb2 ⊢; clear xw)
    go_wp2_with fail
    go_ret2
    exact ⟨ret_ii (F := (loT a x y, hiT a x y)) (by rw [HF.out.1, HF.out.2]), bstep (bstep (balloc (bref _) _) hb1) hb2⟩
end Go.Proofs.YtaobbkiepggafaaGreat
