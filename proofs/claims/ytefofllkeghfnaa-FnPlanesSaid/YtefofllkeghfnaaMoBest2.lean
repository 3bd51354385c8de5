/-
  BestPlane and FewestMisses: impl and spec compute one answer.
-/
import Derived.Test.YtefofllkeghfnaaMoBest
namespace Go.Proofs.Ytefofllkeghfnaa
open Go.RowKit

def fewL (l : List Mo) : Int × Bool := if goodMo l then ((bestK l 16).2.2, true) else (0, false)
def bestL (l : List Mo) : Int × Int × Bool := if goodMo l && decide (l ≠ []) then ((bestK l 16).1, (bestK l 16).2.1, true) else (0, 0, false)

set_option maxHeartbeats 1000000 in
theorem sFew_any (l : List Mo) (A : Option Addr) (c : Nat) (w : World) (hr : RowAt 4 encMo w A l) (hlen : l.length ≤ 2097152) :
    Calls Try.prog 32 #[.slice A l.length c] w fun e w' => e = .returned (.tuple #[.int .i64 (fewL l).1, .bool (fewL l).2]) ∧ Below w.heap.size w w' := by
  have HR := Lib.hid hr
  clear hr
  cases hg : goodMo l
  · have HE := Lib.hid (show fewL l = (0, false) by simp [fewL, hg])
    go_enter Try.func32, Try.ntmps32
    go_wp2_with (go_at_call 53; (with_reducible refine (sgoodMo_any l _ _ _ HR.out hlen).mono ?_); rintro e w1 ⟨rfl, hb1⟩; obtain ⟨hc_hb1, hf_hb1, hz_hb1⟩ := bcell (B := w.heap.size) (by first | omega | (simp; done) | (simp; omega)) hb1)
    go_ret2
    exact ⟨ret_ib HE.out, hb1⟩
  · have HE := Lib.hid (show fewL l = ((bestK l 16).2.2, true) by simp [fewL, hg])
    have HG := Lib.hid hg
    go_enter Try.func32, Try.ntmps32
    go_wp2_with (first | (go_at_call 53; (with_reducible refine (sgoodMo_any l _ _ _ HR.out hlen).mono ?_); rintro e w1 ⟨rfl, hb1⟩; obtain ⟨hc_hb1, hf_hb1, hz_hb1⟩ := bcell (B := w.heap.size) (by first | omega | (simp; done) | (simp; omega)) hb1) | (go_at_call 67; (with_reducible refine (sBest_any l _ _ _ (HR.out.below hb1) hlen HG.out).mono ?_); rintro e w2 ⟨rfl, hb2⟩))
    go_ret2
    exact ⟨ret_ib HE.out, bstep hb1 hb2⟩

set_option maxHeartbeats 1000000 in
theorem sBestP_any (l : List Mo) (A : Option Addr) (c : Nat) (w : World) (hr : RowAt 4 encMo w A l) (hlen : l.length ≤ 2097152) :
    Calls Try.prog 30 #[.slice A l.length c] w fun e w' => e = .returned (.tuple #[.int .i64 (bestL l).1, .int .i64 (bestL l).2.1, .bool (bestL l).2.2]) ∧ Below w.heap.size w w' := by
  have HR := Lib.hid hr
  clear hr
  cases hg : goodMo l
  · have HE := Lib.hid (show bestL l = (0, 0, false) by simp [bestL, hg])
    go_enter Try.func30, Try.ntmps30
    go_wp2_with (go_at_call 53; (with_reducible refine (sgoodMo_any l _ _ _ HR.out hlen).mono ?_); rintro e w1 ⟨rfl, hb1⟩; obtain ⟨hc_hb1, hf_hb1, hz_hb1⟩ := bcell (B := w.heap.size) (by first | omega | (simp; done) | (simp; omega)) hb1)
    go_ret3
    exact ⟨ret_iib HE.out, hb1⟩
  · by_cases h0 : l = []
    · have HE := Lib.hid (show bestL l = (0, 0, false) by simp [bestL, h0])
      have hl0 : l.length = 0 := by simp [h0]
      have hi0 : (l.length : Int) = 0 := by omega
      clear h0 hl0
      go_enter Try.func30, Try.ntmps30
      go_wp2_with (go_at_call 53; (with_reducible refine (sgoodMo_any l _ _ _ HR.out hlen).mono ?_); rintro e w1 ⟨rfl, hb1⟩; obtain ⟨hc_hb1, hf_hb1, hz_hb1⟩ := bcell (B := w.heap.size) (by first | omega | (simp; done) | (simp; omega)) hb1)
      go_ret3
      exact ⟨ret_iib HE.out, hb1⟩
    · have HE := Lib.hid (show bestL l = ((bestK l 16).1, (bestK l 16).2.1, true) by simp [bestL, hg, h0])
      have HG := Lib.hid hg
      have hl0 : ¬ l.length = 0 := by simpa using h0
      have hi0 : ¬ (l.length : Int) = 0 := by omega
      go_enter Try.func30, Try.ntmps30
      go_wp2_with (first | (go_at_call 53; (with_reducible refine (sgoodMo_any l _ _ _ HR.out hlen).mono ?_); rintro e w1 ⟨rfl, hb1⟩; obtain ⟨hc_hb1, hf_hb1, hz_hb1⟩ := bcell (B := w.heap.size) (by first | omega | (simp; done) | (simp; omega)) hb1) | (go_at_call 67; (with_reducible refine (sBest_any l _ _ _ (HR.out.below hb1) hlen HG.out).mono ?_); rintro e w2 ⟨rfl, hb2⟩))
      go_ret3
      exact ⟨ret_iib HE.out, bstep hb1 hb2⟩

set_option maxHeartbeats 1000000 in
theorem iFew_any (l : List Mo) (A : Option Addr) (c : Nat) (w : World) (hr : RowAt 4 encMo w A l) (hlen : l.length ≤ 2097152) :
    Calls Try.prog 33 #[.slice A l.length c] w fun e w' => e = .returned (.tuple #[.int .i64 (fewL l).1, .bool (fewL l).2]) ∧ Below w.heap.size w w' := by
  have HR := Lib.hid hr
  clear hr
  cases hg : goodMo l
  · have HE := Lib.hid (show fewL l = (0, false) by simp [fewL, hg])
    go_enter Try.func33, Try.ntmps33
    go_wp2_with (go_at_call 17; (with_reducible refine (iAreMo_any l _ _ _ HR.out hlen).mono ?_); rintro e w1 ⟨rfl, hb1⟩; obtain ⟨hc_hb1, hf_hb1, hz_hb1⟩ := bcell (B := w.heap.size) (by first | omega | (simp; done) | (simp; omega)) hb1)
    go_ret2
    exact ⟨ret_ib HE.out, hb1⟩
  · have HE := Lib.hid (show fewL l = ((bestK l 16).2.2, true) by simp [fewL, hg])
    have HG := Lib.hid hg
    go_enter Try.func33, Try.ntmps33
    go_wp2_with (first | (go_at_call 17; (with_reducible refine (iAreMo_any l _ _ _ HR.out hlen).mono ?_); rintro e w1 ⟨rfl, hb1⟩; obtain ⟨hc_hb1, hf_hb1, hz_hb1⟩ := bcell (B := w.heap.size) (by first | omega | (simp; done) | (simp; omega)) hb1) | (go_at_call 68; (with_reducible refine (iBest_any l _ _ _ (HR.out.below hb1) hlen HG.out).mono ?_); rintro e w2 ⟨rfl, hb2⟩))
    go_ret2
    exact ⟨ret_ib HE.out, bstep hb1 hb2⟩

set_option maxHeartbeats 1000000 in
theorem iBestP_any (l : List Mo) (A : Option Addr) (c : Nat) (w : World) (hr : RowAt 4 encMo w A l) (hlen : l.length ≤ 2097152) :
    Calls Try.prog 31 #[.slice A l.length c] w fun e w' => e = .returned (.tuple #[.int .i64 (bestL l).1, .int .i64 (bestL l).2.1, .bool (bestL l).2.2]) ∧ Below w.heap.size w w' := by
  have HR := Lib.hid hr
  clear hr
  cases hg : goodMo l
  · have HE := Lib.hid (show bestL l = (0, 0, false) by simp [bestL, hg])
    go_enter Try.func31, Try.ntmps31
    go_wp2_with (go_at_call 17; (with_reducible refine (iAreMo_any l _ _ _ HR.out hlen).mono ?_); rintro e w1 ⟨rfl, hb1⟩; obtain ⟨hc_hb1, hf_hb1, hz_hb1⟩ := bcell (B := w.heap.size) (by first | omega | (simp; done) | (simp; omega)) hb1)
    go_ret3
    exact ⟨ret_iib HE.out, hb1⟩
  · by_cases h0 : l = []
    · have HE := Lib.hid (show bestL l = (0, 0, false) by simp [bestL, h0])
      have hl0 : l.length = 0 := by simp [h0]
      have hi0 : (l.length : Int) = 0 := by omega
      clear h0 hl0
      go_enter Try.func31, Try.ntmps31
      go_wp2_with (go_at_call 17; (with_reducible refine (iAreMo_any l _ _ _ HR.out hlen).mono ?_); rintro e w1 ⟨rfl, hb1⟩; obtain ⟨hc_hb1, hf_hb1, hz_hb1⟩ := bcell (B := w.heap.size) (by first | omega | (simp; done) | (simp; omega)) hb1)
      go_ret3
      exact ⟨ret_iib HE.out, hb1⟩
    · have HE := Lib.hid (show bestL l = ((bestK l 16).1, (bestK l 16).2.1, true) by simp [bestL, hg, h0])
      have HG := Lib.hid hg
      have hl0 : ¬ l.length = 0 := by simpa using h0
      have hi0 : ¬ (l.length : Int) = 0 := by omega
      go_enter Try.func31, Try.ntmps31
      go_wp2_with (first | (go_at_call 17; (with_reducible refine (iAreMo_any l _ _ _ HR.out hlen).mono ?_); rintro e w1 ⟨rfl, hb1⟩; obtain ⟨hc_hb1, hf_hb1, hz_hb1⟩ := bcell (B := w.heap.size) (by first | omega | (simp; done) | (simp; omega)) hb1) | (go_at_call 68; (with_reducible refine (iBest_any l _ _ _ (HR.out.below hb1) hlen HG.out).mono ?_); rintro e w2 ⟨rfl, hb2⟩))
      go_ret3
      exact ⟨ret_iib HE.out, bstep hb1 hb2⟩
end Go.Proofs.Ytefofllkeghfnaa
