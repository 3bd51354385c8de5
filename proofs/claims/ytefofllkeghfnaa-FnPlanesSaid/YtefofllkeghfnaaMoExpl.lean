/-
  How many motions a plane with a polarity explains: impl and spec compute one number.
-/
import Derived.Test.YtefofllkeghfnaaMoMiss
namespace Go.Proofs.Ytefofllkeghfnaa
open Go.RowKit

def askMo (p q : Int) (l : List Mo) : Bool := goodMo l && inB p 0 15 && (q == 1 || q == -1)
def explL (p q : Int) (l : List Mo) : Int × Bool := if askMo p q l then ((l.length : Int) - (missL p q l).length, true) else (0, false)
theorem pol_of {q : Int} (h : (q == 1 || q == -1) = true) : q = 1 ∨ q = -1 := by simpa using h
theorem missL_le (p q : Int) (l : List Mo) : (missL p q l).length ≤ l.length := by rw [missL_len]; exact List.length_filter_le _ _

set_option maxHeartbeats 1000000 in
theorem asked_any (l : List Mo) (A : Option Addr) (c : Nat) (p q : Int) (w : World) (hr : RowAt 4 encMo w A l) (hlen : l.length ≤ 2097152) :
    Calls Try.prog 63 #[.slice A l.length c, .int .i64 p, .int .i64 q] w fun e w' => e = .returned (.bool (askMo p q l)) ∧ Below w.heap.size w w' := by
  cases h1 : goodMo l <;> cases h2 : inB p 0 15
  all_goals
    go_enter Try.func63, Try.ntmps63
    go_wp2_with (first | (go_at_call 53; (with_reducible refine (sgoodMo_any l _ _ _ hr hlen).mono ?_); rintro e w1 ⟨rfl, hb1⟩; obtain ⟨hc_hb1, hf_hb1, hz_hb1⟩ := bcell (B := w.heap.size) (by first | omega | (simp; done) | (simp; omega)) hb1) | (go_at_call 59; (with_reducible refine (l13Plane_any _ _).mono ?_); rintro e w' ⟨rfl, rfl⟩))
    all_goals
      go_ret
      exact ⟨by simp_all [askMo], hb1⟩

set_option maxHeartbeats 1000000 in
theorem sExpl_any (l : List Mo) (A : Option Addr) (c : Nat) (p q : Int) (w : World) (hr : RowAt 4 encMo w A l) (hlen : l.length ≤ 2097152) :
    Calls Try.prog 28 #[.slice A l.length c, .int .i64 p, .int .i64 q] w fun e w' => e = .returned (.tuple #[.int .i64 (explL p q l).1, .bool (explL p q l).2]) ∧ Below w.heap.size w w' := by
  have HR := Lib.hid hr
  clear hr
  cases ha : askMo p q l
  · have HE := Lib.hid (show explL p q l = (0, false) by simp [explL, ha])
    go_enter Try.func28, Try.ntmps28
    go_wp2_with (go_at_call 63; (with_reducible refine (asked_any l _ _ p q _ HR.out hlen).mono ?_); rintro e w1 ⟨rfl, hb1⟩; obtain ⟨hc_hb1, hf_hb1, hz_hb1⟩ := bcell (B := w.heap.size) (by first | omega | (simp; done) | (simp; omega)) hb1)
    go_ret2
    exact ⟨ret_ib HE.out, hb1⟩
  · have HE := Lib.hid (show explL p q l = ((l.length : Int) - (missL p q l).length, true) by simp [explL, ha])
    have HA := Lib.hid ha
    have hle := missL_le p q l
    go_enter Try.func28, Try.ntmps28
    go_wp2_with (go_at_call 63; (with_reducible refine (asked_any l _ _ p q _ HR.out hlen).mono ?_); rintro e w1 ⟨rfl, hb1⟩; obtain ⟨hc_hb1, hf_hb1, hz_hb1⟩ := bcell (B := w.heap.size) (by first | omega | (simp; done) | (simp; omega)) hb1)
    clear ha
    unfold askMo at HA
    have h3 := HA.out
    simp only [Bool.and_eq_true] at h3
    obtain ⟨⟨g1, g2⟩, g3⟩ := h3
    have G := Lib.hid g1
    have P := Lib.hid (inB_true g2)
    have Q := Lib.hid (pol_of g3)
    clear g1 g2 g3
    go_wp2_with (go_at_call 64; (with_reducible refine (misses_any l _ _ p q _ (HR.out.below hb1) hlen G.out P.out Q.out).mono ?_); rintro e w2 ⟨A2, c2, rfl, ho2, hb2⟩; clear ho2)
    go_ret2
    exact ⟨ret_ib HE.out, bstep hb1 hb2⟩

set_option maxHeartbeats 1000000 in
theorem iExpl_any (l : List Mo) (A : Option Addr) (c : Nat) (p q : Int) (w : World) (hr : RowAt 4 encMo w A l) (hlen : l.length ≤ 2097152) :
    Calls Try.prog 29 #[.slice A l.length c, .int .i64 p, .int .i64 q] w fun e w' => e = .returned (.tuple #[.int .i64 (explL p q l).1, .bool (explL p q l).2]) ∧ Below w.heap.size w w' := by
  have HR := Lib.hid hr
  clear hr
  cases h1 : goodMo l <;> cases h2 : inB p 0 15 <;> cases h3 : (q == 1 || q == -1)
  case true.true.true =>
    have HE := Lib.hid (show explL p q l = ((l.length : Int) - (l.filter (missP p q)).length, true) by simp [explL, askMo, h1, h2, h3, missL_len])
    have hle : (l.filter (missP p q)).length ≤ l.length := List.length_filter_le _ _
    have G := Lib.hid h1
    have P := Lib.hid (inB_true h2)
    have Q := Lib.hid (pol_of h3)
    go_enter Try.func29, Try.ntmps29
    go_wp2_with (first | (go_at_call 17; (with_reducible refine (iAreMo_any l _ _ _ HR.out hlen).mono ?_); rintro e w1 ⟨rfl, hb1⟩; obtain ⟨hc_hb1, hf_hb1, hz_hb1⟩ := bcell (B := w.heap.size) (by first | omega | (simp; done) | (simp; omega)) hb1) | (go_at_call 61; (with_reducible refine (isPlane_any _ _).mono ?_); rintro e w' ⟨rfl, rfl⟩) | (go_at_call 65; (with_reducible refine (isPolarity_any _ _).mono ?_); rw [h3]; rintro e w' ⟨rfl, rfl⟩) | (go_at_call 66; (with_reducible refine (missed_any l _ _ p q _ (HR.out.below hb1) hlen G.out P.out Q.out).mono ?_); rintro e w2 ⟨A2, c2, rfl, ho2, hb2⟩; clear ho2))
    go_ret2
    exact ⟨ret_ib HE.out, bstep hb1 hb2⟩
  all_goals
    have HE := Lib.hid (show explL p q l = (0, false) by simp [explL, askMo, h1, h2, h3])
    go_enter Try.func29, Try.ntmps29
    go_wp2_with (first | (go_at_call 17; (with_reducible refine (iAreMo_any l _ _ _ HR.out hlen).mono ?_); rintro e w1 ⟨rfl, hb1⟩; obtain ⟨hc_hb1, hf_hb1, hz_hb1⟩ := bcell (B := w.heap.size) (by first | omega | (simp; done) | (simp; omega)) hb1) | (go_at_call 61; (with_reducible refine (isPlane_any _ _).mono ?_); rintro e w' ⟨rfl, rfl⟩) | (go_at_call 65; (with_reducible refine (isPolarity_any _ _).mono ?_); rw [h3]; rintro e w' ⟨rfl, rfl⟩))
    go_ret2
    exact ⟨ret_ib HE.out, hb1⟩
end Go.Proofs.Ytefofllkeghfnaa
