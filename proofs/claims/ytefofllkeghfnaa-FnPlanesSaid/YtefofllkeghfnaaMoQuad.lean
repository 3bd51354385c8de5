/-
  The quadrant of a motion: impl and spec answer alike.
-/
import Derived.Test.YtefofllkeghfnaaMoOne
namespace Go.Proofs.Ytefofllkeghfnaa
open Go.RowKit
attribute [local go_sem] ext_cell ext_frozen

def sgn (n : Int) : Int := if 0 < n then 1 else if n < 0 then -1 else 0
theorem sgn_pos {n : Int} (h : 0 < n) : sgn n = 1 := by simp [sgn, h]
theorem sgn_neg {n : Int} (h : n < 0) : sgn n = -1 := by simp [sgn, h]; omega
theorem sgn_zero : sgn 0 = 0 := rfl

set_option maxHeartbeats 400000 in
theorem sign_any (n : Int) (w : World) :
    Calls Try.prog 76 #[.int .i64 n] w fun e w' => e = .returned (.int .i64 (sgn n)) ∧ w = w' := by
  by_cases h1 : 0 < n
  · go_enter Try.func76, Try.ntmps76
    go_wp2
    go_ret
    exact ⟨ret_int (sgn_pos h1).symm, rfl⟩
  · by_cases h2 : n < 0
    · go_enter Try.func76, Try.ntmps76
      go_wp2
      go_ret
      exact ⟨ret_int (sgn_neg h2).symm, rfl⟩
    · go_enter Try.func76, Try.ntmps76
      go_wp2
      go_ret
      exact ⟨ret_int (by obtain rfl : n = 0 := by omega
                         rfl), rfl⟩

def leftMo (x y p : Int) : Int := (16 - p) * y - p * x
def otherMo (x y p : Int) : Int := -p * y - (16 - p) * x
def quadMo (x y p : Int) : Int := -sgn (leftMo x y p) * sgn (otherMo x y p)

/-- What the products come to, for a valid motion and plane. -/
theorem quad_bounds {x y p : Int} (hx : -999 ≤ x ∧ x ≤ 999) (hy : -999 ≤ y ∧ y ≤ 999) (hp : 0 ≤ p ∧ p ≤ 15) :
    (-16000 ≤ (16 - p) * y ∧ (16 - p) * y ≤ 16000) ∧ (-16000 ≤ p * x ∧ p * x ≤ 16000) ∧ (-16000 ≤ -p * y ∧ -p * y ≤ 16000) ∧ (-16000 ≤ (16 - p) * x ∧ (16 - p) * x ≤ 16000) := by
  have h : p = 0 ∨ p = 1 ∨ p = 2 ∨ p = 3 ∨ p = 4 ∨ p = 5 ∨ p = 6 ∨ p = 7 ∨ p = 8 ∨ p = 9 ∨ p = 10 ∨ p = 11 ∨ p = 12 ∨ p = 13 ∨ p = 14 ∨ p = 15 := by omega
  rcases h with rfl | rfl | rfl | rfl | rfl | rfl | rfl | rfl | rfl | rfl | rfl | rfl | rfl | rfl | rfl | rfl <;> refine ⟨?_, ?_, ?_, ?_⟩ <;> constructor <;> omega
theorem sgn_bounds (a b : Int) : (-1 ≤ sgn a ∧ sgn a ≤ 1) ∧ (-1 ≤ -sgn a * sgn b ∧ -sgn a * sgn b ≤ 1) := by
  unfold sgn
  split <;> split <;> (try split) <;> (try split) <;> simp

set_option maxHeartbeats 1000000 in
theorem quadrant_any (s x y g p : Int) (w : World) (hx : -999 ≤ x ∧ x ≤ 999) (hy : -999 ≤ y ∧ y ≤ 999) (hp : 0 ≤ p ∧ p ≤ 15) :
    Calls Try.prog 62 #[.agg #[.int .i64 s, .int .i64 x, .int .i64 y, .int .i64 g], .int .i64 p] w fun e w' => e = .returned (.int .i64 (quadMo x y p)) ∧ Below w.heap.size w w' := by
  obtain ⟨b1, b2, b3, b4⟩ := quad_bounds hx hy hp
  have c1 := sgn_bounds (leftMo x y p) (otherMo x y p)
  go_enter Try.func62, Try.ntmps62
  go_wp2_with fail
  refine (sign_any _ _).mono ?_; rintro e w' ⟨rfl, rfl⟩
  rw [show (16 - p) * y - p * x = leftMo x y p from rfl]
  go_wp2_with fail
  refine (sign_any _ _).mono ?_; rintro e w' ⟨rfl, rfl⟩
  rw [show -p * y - (16 - p) * x = otherMo x y p from rfl]
  go_wp2
  go_ret
  exact ⟨rfl, (by repeat (first | exact bref _ | (refine balloc ?_ _) | (refine bdrew ?_) | (refine bdrewN ?_ _) | (refine bstep ?_ (by assumption))))⟩

theorem quadMo_cases (x y p : Int) : quadMo x y p = if leftMo x y p = 0 ∨ otherMo x y p = 0 then 0 else if (0 < leftMo x y p) = (otherMo x y p < 0) then 1 else -1 := by
  unfold quadMo sgn
  generalize leftMo x y p = a
  generalize otherMo x y p = b
  rcases Int.lt_trichotomy a 0 with h1 | h1 | h1 <;> rcases Int.lt_trichotomy b 0 with h2 | h2 | h2
  all_goals simp only [h1, h2, if_true, if_false, Int.lt_irrefl]
  all_goals (repeat' split) <;> first | omega | simp_all <;> omega

set_option maxHeartbeats 2000000 in
theorem l13Quadrant_any (s x y g p : Int) (w : World) (hx : -999 ≤ x ∧ x ≤ 999) (hy : -999 ≤ y ∧ y ≤ 999) (hp : 0 ≤ p ∧ p ≤ 15) :
    Calls Try.prog 60 #[.agg #[.int .i64 s, .int .i64 x, .int .i64 y, .int .i64 g], .int .i64 p] w fun e w' => e = .returned (.int .i64 (quadMo x y p)) ∧ Below w.heap.size w w' := by
  obtain ⟨b1, b2, b3, b4⟩ := quad_bounds hx hy hp
  go_enter Try.func60, Try.ntmps60
  go_wp2_with fail
  (refine wp_region_calm (by kernel_rfl) (by kernel_rfl) ?_; (repeat (go_big_quiet_step ((fail)))); refine wpQuiet_nil ?_; intro xw; have hb1 := xw.is; generalize xw.w = w1 at hb1 ⊢; clear xw)
  have hq := quadMo_cases x y p
  unfold leftMo otherMo at hq
  generalize hL : (16 - p) * y - p * x = L at hq ⊢
  generalize hR : -p * y - (16 - p) * x = R at hq ⊢
  have HQ := Lib.hid hq
  clear hq hL hR b1 b2 b3 b4
  go_wp2
  all_goals
    go_ret
    exact ⟨ret_int (by rw [HQ.out]; simp_all <;> omega), bstep (balloc (bref _) _) hb1⟩

def planeB (p : Int) : Bool := inB p 0 15
set_option maxHeartbeats 400000 in
theorem isPlane_any (n : Int) (w : World) :
    Calls Try.prog 61 #[.int .i64 n] w fun e w' => e = .returned (.bool (inB n 0 15)) ∧ w = w' := by
  go_enter Try.func61, Try.ntmps61
  go_wp2_with (go_at_call 70; (with_reducible refine (in_any _ _ _ _).mono ?_); rintro e w' ⟨rfl, rfl⟩)
  go_ret
  exact ⟨rfl, rfl⟩
set_option maxHeartbeats 400000 in
theorem l13Plane_any (n : Int) (w : World) :
    Calls Try.prog 59 #[.int .i64 n] w fun e w' => e = .returned (.bool (inB n 0 15)) ∧ w = w' := by
  go_enter Try.func59, Try.ntmps59
  go_wp2_with (go_at_call 69; (with_reducible refine (l1In_any _ _ _ _).mono ?_); rintro e w' ⟨rfl, rfl⟩)
  go_ret
  exact ⟨rfl, rfl⟩

theorem oneMo_bounds {s x y g : Int} (h : oneMo s x y g = true) : (-999 ≤ x ∧ x ≤ 999) ∧ (-999 ≤ y ∧ y ≤ 999) := by
  unfold oneMo at h
  simp only [Bool.and_eq_true] at h
  exact ⟨inB_true h.1.1.1.2, inB_true h.1.1.2⟩
theorem oneMo_sign {s x y g : Int} (h : oneMo s x y g = true) : g = 1 ∨ g = -1 := by
  unfold oneMo at h
  simp only [Bool.and_eq_true] at h
  simpa using h.2
theorem oneMo_st {s x y g : Int} (h : oneMo s x y g = true) : 1 ≤ s ∧ s ≤ 99 := by
  unfold oneMo at h
  simp only [Bool.and_eq_true] at h
  exact inB_true h.1.1.1.1

def quadOf (s x y g p : Int) : Int × Bool := if oneMo s x y g && inB p 0 15 then (quadMo x y p, true) else (0, false)

set_option maxHeartbeats 1000000 in
theorem sQuadrantOf_any (s x y g p : Int) (w : World) :
    Calls Try.prog 19 #[.agg #[.int .i64 s, .int .i64 x, .int .i64 y, .int .i64 g], .int .i64 p] w fun e w' => e = .returned (.tuple #[.int .i64 (quadOf s x y g p).1, .bool (quadOf s x y g p).2]) ∧ Below w.heap.size w w' := by
  cases h1 : oneMo s x y g <;> cases h2 : inB p 0 15
  case true.true =>
    obtain ⟨hx, hy⟩ := oneMo_bounds h1
    have hp := inB_true h2
    have e : quadOf s x y g p = (quadMo x y p, true) := by simp [quadOf, h1, h2]
    rw [e]
    clear e
    go_enter Try.func19, Try.ntmps19
    go_wp2_with (first | (go_at_call 58; (with_reducible refine (l13One_any _ _ _ _ _).mono ?_); rintro e w1 ⟨rfl, hb1⟩; obtain ⟨hc_hb1, hf_hb1, hz_hb1⟩ := bcell (B := w.heap.size + 1) (by first | omega | (simp; done) | (simp; omega)) hb1) | (go_at_call 59; (with_reducible refine (l13Plane_any _ _).mono ?_); rintro e w' ⟨rfl, rfl⟩) | (go_at_call 60; (with_reducible refine (l13Quadrant_any _ _ _ _ _ _ hx hy hp).mono ?_); rintro e w2 ⟨rfl, hb2⟩; obtain ⟨hc_hb2, hf_hb2, hz_hb2⟩ := bcell (B := w.heap.size + 1) (by first | omega | (simp; done) | (simp; omega)) hb2))
    go_ret2
    exact ⟨rfl, (by repeat (first | exact bref _ | (refine balloc ?_ _) | (refine bdrew ?_) | (refine bdrewN ?_ _) | (refine bstep ?_ (by assumption))))⟩
  all_goals
    have e : quadOf s x y g p = (0, false) := by simp [quadOf, h1, h2]
    rw [e]
    clear e
    go_enter Try.func19, Try.ntmps19
    go_wp2_with (first | (go_at_call 58; (with_reducible refine (l13One_any _ _ _ _ _).mono ?_); rintro e w1 ⟨rfl, hb1⟩; obtain ⟨hc_hb1, hf_hb1, hz_hb1⟩ := bcell (B := w.heap.size + 1) (by first | omega | (simp; done) | (simp; omega)) hb1) | (go_at_call 59; (with_reducible refine (l13Plane_any _ _).mono ?_); rintro e w' ⟨rfl, rfl⟩))
    go_ret2
    exact ⟨rfl, (by repeat (first | exact bref _ | (refine balloc ?_ _) | (refine bdrew ?_) | (refine bdrewN ?_ _) | (refine bstep ?_ (by assumption))))⟩

set_option maxHeartbeats 1000000 in
theorem iQuadrantOf_any (s x y g p : Int) (w : World) :
    Calls Try.prog 21 #[.agg #[.int .i64 s, .int .i64 x, .int .i64 y, .int .i64 g], .int .i64 p] w fun e w' => e = .returned (.tuple #[.int .i64 (quadOf s x y g p).1, .bool (quadOf s x y g p).2]) ∧ Below w.heap.size w w' := by
  cases h1 : oneMo s x y g <;> cases h2 : inB p 0 15
  case true.true =>
    obtain ⟨hx, hy⟩ := oneMo_bounds h1
    have hp := inB_true h2
    have e : quadOf s x y g p = (quadMo x y p, true) := by simp [quadOf, h1, h2]
    rw [e]
    clear e
    go_enter Try.func21, Try.ntmps21
    go_wp2_with (first | (go_at_call 55; (with_reducible refine (isMotion_any _ _ _ _ _).mono ?_); rintro e w1 ⟨rfl, hb1⟩; obtain ⟨hc_hb1, hf_hb1, hz_hb1⟩ := bcell (B := w.heap.size + 1) (by first | omega | (simp; done) | (simp; omega)) hb1) | (go_at_call 61; (with_reducible refine (isPlane_any _ _).mono ?_); rintro e w' ⟨rfl, rfl⟩) | (go_at_call 62; (with_reducible refine (quadrant_any _ _ _ _ _ _ hx hy hp).mono ?_); rintro e w2 ⟨rfl, hb2⟩; obtain ⟨hc_hb2, hf_hb2, hz_hb2⟩ := bcell (B := w.heap.size + 1) (by first | omega | (simp; done) | (simp; omega)) hb2))
    go_ret2
    exact ⟨rfl, (by repeat (first | exact bref _ | (refine balloc ?_ _) | (refine bdrew ?_) | (refine bdrewN ?_ _) | (refine bstep ?_ (by assumption))))⟩
  all_goals
    have e : quadOf s x y g p = (0, false) := by simp [quadOf, h1, h2]
    rw [e]
    clear e
    go_enter Try.func21, Try.ntmps21
    go_wp2_with (first | (go_at_call 55; (with_reducible refine (isMotion_any _ _ _ _ _).mono ?_); rintro e w1 ⟨rfl, hb1⟩; obtain ⟨hc_hb1, hf_hb1, hz_hb1⟩ := bcell (B := w.heap.size + 1) (by first | omega | (simp; done) | (simp; omega)) hb1) | (go_at_call 61; (with_reducible refine (isPlane_any _ _).mono ?_); rintro e w' ⟨rfl, rfl⟩))
    go_ret2
    exact ⟨rfl, (by repeat (first | exact bref _ | (refine balloc ?_ _) | (refine bdrew ?_) | (refine bdrewN ?_ _) | (refine bstep ?_ (by assumption))))⟩
end Go.Proofs.Ytefofllkeghfnaa
