/-
  The match of two quakes, and DoMatch.
-/
import Derived.Test.YtlinjkfbcekepaaQuOne
namespace Go.Proofs.Ytlinjkfbcekepaa
set_option linter.unusedVariables false
set_option linter.unusedSimpArgs false
set_option linter.unnecessarySimpa false
open Go.RowKit
attribute [local go_sem] ext_cell ext_frozen

def absI (n : Int) : Int := if 0 ≤ n then n else -n
theorem sq_bd {d : Int} (h : -999 ≤ d ∧ d ≤ 999) : 0 ≤ d * d ∧ d * d ≤ 998001 := by
  have h1 : 0 ≤ d * d := by
    rcases Int.le_total 0 d with h | h
    · exact Int.mul_nonneg h h
    · exact Int.mul_nonneg_of_nonpos_of_nonpos h h
  refine ⟨h1, ?_⟩
  rcases Int.le_total 0 d with h0 | h0
  · have := Int.mul_le_mul h.2 h.2 h0 (by omega); omega
  · have := Int.mul_le_mul (show -d ≤ 999 by omega) (show -d ≤ 999 by omega) (by omega) (by omega)
    rw [Int.neg_mul_neg] at this; omega
def matchB (t f : Int) (a b : Qu) : Bool := decide (absI (a.tk - b.tk) ≤ t) && decide ((a.x - b.x) * (a.x - b.x) + (a.y - b.y) * (a.y - b.y) ≤ f * f)
def winB (t f : Int) : Bool := inB t 0 10000 && inB f 0 500
theorem winB_true {t f : Int} (h : winB t f = true) : (0 ≤ t ∧ t ≤ 10000) ∧ (0 ≤ f ∧ f ≤ 500) := by
  unfold winB at h
  rw [Bool.and_eq_true] at h
  exact ⟨inB_true h.1, inB_true h.2⟩

set_option maxHeartbeats 400000 in
theorem abs_any (n : Int) (w : World) (hn : -1000000 ≤ n ∧ n ≤ 1000000) :
    Calls Try.prog 97 #[.int .i64 n] w fun e w' => e = .returned (.int .i64 (absI n)) ∧ w = w' := by
  by_cases h : 0 ≤ n
  all_goals
    go_enter Try.func97, Try.ntmps97
    go_wp2
    go_ret
    exact ⟨ret_int (by simp [absI, h] <;> omega), rfl⟩
def maxI (a b : Int) : Int := if a > b then a else b
set_option maxHeartbeats 400000 in
theorem l1Most_any (a b : Int) (w : World) :
    Calls Try.prog 106 #[.int .i64 a, .int .i64 b] w fun e w' => e = .returned (.int .i64 (maxI a b)) ∧ w = w' := by
  by_cases h : a > b
  all_goals
    go_enter Try.func106, Try.ntmps106
    go_wp2
    go_ret
    exact ⟨ret_int (by unfold maxI; split <;> omega), rfl⟩
set_option maxHeartbeats 400000 in
theorem l2Size_any (n : Int) (w : World) (hn : -1000000 ≤ n ∧ n ≤ 1000000) :
    Calls Try.prog 93 #[.int .i64 n] w fun e w' => e = .returned (.int .i64 (absI n)) ∧ w = w' := by
  go_enter Try.func93, Try.ntmps93
  go_wp2_with (go_at_call 106; (with_reducible refine (l1Most_any _ _ _).mono ?_); rintro e w' ⟨rfl, rfl⟩)
  all_goals
    go_ret
    exact ⟨ret_int (by unfold absI; (try unfold maxI); repeat' split; all_goals omega), rfl⟩
set_option maxHeartbeats 400000 in
theorem square_any (a b : Int) (w : World) (ha : -999 ≤ a ∧ a ≤ 999) (hb : -999 ≤ b ∧ b ≤ 999) :
    Calls Try.prog 98 #[.int .i64 a, .int .i64 b] w fun e w' => e = .returned (.int .i64 (a * a + b * b)) ∧ w = w' := by
  have h1 := sq_bd ha
  have h2 := sq_bd hb
  go_enter Try.func98, Try.ntmps98
  go_wp2
  go_ret
  exact ⟨rfl, rfl⟩
set_option maxHeartbeats 400000 in
theorem isWindow_any (t f : Int) (w : World) :
    Calls Try.prog 62 #[.int .i64 t, .int .i64 f] w fun e w' => e = .returned (.bool (winB t f)) ∧ w = w' := by
  cases h1 : inB t 0 10000
  all_goals
    go_enter Try.func62, Try.ntmps62
    go_wp2_with (go_at_call 71; (with_reducible refine (in_any _ _ _ _).mono ?_); rintro e w' ⟨rfl, rfl⟩)
    go_ret
    exact ⟨by simp [winB, h1], rfl⟩
set_option maxHeartbeats 400000 in
theorem l16Window_any (t f : Int) (w : World) :
    Calls Try.prog 59 #[.int .i64 t, .int .i64 f] w fun e w' => e = .returned (.bool (winB t f)) ∧ w = w' := by
  cases h1 : inB t 0 10000
  all_goals
    go_enter Try.func59, Try.ntmps59
    go_wp2_with (go_at_call 76; (with_reducible refine (l1In_any _ _ _ _).mono ?_); rintro e w' ⟨rfl, rfl⟩)
    go_ret
    exact ⟨by simp [winB, h1], rfl⟩

set_option maxRecDepth 100000 in
set_option maxHeartbeats 2000000 in
theorem match_any (a d : Qu) (t f : Int) (w : World) (ha : oneQu a = true) (hd : oneQu d = true) (hw : winB t f = true) :
    Calls Try.prog 63 #[.agg #[.int .i64 a.tk, .int .i64 a.x, .int .i64 a.y, .int .i64 a.sz], .agg #[.int .i64 d.tk, .int .i64 d.x, .int .i64 d.y, .int .i64 d.sz], .int .i64 t, .int .i64 f] w fun e w' => e = .returned (.bool (matchB t f a d)) ∧ Below w.heap.size w w' := by
  obtain ⟨a0, a1, a2, _⟩ := oneQu_bounds ha
  obtain ⟨d0, d1, d2, _⟩ := oneQu_bounds hd
  obtain ⟨_, hf⟩ := winB_true hw
  clear ha hd hw
  have hf2 := sq_bd (d := f) (by omega)
  have ht : -1000000 ≤ a.tk - d.tk ∧ a.tk - d.tk ≤ 1000000 := by omega
  have hx : -999 ≤ a.x - d.x ∧ a.x - d.x ≤ 999 := by omega
  have hy : -999 ≤ a.y - d.y ∧ a.y - d.y ≤ 999 := by omega
  have hx2 := sq_bd hx
  have hy2 := sq_bd hy
  have HX := Lib.hid hx
  have HY := Lib.hid hy
  have HT := Lib.hid ht
  by_cases h1 : absI (a.tk - d.tk) ≤ t
  · have HF := Lib.hid (show matchB t f a d = decide ((a.x - d.x) * (a.x - d.x) + (a.y - d.y) * (a.y - d.y) ≤ f * f) by simp [matchB, h1])
    go_enter Try.func63, Try.ntmps63
    go_wp2_with (first | (go_at_call 97; (with_reducible refine (abs_any _ _ HT.out).mono ?_); rintro e w' ⟨rfl, rfl⟩) | (go_at_call 98; (with_reducible refine (square_any _ _ _ HX.out HY.out).mono ?_); rintro e w' ⟨rfl, rfl⟩))
    go_ret
    exact ⟨ret_bool HF.out.symm, (by repeat (first | exact bref _ | (refine balloc ?_ _) | (refine bdrew ?_) | (refine bdrewN ?_ _) | (refine bstep ?_ (by assumption))))⟩
  · have HF := Lib.hid (show matchB t f a d = false by simp [matchB, h1])
    go_enter Try.func63, Try.ntmps63
    go_wp2_with (first | (go_at_call 97; (with_reducible refine (abs_any _ _ HT.out).mono ?_); rintro e w' ⟨rfl, rfl⟩) | (go_at_call 98; (with_reducible refine (square_any _ _ _ HX.out HY.out).mono ?_); rintro e w' ⟨rfl, rfl⟩))
    go_ret
    exact ⟨ret_bool HF.out.symm, (by repeat (first | exact bref _ | (refine balloc ?_ _) | (refine bdrew ?_) | (refine bdrewN ?_ _) | (refine bstep ?_ (by assumption))))⟩

set_option maxRecDepth 100000 in
set_option maxHeartbeats 2000000 in
theorem l16Match_any (a d : Qu) (t f : Int) (w : World) (ha : oneQu a = true) (hd : oneQu d = true) (hw : winB t f = true) :
    Calls Try.prog 60 #[.agg #[.int .i64 a.tk, .int .i64 a.x, .int .i64 a.y, .int .i64 a.sz], .agg #[.int .i64 d.tk, .int .i64 d.x, .int .i64 d.y, .int .i64 d.sz], .int .i64 t, .int .i64 f] w fun e w' => e = .returned (.bool (matchB t f a d)) ∧ Below w.heap.size w w' := by
  obtain ⟨a0, a1, a2, _⟩ := oneQu_bounds ha
  obtain ⟨d0, d1, d2, _⟩ := oneQu_bounds hd
  obtain ⟨_, hf⟩ := winB_true hw
  clear ha hd hw
  have hf2 := sq_bd (d := f) (by omega)
  have ht : -1000000 ≤ a.tk - d.tk ∧ a.tk - d.tk ≤ 1000000 := by omega
  have hx : -999 ≤ a.x - d.x ∧ a.x - d.x ≤ 999 := by omega
  have hy : -999 ≤ a.y - d.y ∧ a.y - d.y ≤ 999 := by omega
  have hx2 := sq_bd hx
  have hy2 := sq_bd hy
  have HT := Lib.hid ht
  by_cases h1 : absI (a.tk - d.tk) ≤ t
  · have HF := Lib.hid (show matchB t f a d = decide ((a.x - d.x) * (a.x - d.x) + (a.y - d.y) * (a.y - d.y) ≤ f * f) by simp [matchB, h1])
    go_enter Try.func60, Try.ntmps60
    go_wp2_with (go_at_call 93; (with_reducible refine (l2Size_any _ _ HT.out).mono ?_); rintro e w' ⟨rfl, rfl⟩)
    go_ret
    exact ⟨ret_bool HF.out.symm, (by repeat (first | exact bref _ | (refine balloc ?_ _) | (refine bdrew ?_) | (refine bdrewN ?_ _) | (refine bstep ?_ (by assumption))))⟩
  · have HF := Lib.hid (show matchB t f a d = false by simp [matchB, h1])
    go_enter Try.func60, Try.ntmps60
    go_wp2_with (go_at_call 93; (with_reducible refine (l2Size_any _ _ HT.out).mono ?_); rintro e w' ⟨rfl, rfl⟩)
    go_ret
    exact ⟨ret_bool HF.out.symm, (by repeat (first | exact bref _ | (refine balloc ?_ _) | (refine bdrew ?_) | (refine bdrewN ?_ _) | (refine bstep ?_ (by assumption))))⟩

def doB (a d : Qu) (t f : Int) : Bool × Bool := if oneQu a && oneQu d && winB t f then (matchB t f a d, true) else (false, false)
theorem doB_of {a d : Qu} {t f : Int} {x y z : Bool} (h1 : oneQu a = x) (h2 : oneQu d = y) (h3 : winB t f = z) : doB a d t f = if x && y && z then (matchB t f a d, true) else (false, false) := by subst h1 h2 h3; rfl
set_option maxRecDepth 100000 in
set_option maxHeartbeats 2000000 in
theorem iDo_any (a d : Qu) (t f : Int) (w : World) :
    Calls Try.prog 16 #[.agg #[.int .i64 a.tk, .int .i64 a.x, .int .i64 a.y, .int .i64 a.sz], .agg #[.int .i64 d.tk, .int .i64 d.x, .int .i64 d.y, .int .i64 d.sz], .int .i64 t, .int .i64 f] w fun e w' => e = .returned (.tuple #[.bool (doB a d t f).1, .bool (doB a d t f).2]) ∧ Below w.heap.size w w' := by
  cases h1 : oneQu a <;> cases h2 : oneQu d <;> cases h3 : winB t f
  all_goals
    have HF := Lib.hid (doB_of h1 h2 h3)
    simp only [Bool.and_true, Bool.and_false, Bool.false_eq_true, if_false, if_true] at HF
    have e1 := h1
    have e2 := h2
    unfold oneQu at e1 e2
    go_enter Try.func16, Try.ntmps16
    go_wp2_with (first | (go_at_call 61; first | (with_reducible refine (isQuake_any a.tk a.x a.y a.sz _).mono ?_; rw [e1]; rintro e w1 ⟨rfl, hb1⟩; obtain ⟨hc_1, hf_1, hz_1⟩ := bcell (B := w.heap.size + 1 + 1) (by simp) hb1) | (with_reducible refine (isQuake_any d.tk d.x d.y d.sz _).mono ?_; rw [e2]; rintro e w2 ⟨rfl, hb2⟩; obtain ⟨hc_2, hf_2, hz_2⟩ := bcell (B := w.heap.size + 1 + 1) (by omega) hb2)) | (go_at_call 62; (with_reducible refine (isWindow_any _ _ _).mono ?_); rintro e w' ⟨rfl, rfl⟩) | (go_at_call 63; (with_reducible refine (match_any a d t f _ h1 h2 h3).mono ?_); rintro e w3 ⟨rfl, hb3⟩; obtain ⟨hc_hb3, hf_hb3, hz_hb3⟩ := bcell (B := w.heap.size + 1) (by first | omega | (simp; done) | (simp; omega)) hb3))
    go_ret2
    exact ⟨ret_bb HF.out, (by repeat (first | exact bref _ | (refine balloc ?_ _) | (refine bdrew ?_) | (refine bdrewN ?_ _) | (refine bstep ?_ (by assumption))))⟩
set_option maxRecDepth 100000 in
set_option maxHeartbeats 2000000 in
theorem sDo_any (a d : Qu) (t f : Int) (w : World) :
    Calls Try.prog 14 #[.agg #[.int .i64 a.tk, .int .i64 a.x, .int .i64 a.y, .int .i64 a.sz], .agg #[.int .i64 d.tk, .int .i64 d.x, .int .i64 d.y, .int .i64 d.sz], .int .i64 t, .int .i64 f] w fun e w' => e = .returned (.tuple #[.bool (doB a d t f).1, .bool (doB a d t f).2]) ∧ Below w.heap.size w w' := by
  cases h1 : oneQu a <;> cases h2 : oneQu d <;> cases h3 : winB t f
  all_goals
    have HF := Lib.hid (doB_of h1 h2 h3)
    simp only [Bool.and_true, Bool.and_false, Bool.false_eq_true, if_false, if_true] at HF
    have e1 := h1
    have e2 := h2
    unfold oneQu at e1 e2
    go_enter Try.func14, Try.ntmps14
    go_wp2_with (first | (go_at_call 58; first | (with_reducible refine (l16One_any a.tk a.x a.y a.sz _).mono ?_; rw [e1]; rintro e w1 ⟨rfl, hb1⟩; obtain ⟨hc_1, hf_1, hz_1⟩ := bcell (B := w.heap.size + 1 + 1) (by simp) hb1) | (with_reducible refine (l16One_any d.tk d.x d.y d.sz _).mono ?_; rw [e2]; rintro e w2 ⟨rfl, hb2⟩; obtain ⟨hc_2, hf_2, hz_2⟩ := bcell (B := w.heap.size + 1 + 1) (by omega) hb2)) | (go_at_call 59; (with_reducible refine (l16Window_any _ _ _).mono ?_); rintro e w' ⟨rfl, rfl⟩) | (go_at_call 60; (with_reducible refine (l16Match_any a d t f _ h1 h2 h3).mono ?_); rintro e w3 ⟨rfl, hb3⟩; obtain ⟨hc_hb3, hf_hb3, hz_hb3⟩ := bcell (B := w.heap.size + 1) (by first | omega | (simp; done) | (simp; omega)) hb3))
    go_ret2
    exact ⟨ret_bb HF.out, (by repeat (first | exact bref _ | (refine balloc ?_ _) | (refine bdrew ?_) | (refine bdrewN ?_ _) | (refine bstep ?_ (by assumption))))⟩
end Go.Proofs.Ytlinjkfbcekepaa
