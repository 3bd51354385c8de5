/-
  One quake: spec's and impl's test answer alike; the orders; the match.
-/
import Derived.Test.YtlinjkfbcekepaaIn
import Derived.Test.YtlinjkfbcekepaaQu0
import Derived.Test.YtlinjkfbcekepaaCmp
import Derived.Deep.RegionHeld3
namespace Go.Proofs.Ytlinjkfbcekepaa
set_option linter.unusedVariables false
set_option linter.unusedSimpArgs false
set_option linter.unnecessarySimpa false
open Go.RowKit
attribute [local go_sem] ext_cell ext_frozen

def placeB (x y : Int) : Bool := inB x 0 999 && inB y 0 999
def oneQ (t x y s : Int) : Bool := inB t 0 1000000 && placeB x y && inB s (-20) 95
def oneQu (m : Qu) : Bool := oneQ m.tk m.x m.y m.sz

set_option maxHeartbeats 400000 in
theorem isPlace_any (x y : Int) (w : World) :
    Calls Try.prog 95 #[.int .i64 x, .int .i64 y] w fun e w' => e = .returned (.bool (placeB x y)) ∧ w = w' := by
  cases h1 : inB x 0 999
  all_goals
    go_enter Try.func95, Try.ntmps95
    go_wp2_with (go_at_call 71; (with_reducible refine (in_any _ _ _ _).mono ?_); rintro e w' ⟨rfl, rfl⟩)
    go_ret
    exact ⟨by simp [placeB, h1], rfl⟩
set_option maxHeartbeats 400000 in
theorem l2Place_any (x y : Int) (w : World) :
    Calls Try.prog 92 #[.int .i64 x, .int .i64 y] w fun e w' => e = .returned (.bool (placeB x y)) ∧ w = w' := by
  cases h1 : inB x 0 999
  all_goals
    go_enter Try.func92, Try.ntmps92
    go_wp2_with (go_at_call 76; (with_reducible refine (l1In_any _ _ _ _).mono ?_); rintro e w' ⟨rfl, rfl⟩)
    go_ret
    exact ⟨by simp [placeB, h1], rfl⟩
set_option maxHeartbeats 400000 in
theorem isTick_any (x : Int) (w : World) :
    Calls Try.prog 94 #[.int .i64 x] w fun e w' => e = .returned (.bool (inB x 0 1000000)) ∧ w = w' := by
  go_enter Try.func94, Try.ntmps94
  go_wp2_with (go_at_call 71; (with_reducible refine (in_any _ _ _ _).mono ?_); rintro e w' ⟨rfl, rfl⟩)
  go_ret
  exact ⟨rfl, rfl⟩
set_option maxHeartbeats 400000 in
theorem l2Tick_any (x : Int) (w : World) :
    Calls Try.prog 91 #[.int .i64 x] w fun e w' => e = .returned (.bool (inB x 0 1000000)) ∧ w = w' := by
  go_enter Try.func91, Try.ntmps91
  go_wp2_with (go_at_call 76; (with_reducible refine (l1In_any _ _ _ _).mono ?_); rintro e w' ⟨rfl, rfl⟩)
  go_ret
  exact ⟨rfl, rfl⟩
set_option maxHeartbeats 400000 in
theorem isQuakeSize_any (x : Int) (w : World) :
    Calls Try.prog 96 #[.int .i64 x] w fun e w' => e = .returned (.bool (inB x (-20) 95)) ∧ w = w' := by
  go_enter Try.func96, Try.ntmps96
  go_wp2_with (go_at_call 71; (with_reducible refine (in_any _ _ _ _).mono ?_); rintro e w' ⟨rfl, rfl⟩)
  go_ret
  exact ⟨rfl, rfl⟩

set_option maxHeartbeats 1000000 in
theorem l16One_any (t x y s : Int) (w : World) :
    Calls Try.prog 58 #[.agg #[.int .i64 t, .int .i64 x, .int .i64 y, .int .i64 s]] w fun e w' => e = .returned (.bool (oneQ t x y s)) ∧ Below w.heap.size w w' := by
  cases h1 : inB t 0 1000000 <;> cases h2 : placeB x y
  all_goals
    go_enter Try.func58, Try.ntmps58
    go_wp2_with (first | (go_at_call 76; (with_reducible refine (l1In_any _ _ _ _).mono ?_); rintro e w' ⟨rfl, rfl⟩) | (go_at_call 92; (with_reducible refine (l2Place_any _ _ _).mono ?_); rintro e w' ⟨rfl, rfl⟩) | (go_at_call 91; (with_reducible refine (l2Tick_any _ _).mono ?_); rintro e w' ⟨rfl, rfl⟩))
    go_ret
    exact ⟨by simp [oneQ, *], (by repeat (first | exact bref _ | (refine balloc ?_ _) | (refine bdrew ?_) | (refine bdrewN ?_ _) | (refine bstep ?_ (by assumption))))⟩

set_option maxHeartbeats 1000000 in
theorem isQuake_any (t x y s : Int) (w : World) :
    Calls Try.prog 61 #[.agg #[.int .i64 t, .int .i64 x, .int .i64 y, .int .i64 s]] w fun e w' => e = .returned (.bool (oneQ t x y s)) ∧ Below w.heap.size w w' := by
  cases h1 : inB t 0 1000000 <;> cases h2 : placeB x y
  all_goals
    go_enter Try.func61, Try.ntmps61
    go_wp2_with (first | (go_at_call 94; (with_reducible refine (isTick_any _ _).mono ?_); rintro e w' ⟨rfl, rfl⟩) | (go_at_call 95; (with_reducible refine (isPlace_any _ _ _).mono ?_); rintro e w' ⟨rfl, rfl⟩) | (go_at_call 96; (with_reducible refine (isQuakeSize_any _ _).mono ?_); rintro e w' ⟨rfl, rfl⟩))
    go_ret
    exact ⟨by simp [oneQ, *], (by repeat (first | exact bref _ | (refine balloc ?_ _) | (refine bdrew ?_) | (refine bdrewN ?_ _) | (refine bstep ?_ (by assumption))))⟩

theorem oneQu_bounds {m : Qu} (h : oneQu m = true) : (0 ≤ m.tk ∧ m.tk ≤ 1000000) ∧ (0 ≤ m.x ∧ m.x ≤ 999) ∧ (0 ≤ m.y ∧ m.y ≤ 999) ∧ (-20 ≤ m.sz ∧ m.sz ≤ 95) := by
  unfold oneQu oneQ placeB at h
  simp only [Bool.and_eq_true] at h
  exact ⟨inB_true h.1.1, inB_true h.1.2.1, inB_true h.1.2.2, inB_true h.2⟩

-- the order
def ltQu (a b : Qu) : Bool := decide (a.tk < b.tk ∨ a.tk = b.tk ∧ (a.x < b.x ∨ a.x = b.x ∧ (a.y < b.y ∨ a.y = b.y ∧ a.sz < b.sz)))
def cmpQu (a b : Qu) : Int := orL [cmpI a.tk b.tk, cmpI a.x b.x, cmpI a.y b.y, cmpI a.sz b.sz]
theorem cmpI_zero {a b : Int} : cmpI a b = 0 ↔ a = b := by
  unfold cmpI; split <;> (try split) <;> omega
theorem cmpQu_neg (a b : Qu) : decide (cmpQu a b < 0) = ltQu a b := by
  unfold cmpQu ltQu
  simp only [orL, cmpI_zero]
  rw [decide_eq_decide]
  unfold cmpI
  repeat' split
  all_goals omega
theorem cmpQu_ge (a b : Qu) : decide (0 ≤ cmpQu a b) = !ltQu a b := by
  rw [← cmpQu_neg, Bool.eq_iff_iff]
  simp
theorem cmpQu_bd (a b : Qu) : -1 ≤ cmpQu a b ∧ cmpQu a b ≤ 1 := by
  unfold cmpQu
  simp only [orL]
  have h1 := cmpI_bd a.tk b.tk
  have h2 := cmpI_bd a.x b.x
  have h3 := cmpI_bd a.y b.y
  have h4 := cmpI_bd a.sz b.sz
  repeat' split
  all_goals omega

set_option maxRecDepth 100000 in
set_option maxHeartbeats 2000000 in
theorem compareQu_any (a d : Qu) (w : World) :
    Calls Try.prog 68 #[.agg #[.int .i64 a.tk, .int .i64 a.x, .int .i64 a.y, .int .i64 a.sz], .agg #[.int .i64 d.tk, .int .i64 d.x, .int .i64 d.y, .int .i64 d.sz]] w fun e w' => e = .returned (.int .i64 (cmpQu a d)) ∧ Below w.heap.size w w' := by
  go_enter Try.func68, Try.ntmps68
  go_wp2_with fail
  go_region_held3 (fun w' => w'.cell? ⟨w.heap.size, 0, none⟩ = some (.int .i64 a.tk) ∧ w'.cell? ⟨w.heap.size, 1, none⟩ = some (.int .i64 a.x) ∧ w'.cell? ⟨w.heap.size, 2, none⟩ = some (.int .i64 a.y) ∧ w'.cell? ⟨w.heap.size, 3, none⟩ = some (.int .i64 a.sz) ∧ w'.cell? ⟨w.heap.size + 1, 0, none⟩ = some (.int .i64 d.tk) ∧ w'.cell? ⟨w.heap.size + 1, 1, none⟩ = some (.int .i64 d.x) ∧ w'.cell? ⟨w.heap.size + 1, 2, none⟩ = some (.int .i64 d.y) ∧ w'.cell? ⟨w.heap.size + 1, 3, none⟩ = some (.int .i64 d.sz))
    (go_keep) (first | (go_at_call 102; (with_reducible refine (cmp_any _ _ _).mono ?_); rintro e w' ⟨rfl, rfl⟩) | (go_at_call 101; (with_reducible refine (or4_any (cmpI a.tk d.tk) (cmpI a.x d.x) (cmpI a.y d.y) (cmpI a.sz d.sz) _ _ _ ?_).mono ?_); exact RowAt.of_block encI_len (heap_new3 _ _ _ _) rfl; rintro e w' ⟨rfl, rfl⟩))
  go_wp2
  go_ret
  exact ⟨rfl, (by repeat (first | exact bref _ | (refine balloc ?_ _) | (refine bdrew ?_) | (refine bdrewN ?_ _) | (refine bstep ?_ (by assumption))))⟩

set_option maxRecDepth 100000 in
set_option maxHeartbeats 2000000 in
theorem l16Before_any (a d : Qu) (w : World) :
    Calls Try.prog 105 #[.agg #[.int .i64 a.tk, .int .i64 a.x, .int .i64 a.y, .int .i64 a.sz], .agg #[.int .i64 d.tk, .int .i64 d.x, .int .i64 d.y, .int .i64 d.sz]] w fun e w' => e = .returned (.bool (ltQu a d)) ∧ Below w.heap.size w w' := by
  cases h1 : (a.tk != d.tk)
  · have e1 : a.tk = d.tk := by simpa using h1
    cases h2 : (a.x != d.x)
    · have e2 : a.x = d.x := by simpa using h2
      cases h3 : (a.y != d.y)
      · have e3 : a.y = d.y := by simpa using h3
        have HF := Lib.hid (show ltQu a d = decide (a.sz < d.sz) by simp [ltQu, e1, e2, e3])
        clear e1 e2 e3
        go_enter Try.func105, Try.ntmps105
        go_wp2
        go_ret
        exact ⟨ret_bool HF.out.symm, (by repeat (first | exact bref _ | (refine balloc ?_ _) | (refine bdrew ?_) | (refine bdrewN ?_ _) | (refine bstep ?_ (by assumption))))⟩
      · have e3 : a.y ≠ d.y := by simpa using h3
        have HF := Lib.hid (show ltQu a d = decide (a.y < d.y) by simp [ltQu, e1, e2, e3])
        clear e1 e2 e3
        go_enter Try.func105, Try.ntmps105
        go_wp2
        go_ret
        exact ⟨ret_bool HF.out.symm, (by repeat (first | exact bref _ | (refine balloc ?_ _) | (refine bdrew ?_) | (refine bdrewN ?_ _) | (refine bstep ?_ (by assumption))))⟩
    · have e2 : a.x ≠ d.x := by simpa using h2
      have HF := Lib.hid (show ltQu a d = decide (a.x < d.x) by simp [ltQu, e1, e2])
      clear e1 e2
      go_enter Try.func105, Try.ntmps105
      go_wp2
      go_ret
      exact ⟨ret_bool HF.out.symm, (by repeat (first | exact bref _ | (refine balloc ?_ _) | (refine bdrew ?_) | (refine bdrewN ?_ _) | (refine bstep ?_ (by assumption))))⟩
  · have e1 : a.tk ≠ d.tk := by simpa using h1
    have HF := Lib.hid (show ltQu a d = decide (a.tk < d.tk) by simp [ltQu, e1])
    clear e1
    go_enter Try.func105, Try.ntmps105
    go_wp2
    go_ret
    exact ⟨ret_bool HF.out.symm, (by repeat (first | exact bref _ | (refine balloc ?_ _) | (refine bdrew ?_) | (refine bdrewN ?_ _) | (refine bstep ?_ (by assumption))))⟩
end Go.Proofs.Ytlinjkfbcekepaa
