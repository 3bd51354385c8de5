/-
  One motion: spec's and impl's test answer alike; its number.
-/
import Derived.Test.YtefofllkeghfnaaIn
namespace Go.Proofs.Ytefofllkeghfnaa
open Go.RowKit

def oneMo (s x y g : Int) : Bool := inB s 1 99 && inB x (-999) 999 && inB y (-999) 999 && (x != 0 || y != 0) && (g == 1 || g == -1)

set_option maxHeartbeats 1000000 in
theorem l13One_any (s x y g : Int) (w : World) :
    Calls Try.prog 58 #[.agg #[.int .i64 s, .int .i64 x, .int .i64 y, .int .i64 g]] w fun e w' => e = .returned (.bool (oneMo s x y g)) ∧ Below w.heap.size w w' := by
  cases h1 : inB s 1 99 <;> cases h2 : inB x (-999) 999 <;> cases h3 : inB y (-999) 999
  all_goals
    go_enter Try.func58, Try.ntmps58
    go_wp2_with (go_at_call 69; (with_reducible refine (l1In_any _ _ _ _).mono ?_); rintro e w' ⟨rfl, rfl⟩)
    all_goals
      go_ret
      exact ⟨by simp_all [oneMo], (by repeat (first | exact bref _ | (refine balloc ?_ _) | (refine bdrew ?_) | (refine bdrewN ?_ _) | (refine bstep ?_ (by assumption))))⟩

set_option maxHeartbeats 400000 in
theorem isPolarity_any (p : Int) (w : World) :
    Calls Try.prog 65 #[.int .i64 p] w fun e w' => e = .returned (.bool (p == 1 || p == -1)) ∧ w = w' := by
  go_enter Try.func65, Try.ntmps65
  go_wp2
  all_goals
    go_ret
    exact ⟨by simp_all, rfl⟩

set_option maxHeartbeats 1000000 in
theorem isMotion_any (s x y g : Int) (w : World) :
    Calls Try.prog 55 #[.agg #[.int .i64 s, .int .i64 x, .int .i64 y, .int .i64 g]] w fun e w' => e = .returned (.bool (oneMo s x y g)) ∧ Below w.heap.size w w' := by
  cases h1 : inB s 1 99 <;> cases h2 : inB x (-999) 999 <;> cases h3 : inB y (-999) 999
  all_goals
    go_enter Try.func55, Try.ntmps55
    go_wp2_with (first | (go_at_call 70; (with_reducible refine (in_any _ _ _ _).mono ?_); rintro e w' ⟨rfl, rfl⟩) | (go_at_call 65; (with_reducible refine (isPolarity_any _ _).mono ?_); rintro e w' ⟨rfl, rfl⟩))
    all_goals
      go_ret
      exact ⟨by simp_all [oneMo], (by repeat (first | exact bref _ | (refine balloc ?_ _) | (refine bdrew ?_) | (refine bdrewN ?_ _) | (refine bstep ?_ (by assumption))))⟩

set_option maxHeartbeats 400000 in
theorem idMo_any (s x y g : Int) (w : World) :
    Calls Try.prog 56 #[.agg #[.int .i64 s, .int .i64 x, .int .i64 y, .int .i64 g]] w fun e w' => e = .returned (.int .i64 s) ∧ Below w.heap.size w w' := by
  go_enter Try.func56, Try.ntmps56
  go_wp2
  go_ret
  exact ⟨rfl, (by repeat (first | exact bref _ | (refine balloc ?_ _) | (refine bdrew ?_) | (refine bdrewN ?_ _) | (refine bstep ?_ (by assumption))))⟩
end Go.Proofs.Ytefofllkeghfnaa
