/-
  A duty by value: impl.IsDuty and spec.IsDuty answer alike.
-/
import Derived.Test.YtldhlmjfpnpamaaIn
namespace Go.Proofs.Ytldhlmjfpnpamaa
open Go.RowKit

def dutyB (a b c : Int) : Bool := inB a 1 50 && inB b 0 9999 && inB c 0 9999 && inB (c - b) 1 12

set_option maxHeartbeats 400000 in
theorem isWho_any (n : Int) (w : World) :
    Calls Try.prog 53 #[.int .i64 n] w fun e w' => e = .returned (.bool (inB n 1 50)) ∧ w = w' := by
  go_enter Try.func53, Try.ntmps53
  go_wp2_with (go_at_call 54; (with_reducible refine (in_any _ _ _ _).mono ?_); rintro e w' ⟨rfl, rfl⟩)
  go_ret
  exact ⟨rfl, rfl⟩

set_option maxHeartbeats 400000 in
theorem l17Who_any (n : Int) (w : World) :
    Calls Try.prog 61 #[.int .i64 n] w fun e w' => e = .returned (.bool (inB n 1 50)) ∧ w = w' := by
  go_enter Try.func61, Try.ntmps61
  go_wp2_with (go_at_call 64; (with_reducible refine (l1In_any _ _ _ _).mono ?_); rintro e w' ⟨rfl, rfl⟩)
  go_ret
  exact ⟨rfl, rfl⟩

set_option maxHeartbeats 400000 in
theorem isDuty_any (a b c : Int) (d : Bool) (w : World) :
    Calls Try.prog 16 #[.agg #[.int .i64 a, .int .i64 b, .int .i64 c, .bool d]] w fun e w' => e = .returned (.bool (dutyB a b c)) ∧ Below w.heap.size w w' := by
  cases h1 : inB a 1 50 <;> cases h2 : inB b 0 9999 <;> cases h3 : inB c 0 9999
  case true.true.true =>
    have b2 := inB_true h2
    have b3 := inB_true h3
    go_enter Try.func16, Try.ntmps16
    go_wp2_with (first | (go_at_call 53; (with_reducible refine (isWho_any _ _).mono ?_); rintro e w' ⟨rfl, rfl⟩) | (go_at_call 54; (with_reducible refine (in_any _ _ _ _).mono ?_); rintro e w' ⟨rfl, rfl⟩))
    go_ret
    exact ⟨by simp [dutyB, *], (Below.refl _ _).alloc (Nat.le_refl _) _⟩
  all_goals
    go_enter Try.func16, Try.ntmps16
    go_wp2_with (first | (go_at_call 53; (with_reducible refine (isWho_any _ _).mono ?_); rintro e w' ⟨rfl, rfl⟩) | (go_at_call 54; (with_reducible refine (in_any _ _ _ _).mono ?_); rintro e w' ⟨rfl, rfl⟩))
    go_ret
    exact ⟨by simp [dutyB, *], (Below.refl _ _).alloc (Nat.le_refl _) _⟩

theorem duty_eq (a b c : Int) : (inB a 1 50 && inB c 0 9999 && inB b 0 (c - 1) && decide (c - b ≤ 12)) = dutyB a b c := by
  simp only [dutyB, inB_eq]
  rw [Bool.eq_iff_iff]
  simp
  omega

set_option maxHeartbeats 400000 in
theorem l17One_any (a b c : Int) (d : Bool) (w : World) :
    Calls Try.prog 52 #[.agg #[.int .i64 a, .int .i64 b, .int .i64 c, .bool d]] w fun e w' => e = .returned (.bool (dutyB a b c)) ∧ Below w.heap.size w w' := by
  rw [← duty_eq]
  cases h1 : inB a 1 50 <;> cases h2 : inB c 0 9999 <;> cases h3 : inB b 0 (c - 1)
  case true.true.true =>
    have b2 := inB_true h2
    have b3 := inB_true h3
    go_enter Try.func52, Try.ntmps52
    go_wp2_with (first | (go_at_call 61; (with_reducible refine (l17Who_any _ _).mono ?_); rintro e w' ⟨rfl, rfl⟩) | (go_at_call 64; (with_reducible refine (l1In_any _ _ _ _).mono ?_); rintro e w' ⟨rfl, rfl⟩))
    go_ret
    exact ⟨by simp [*], (Below.refl _ _).alloc (Nat.le_refl _) _⟩
  case true.true.false =>
    have b2 := inB_true h2
    go_enter Try.func52, Try.ntmps52
    go_wp2_with (first | (go_at_call 61; (with_reducible refine (l17Who_any _ _).mono ?_); rintro e w' ⟨rfl, rfl⟩) | (go_at_call 64; (with_reducible refine (l1In_any _ _ _ _).mono ?_); rintro e w' ⟨rfl, rfl⟩))
    go_ret
    exact ⟨by simp [*], (Below.refl _ _).alloc (Nat.le_refl _) _⟩
  all_goals
    go_enter Try.func52, Try.ntmps52
    go_wp2_with (first | (go_at_call 61; (with_reducible refine (l17Who_any _ _).mono ?_); rintro e w' ⟨rfl, rfl⟩) | (go_at_call 64; (with_reducible refine (l1In_any _ _ _ _).mono ?_); rintro e w' ⟨rfl, rfl⟩))
    go_ret
    exact ⟨by simp [*], (Below.refl _ _).alloc (Nat.le_refl _) _⟩

set_option maxHeartbeats 400000 in
theorem toDuty_any (a b c : Int) (d : Bool) (w : World) :
    Calls Try.prog 15 #[.agg #[.int .i64 a, .int .i64 b, .int .i64 c, .bool d]] w fun e w' => e = .returned (.agg #[.int .i64 a, .int .i64 b, .int .i64 c, .bool d]) ∧ Below w.heap.size w w' := by
  go_enter Try.func15, Try.ntmps15
  go_wp2
  exact bodyPost_ret (v := .agg #[.int .i64 a, .int .i64 b, .int .i64 c, .bool d]) (by simp [results, Try.results15, go_sem]) rfl ⟨rfl, (by repeat (first | exact bref _ | (refine balloc ?_ _) | (refine bdrew ?_) | (refine bdrewN ?_ _) | (refine bstep ?_ (by assumption))))⟩
end Go.Proofs.Ytldhlmjfpnpamaa
