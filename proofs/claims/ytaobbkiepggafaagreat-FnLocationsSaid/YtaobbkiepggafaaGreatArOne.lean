/-
  One arrival: spec's and impl's test answer alike; its number.
-/
import Derived.Test.YtaobbkiepggafaaGreatBase
import Derived.Test.YtaobbkiepggafaaGreatAr0
namespace Go.Proofs.YtaobbkiepggafaaGreat
set_option linter.unusedVariables false
set_option linter.unusedSimpArgs false
set_option linter.unnecessarySimpa false
open Go.RowKit
attribute [local go_sem] ext_cell ext_frozen

def placeB (x y : Int) : Bool := inB x 0 999 && inB y 0 999
def oneAr (i x y t e : Int) : Bool := inB i 1 99 && placeB x y && inB t 0 1000000 && inB e 0 1000
theorem placeB_true {x y : Int} (h : placeB x y = true) : (0 ≤ x ∧ x ≤ 999) ∧ (0 ≤ y ∧ y ≤ 999) := by
  unfold placeB at h
  rw [Bool.and_eq_true] at h
  exact ⟨inB_true h.1, inB_true h.2⟩
theorem oneAr_bounds {i x y t e : Int} (h : oneAr i x y t e = true) : (1 ≤ i ∧ i ≤ 99) ∧ (0 ≤ x ∧ x ≤ 999) ∧ (0 ≤ y ∧ y ≤ 999) ∧ (0 ≤ t ∧ t ≤ 1000000) ∧ (0 ≤ e ∧ e ≤ 1000) := by
  unfold oneAr placeB at h
  simp only [Bool.and_eq_true] at h
  exact ⟨inB_true h.1.1.1, inB_true h.1.1.2.1, inB_true h.1.1.2.2, inB_true h.1.2, inB_true h.2⟩

set_option maxHeartbeats 400000 in
theorem isPlace_any (x y : Int) (w : World) :
    Calls Tryz.prog 37 #[.int .i64 x, .int .i64 y] w fun e w' => e = .returned (.bool (placeB x y)) ∧ w = w' := by
  cases h1 : inB x 0 999
  all_goals
    go_enter Tryz.func37, Tryz.ntmps37
    go_wp2_with (go_at_call 59; (with_reducible refine (in_any _ _ _ _).mono ?_); rintro e w' ⟨rfl, rfl⟩)
    go_ret
    exact ⟨by simp [placeB, h1], rfl⟩
set_option maxHeartbeats 400000 in
theorem l2Place_any (x y : Int) (w : World) :
    Calls Tryz.prog 67 #[.int .i64 x, .int .i64 y] w fun e w' => e = .returned (.bool (placeB x y)) ∧ w = w' := by
  cases h1 : inB x 0 999
  all_goals
    go_enter Tryz.func67, Tryz.ntmps67
    go_wp2_with (go_at_call 97; (with_reducible refine (l1In_any _ _ _ _).mono ?_); rintro e w' ⟨rfl, rfl⟩)
    go_ret
    exact ⟨by simp [placeB, h1], rfl⟩
set_option maxHeartbeats 400000 in
theorem isTick_any (x : Int) (w : World) :
    Calls Tryz.prog 38 #[.int .i64 x] w fun e w' => e = .returned (.bool (inB x 0 1000000)) ∧ w = w' := by
  go_enter Tryz.func38, Tryz.ntmps38
  go_wp2_with (go_at_call 59; (with_reducible refine (in_any _ _ _ _).mono ?_); rintro e w' ⟨rfl, rfl⟩)
  go_ret
  exact ⟨rfl, rfl⟩
set_option maxHeartbeats 400000 in
theorem l2Tick_any (x : Int) (w : World) :
    Calls Tryz.prog 68 #[.int .i64 x] w fun e w' => e = .returned (.bool (inB x 0 1000000)) ∧ w = w' := by
  go_enter Tryz.func68, Tryz.ntmps68
  go_wp2_with (go_at_call 97; (with_reducible refine (l1In_any _ _ _ _).mono ?_); rintro e w' ⟨rfl, rfl⟩)
  go_ret
  exact ⟨rfl, rfl⟩

set_option maxHeartbeats 1000000 in
theorem l10One_any (i x y t p : Int) (w : World) :
    Calls Tryz.prog 104 #[.agg #[.int .i64 i, .int .i64 x, .int .i64 y, .int .i64 t, .int .i64 p]] w fun e w' => e = .returned (.bool (oneAr i x y t p)) ∧ Below w.heap.size w w' := by
  cases h1 : inB i 1 99 <;> cases h2 : placeB x y <;> cases h3 : inB t 0 1000000
  all_goals
    go_enter Tryz.func104, Tryz.ntmps104
    go_wp2_with (first | (go_at_call 97; (with_reducible refine (l1In_any _ _ _ _).mono ?_); rintro e w' ⟨rfl, rfl⟩) | (go_at_call 67; (with_reducible refine (l2Place_any _ _ _).mono ?_); rintro e w' ⟨rfl, rfl⟩) | (go_at_call 68; (with_reducible refine (l2Tick_any _ _).mono ?_); rintro e w' ⟨rfl, rfl⟩))
    go_ret
    exact ⟨by simp [oneAr, *], (by repeat (first | exact bref _ | (refine balloc ?_ _) | (refine bdrew ?_) | (refine bdrewN ?_ _) | (refine bstep ?_ (by assumption))))⟩

set_option maxHeartbeats 1000000 in
theorem isArrival_any (i x y t p : Int) (w : World) :
    Calls Tryz.prog 83 #[.agg #[.int .i64 i, .int .i64 x, .int .i64 y, .int .i64 t, .int .i64 p]] w fun e w' => e = .returned (.bool (oneAr i x y t p)) ∧ Below w.heap.size w w' := by
  cases h1 : inB i 1 99 <;> cases h2 : placeB x y <;> cases h3 : inB t 0 1000000
  all_goals
    go_enter Tryz.func83, Tryz.ntmps83
    go_wp2_with (first | (go_at_call 59; (with_reducible refine (in_any _ _ _ _).mono ?_); rintro e w' ⟨rfl, rfl⟩) | (go_at_call 37; (with_reducible refine (isPlace_any _ _ _).mono ?_); rintro e w' ⟨rfl, rfl⟩) | (go_at_call 38; (with_reducible refine (isTick_any _ _).mono ?_); rintro e w' ⟨rfl, rfl⟩))
    go_ret
    exact ⟨by simp [oneAr, *], (by repeat (first | exact bref _ | (refine balloc ?_ _) | (refine bdrew ?_) | (refine bdrewN ?_ _) | (refine bstep ?_ (by assumption))))⟩

set_option maxHeartbeats 400000 in
theorem idAr_any (i x y t p : Int) (w : World) :
    Calls Tryz.prog 84 #[.agg #[.int .i64 i, .int .i64 x, .int .i64 y, .int .i64 t, .int .i64 p]] w fun e w' => e = .returned (.int .i64 i) ∧ Below w.heap.size w w' := by
  go_enter Tryz.func84, Tryz.ntmps84
  go_wp2
  go_ret
  exact ⟨rfl, (by repeat (first | exact bref _ | (refine balloc ?_ _) | (refine bdrew ?_) | (refine bdrewN ?_ _) | (refine bstep ?_ (by assumption))))⟩
end Go.Proofs.YtaobbkiepggafaaGreat
