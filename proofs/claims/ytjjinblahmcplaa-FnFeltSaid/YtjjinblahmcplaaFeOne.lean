/-
  One felt report: spec's and impl's test answer alike; its number.
-/
import Derived.Test.YtjjinblahmcplaaIn
namespace Go.Proofs.Ytjjinblahmcplaa
open Go.RowKit

def placeB (x y : Int) : Bool := inB x 0 999 && inB y 0 999
def oneFe (i x y l p : Int) : Bool := inB i 1 9999 && placeB x y && inB l 1 12 && inB p 1 1000

set_option maxHeartbeats 400000 in
theorem isPlace_any (x y : Int) (w : World) :
    Calls Try.prog 63 #[.int .i64 x, .int .i64 y] w fun e w' => e = .returned (.bool (placeB x y)) ∧ w = w' := by
  cases h1 : inB x 0 999
  all_goals
    go_enter Try.func63, Try.ntmps63
    go_wp2_with (go_at_call 62; (with_reducible refine (in_any _ _ _ _).mono ?_); rintro e w' ⟨rfl, rfl⟩)
    go_ret
    exact ⟨by simp [placeB, h1], rfl⟩
set_option maxHeartbeats 400000 in
theorem l2Place_any (x y : Int) (w : World) :
    Calls Try.prog 68 #[.int .i64 x, .int .i64 y] w fun e w' => e = .returned (.bool (placeB x y)) ∧ w = w' := by
  cases h1 : inB x 0 999
  all_goals
    go_enter Try.func68, Try.ntmps68
    go_wp2_with (go_at_call 82; (with_reducible refine (l1In_any _ _ _ _).mono ?_); rintro e w' ⟨rfl, rfl⟩)
    go_ret
    exact ⟨by simp [placeB, h1], rfl⟩
set_option maxHeartbeats 400000 in
theorem l14Level_any (x : Int) (w : World) :
    Calls Try.prog 70 #[.int .i64 x] w fun e w' => e = .returned (.bool (inB x 1 12)) ∧ w = w' := by
  go_enter Try.func70, Try.ntmps70
  go_wp2_with (go_at_call 82; (with_reducible refine (l1In_any _ _ _ _).mono ?_); rintro e w' ⟨rfl, rfl⟩)
  go_ret
  exact ⟨rfl, rfl⟩

set_option maxHeartbeats 1000000 in
theorem l14One_any (i x y l p : Int) (w : World) :
    Calls Try.prog 61 #[.agg #[.int .i64 i, .int .i64 x, .int .i64 y, .int .i64 l, .int .i64 p]] w fun e w' => e = .returned (.bool (oneFe i x y l p)) ∧ Below w.heap.size w w' := by
  cases h1 : inB i 1 9999 <;> cases h2 : placeB x y <;> cases h3 : inB l 1 12
  all_goals
    go_enter Try.func61, Try.ntmps61
    go_wp2_with (first | (go_at_call 82; (with_reducible refine (l1In_any _ _ _ _).mono ?_); rintro e w' ⟨rfl, rfl⟩) | (go_at_call 68; (with_reducible refine (l2Place_any _ _ _).mono ?_); rintro e w' ⟨rfl, rfl⟩) | (go_at_call 70; (with_reducible refine (l14Level_any _ _).mono ?_); rintro e w' ⟨rfl, rfl⟩))
    go_ret
    exact ⟨by simp [oneFe, *], (by repeat (first | exact bref _ | (refine balloc ?_ _) | (refine bdrew ?_) | (refine bdrewN ?_ _) | (refine bstep ?_ (by assumption))))⟩

set_option maxHeartbeats 1000000 in
theorem isFelt_any (i x y l p : Int) (w : World) :
    Calls Try.prog 17 #[.agg #[.int .i64 i, .int .i64 x, .int .i64 y, .int .i64 l, .int .i64 p]] w fun e w' => e = .returned (.bool (oneFe i x y l p)) ∧ Below w.heap.size w w' := by
  cases h1 : inB i 1 9999 <;> cases h2 : placeB x y <;> cases h3 : inB l 1 12
  all_goals
    go_enter Try.func17, Try.ntmps17
    go_wp2_with (first | (go_at_call 62; (with_reducible refine (in_any _ _ _ _).mono ?_); rintro e w' ⟨rfl, rfl⟩) | (go_at_call 63; (with_reducible refine (isPlace_any _ _ _).mono ?_); rintro e w' ⟨rfl, rfl⟩))
    go_ret
    exact ⟨by simp [oneFe, *], (by repeat (first | exact bref _ | (refine balloc ?_ _) | (refine bdrew ?_) | (refine bdrewN ?_ _) | (refine bstep ?_ (by assumption))))⟩

set_option maxHeartbeats 400000 in
theorem idFe_any (i x y l p : Int) (w : World) :
    Calls Try.prog 66 #[.agg #[.int .i64 i, .int .i64 x, .int .i64 y, .int .i64 l, .int .i64 p]] w fun e w' => e = .returned (.int .i64 i) ∧ Below w.heap.size w w' := by
  go_enter Try.func66, Try.ntmps66
  go_wp2
  go_ret
  exact ⟨rfl, (by repeat (first | exact bref _ | (refine balloc ?_ _) | (refine bdrew ?_) | (refine bdrewN ?_ _) | (refine bstep ?_ (by assumption))))⟩

set_option maxHeartbeats 400000 in
theorem sIsFelt_any (i x y l p : Int) (w : World) :
    Calls Try.prog 15 #[.agg #[.int .i64 i, .int .i64 x, .int .i64 y, .int .i64 l, .int .i64 p]] w fun e w' => e = .returned (.bool (oneFe i x y l p)) ∧ Below w.heap.size w w' := by
  go_enter Try.func15, Try.ntmps15
  go_wp2_with (go_at_call 61; (with_reducible refine (l14One_any _ _ _ _ _ _).mono ?_); rintro e w1 ⟨rfl, hb1⟩; obtain ⟨hc_hb1, hf_hb1, hz_hb1⟩ := bcell (B := w.heap.size + 1) (by first | omega | (simp; done) | (simp; omega)) hb1)
  go_ret
  exact ⟨rfl, (by repeat (first | exact bref _ | (refine balloc ?_ _) | (refine bdrew ?_) | (refine bdrewN ?_ _) | (refine bstep ?_ (by assumption))))⟩
end Go.Proofs.Ytjjinblahmcplaa
