/-
  The ticks with which an origin at a place fits an arrival; whether it fits: impl and spec compute one thing.
-/
import Derived.Test.YtaobbkiepggafaaGreatCuCan
import Derived.Test.YtaobbkiepggafaaGreatArTk
import Derived.Test.YtaobbkiepggafaaGreatOg0
namespace Go.Proofs.YtaobbkiepggafaaGreat
set_option linter.unusedVariables false
set_option linter.unusedSimpArgs false
set_option linter.unnecessarySimpa false
open Go.RowKit
attribute [local go_sem] ext_cell ext_frozen

def minI (a b : Int) : Int := if a < b then a else b
def sqT (a : Ar) (x y : Int) : Int := (a.x - x) * (a.x - x) + (a.y - y) * (a.y - y)
def upT (n : Int) : Int := if rt n * rt n = n then rt n else rt n + 1
def loT (a : Ar) (x y : Int) : Int := maxI 0 (a.tk - a.er - rt (400 * sqT a x y))
def hiT (a : Ar) (x y : Int) : Int := minI 1000000 (a.tk + a.er - upT (400 * sqT a x y))
theorem sqs_bd {d : Int} (h : -1014 ≤ d ∧ d ≤ 1014) : 0 ≤ d * d ∧ d * d ≤ 1028196 := by
  have h1 : d * d = d.natAbs * d.natAbs := (Int.natAbs_mul_self (a := d)).symm
  have h2 : d.natAbs ≤ 1014 := by omega
  have h3 := Nat.mul_le_mul h2 h2
  have h4 : ((d.natAbs * d.natAbs : Nat) : Int) = (d.natAbs : Int) * (d.natAbs : Int) := Int.natCast_mul _ _
  constructor
  · rw [h1, ← h4]; omega
  · rw [h1, ← h4]; omega
theorem sqT_bd {a : Ar} {x y : Int} (ha : oneArM a = true) (hx : 0 ≤ x ∧ x ≤ 1014) (hy : 0 ≤ y ∧ y ≤ 1014) : 0 ≤ sqT a x y ∧ sqT a x y ≤ 2056392 := by
  obtain ⟨_, bx, by_, _, _⟩ := oneAr_bounds ha
  have h1 := sqs_bd (d := a.x - x) (by omega)
  have h2 := sqs_bd (d := a.y - y) (by omega)
  unfold sqT; omega
theorem up_iff {n r : Int} (h : rtB n r) (hi : Int) : (0 ≤ hi ∧ n ≤ hi * hi) ↔ (if r * r = n then r else r + 1) ≤ hi := by
  obtain ⟨h0, h1, h2⟩ := h
  constructor
  · rintro ⟨g0, g1⟩
    split
    · rename_i e
      rcases Int.lt_or_le hi r with g | g
      · have a1 := sq_le (a := hi + 1) (b := r) (by omega) (by omega)
        have a2 := sq_up hi
        omega
      · exact g
    · rename_i e
      rcases Int.lt_or_le hi (r + 1) with g | g
      · have a1 := sq_le (a := hi) (b := r) g0 (by omega)
        omega
      · exact g
  · intro g
    split at g
    · have := sq_le (a := r) (b := hi) h0 g
      omega
    · have := sq_le (a := r + 1) (b := hi) (by omega) g
      omega
theorem lo_iff {n r : Int} (h : rtB n r) (lo : Int) : (lo ≤ 0 ∨ lo * lo ≤ n) ↔ lo ≤ r := by
  constructor
  · rintro (g | g)
    · have := h.1; omega
    · rcases Int.lt_or_le lo 0 with g0 | g0
      · have := h.1; omega
      · exact rtB_le h g0 g
  · intro g
    rcases Int.lt_or_le 0 lo with g0 | g0
    · exact .inr (rtB_ge h (by omega) g)
    · exact .inl g0
def fitB (a : Ar) (o : Og) : Bool := inB o.tk (loT a o.x o.y) (hiT a o.x o.y)
theorem fit_law {a : Ar} {o : Og} (ha : oneArM a = true) (hx : 0 ≤ o.x ∧ o.x ≤ 1014) (hy : 0 ≤ o.y ∧ o.y ≤ 1014) (ht : 0 ≤ o.tk ∧ o.tk ≤ 1000000) :
    fitB a o = (decide (0 ≤ a.tk + a.er - o.tk) && decide (400 * sqT a o.x o.y ≤ (a.tk + a.er - o.tk) * (a.tk + a.er - o.tk)) && (decide (a.tk - a.er - o.tk ≤ 0) || decide ((a.tk - a.er - o.tk) * (a.tk - a.er - o.tk) ≤ 400 * sqT a o.x o.y))) := by
  have hs := sqT_bd ha hx hy
  obtain ⟨hr, _⟩ := rt_spec (n := 400 * sqT a o.x o.y) (by omega) (by omega)
  have h1 := up_iff hr (a.tk + a.er - o.tk)
  have h2 := lo_iff hr (a.tk - a.er - o.tk)
  rw [Bool.eq_iff_iff]
  simp only [Bool.and_eq_true, Bool.or_eq_true, decide_eq_true_eq]
  rw [h1, h2]
  unfold fitB loT hiT upT maxI minI
  rw [inB_eq]
  simp only [Bool.and_eq_true, decide_eq_true_eq]
  generalize (if rt (400 * sqT a o.x o.y) * rt (400 * sqT a o.x o.y) = 400 * sqT a o.x o.y then rt (400 * sqT a o.x o.y) else rt (400 * sqT a o.x o.y) + 1) = u
  split <;> split <;> omega

set_option maxHeartbeats 400000 in
theorem squareS_any (a b : Int) (w : World) (ha : -1014 ≤ a ∧ a ≤ 1014) (hb : -1014 ≤ b ∧ b ≤ 1014) :
    Calls Tryz.prog 78 #[.int .i64 a, .int .i64 b] w fun e w' => e = .returned (.int .i64 (a * a + b * b)) ∧ w = w' := by
  have h1 := sqs_bd ha
  have h2 := sqs_bd hb
  go_enter Tryz.func78, Tryz.ntmps78
  go_wp2
  go_ret
  exact ⟨rfl, rfl⟩
set_option maxHeartbeats 400000 in
theorem l1Least_any (a b : Int) (w : World) :
    Calls Tryz.prog 55 #[.int .i64 a, .int .i64 b] w fun e w' => e = .returned (.int .i64 (minI a b)) ∧ w = w' := by
  by_cases h : a < b
  all_goals
    go_enter Tryz.func55, Tryz.ntmps55
    go_wp2
    go_ret
    exact ⟨ret_int (by unfold minI; split <;> omega), rfl⟩
set_option maxHeartbeats 1000000 in
theorem l10Square_any (a : Ar) (x y : Int) (w : World) (ha : oneArM a = true) (hx : 0 ≤ x ∧ x ≤ 1014) (hy : 0 ≤ y ∧ y ≤ 1014) :
    Calls Tryz.prog 57 #[.int .i64 a.x, .int .i64 a.y, .int .i64 x, .int .i64 y] w fun e w' => e = .returned (.int .i64 (400 * sqT a x y)) ∧ w = w' := by
  obtain ⟨_, bx, by_, _, _⟩ := oneAr_bounds ha
  have h1 := sqs_bd (d := a.x - x) (by omega)
  have h2 := sqs_bd (d := a.y - y) (by omega)
  go_enter Tryz.func57, Tryz.ntmps57
  go_wp2
  go_ret
  exact ⟨rfl, rfl⟩
set_option maxRecDepth 100000 in
set_option maxHeartbeats 4000000 in
theorem ticks_any (a : Ar) (x y : Int) (w : World) (ha : oneArM a = true) (hx : 0 ≤ x ∧ x ≤ 1014) (hy : 0 ≤ y ∧ y ≤ 1014) :
    Calls Tryz.prog 46 #[.agg #[.int .i64 a.id, .int .i64 a.x, .int .i64 a.y, .int .i64 a.tk, .int .i64 a.er], .int .i64 x, .int .i64 y] w fun e w' => e = .returned (.tuple #[.int .i64 (loT a x y), .int .i64 (hiT a x y)]) ∧ Below w.heap.size w w' := by
  obtain ⟨_, bx, by_, bt, be⟩ := oneAr_bounds ha
  have hs := sqT_bd ha hx hy
  obtain ⟨hr, hr4⟩ := rt_spec (n := 400 * sqT a x y) (by omega) (by omega)
  have hr0 := hr.1
  have HS : Hid (∀ W : World, Calls Tryz.prog 78 #[.int .i64 (a.x - x), .int .i64 (a.y - y)] W fun e w' => e = .returned (.int .i64 (sqT a x y)) ∧ W = w') := Lib.hid (fun W => squareS_any (a.x - x) (a.y - y) W (by omega) (by omega))
  have HR : Hid (∀ W : World, Calls Tryz.prog 77 #[.int .i64 (400 * sqT a x y)] W fun e w' => e = .returned (.tuple #[.int .i64 (rt (400 * sqT a x y)), .bool (decide (rt (400 * sqT a x y) * rt (400 * sqT a x y) = 400 * sqT a x y))]) ∧ Below W.heap.size W w') := Lib.hid (fun W => root_any _ W (by omega) (by omega))
  have HF := Lib.hid (show loT a x y = maxI 0 (a.tk - a.er - rt (400 * sqT a x y)) ∧ hiT a x y = minI 1000000 (a.tk + a.er - upT (400 * sqT a x y)) from ⟨rfl, rfl⟩)
  have HU := Lib.hid (show upT (400 * sqT a x y) = if rt (400 * sqT a x y) * rt (400 * sqT a x y) = 400 * sqT a x y then rt (400 * sqT a x y) else rt (400 * sqT a x y) + 1 from rfl)
  have HB0 := Lib.hid (boxAr w 71 a)
  generalize upT (400 * sqT a x y) = u at HF HU
  generalize sqT a x y = S at hs HS HR HF HU hr hr4 hr0
  generalize rt (400 * S) = r at HR HF HU hr hr4 hr0
  clear hr
  have hw1 : IntKind.i64.wrap (a.tk - a.er) = a.tk - a.er := by rw [IntKind.wrap_i64]; omega
  have hw2 : IntKind.i64.wrap (a.tk - a.er - r) = a.tk - a.er - r := by rw [IntKind.wrap_i64]; omega
  have hw3 : IntKind.i64.wrap (a.tk + a.er) = a.tk + a.er := by rw [IntKind.wrap_i64]; omega
  have hw4 : IntKind.i64.wrap (a.tk + a.er - r) = a.tk + a.er - r := by rw [IntKind.wrap_i64]; omega
  by_cases hex : r * r = 400 * S
  · rw [if_pos hex] at HU
    rw [decide_eq_true hex] at HR
    clear hex
    go_enter Tryz.func46, Tryz.ntmps46
    go_wp2_with (first | (go_at_call 78; (with_reducible refine (HS.out _).mono ?_); rintro e w' ⟨rfl, rfl⟩) | (go_at_call 77; (with_reducible refine (HR.out _).mono ?_); rintro e w1 ⟨rfl, hb1⟩; obtain ⟨d1, d2, d3, d4⟩ := cellAr4 (by simp) HB0.out hb1))
    have hs1 := hb1.size
    simp only [World.size_alloc] at hs1
    have hz1 : w.heap.size < w1.heap.size := by omega
    (refine wp_region_calm (by kernel_rfl) (by kernel_rfl) ?_; (repeat (go_big_quiet_step ((fail)))); refine wpQuiet_nil ?_; intro xw; have hb2 := xw.is; generalize xw.w = w2 at hb2 ⊢; clear xw)
    go_wp2_with fail
    all_goals
      go_ret2
      exact ⟨ret_ii (F := (loT a x y, hiT a x y)) (by rw [HF.out.1, HF.out.2, HU.out]; unfold maxI minI; congr 1 <;> (split <;> omega)), bstep (bstep (balloc (bref _) _) hb1) hb2⟩
  · rw [if_neg hex] at HU
    rw [decide_eq_false hex] at HR
    clear hex
    go_enter Tryz.func46, Tryz.ntmps46
    go_wp2_with (first | (go_at_call 78; (with_reducible refine (HS.out _).mono ?_); rintro e w' ⟨rfl, rfl⟩) | (go_at_call 77; (with_reducible refine (HR.out _).mono ?_); rintro e w1 ⟨rfl, hb1⟩; obtain ⟨d1, d2, d3, d4⟩ := cellAr4 (by simp) HB0.out hb1))
    have hs1 := hb1.size
    simp only [World.size_alloc] at hs1
    have hz1 : w.heap.size < w1.heap.size := by omega
    (refine wp_region_calm (by kernel_rfl) (by kernel_rfl) ?_; (repeat (go_big_quiet_step ((fail)))); refine wpQuiet_nil ?_; intro xw; have hb2 := xw.is; generalize xw.w = w2 at hb2 ⊢; clear xw)
    go_wp2_with fail
    all_goals
      go_ret2
      exact ⟨ret_ii (F := (loT a x y, hiT a x y)) (by rw [HF.out.1, HF.out.2, HU.out]; unfold maxI minI; congr 1 <;> (split <;> omega)), bstep (bstep (balloc (bref _) _) hb1) hb2⟩
end Go.Proofs.YtaobbkiepggafaaGreat
