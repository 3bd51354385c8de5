/-
  impl.gcd, impl.fraction, spec.l2Reduce.
-/
import Derived.Test.YtlinjkfbcekepaaQuMatch
namespace Go.Proofs.Ytlinjkfbcekepaa
set_option linter.unusedVariables false
set_option linter.unusedSimpArgs false
set_option linter.unnecessarySimpa false
open Go.RowKit
attribute [local go_sem] ext_cell ext_frozen

def fracI (n d : Int) : Int × Int := (n.tdiv (Int.gcd n d), d / (Int.gcd n d : Int))
theorem gcd_step (x y : Int) : Int.gcd y (x.tmod y) = Int.gcd x y := by
  unfold Int.gcd
  rw [Int.natAbs_tmod, Nat.gcd_comm, ← Nat.gcd_rec, Nat.gcd_comm]
theorem tmod_lt (x y : Int) (h : y ≠ 0) : (x.tmod y).natAbs < y.natAbs := by
  rw [Int.natAbs_tmod]
  exact Nat.mod_lt _ (by omega)
theorem gcd_end (x : Int) : absI x = (Int.gcd x 0 : Nat) := by
  unfold Int.gcd absI
  simp
  split <;> omega
theorem gcd_abs (x y : Int) : Int.gcd (absI x) y = Int.gcd x y := by
  unfold Int.gcd absI
  split
  · rfl
  · rw [Int.natAbs_neg]

set_option maxHeartbeats 1000000 in
theorem gcd_any (a b : Int) (w : World) (ha : a.natAbs ≤ 1000000) (hb : b.natAbs ≤ 1000000) :
    Calls Try.prog 109 #[.int .i64 a, .int .i64 b] w fun e w' => e = .returned (.int .i64 (Int.gcd a b)) ∧ Below w.heap.size w w' := by
  go_enter Try.func109, Try.ntmps109
  go_wp2_with fail
  go_loopw [0, 1] (fun av bv wr => ∃ x y : Int, av = .int .i64 x ∧ bv = .int .i64 y ∧ x.natAbs ≤ 1000000 ∧ y.natAbs ≤ 1000000 ∧ Hid (Int.gcd x y = Int.gcd a b) ∧ Below w.heap.size w wr) (fun _ bv _ => (intOf bv).natAbs)
  case atStart => exact ⟨a, b, rfl, rfl, ha, hb, rfl, bref _⟩
  case round =>
    obtain ⟨x, y, rfl, rfl, hx, hy, HG, hbr⟩ := hrel
    by_cases h : y = 0
    · subst h
      have HE := Lib.hid (gcd_end x)
      go_wp2_with (go_at_call 97; (with_reducible refine (abs_any _ _ (by omega)).mono ?_); rintro e w' ⟨rfl, rfl⟩)
      go_ret
      exact ⟨ret_int (by rw [HE.out, HG.out]), hbr⟩
    · have hl := tmod_lt x y h
      have hny : (y != 0) = true := by simp [h]
      have hny2 : decide (y = 0) = false := by simp [h]
      have hw : IntKind.i64.wrap (x.tmod y) = x.tmod y := by rw [IntKind.wrap_i64]; omega
      have HS := Lib.hid (gcd_step x y)
      go_wp2_with fail
      go_region
      all_goals go_wp2
      all_goals
        go_roundw
        case rel => exact ⟨y, x.tmod y, rfl, by go_num, hy, Nat.le_trans (Nat.le_of_lt hl) hy, Lib.hid (by rw [HS.out, HG.out]), by first | exact bdrew hbr | exact hbr⟩
        case measure => simpa [intOf] using hl
theorem ret_ii {F : Int × Int} {a b : Int} (h : F = (a, b)) : Ending.returned (.tuple #[.int .i64 a, .int .i64 b]) = .returned (.tuple #[.int .i64 F.1, .int .i64 F.2]) := by rw [h]
theorem gcd_pos {n d : Int} (hd : 1 ≤ d) : 1 ≤ (Int.gcd n d : Int) ∧ (Int.gcd n d : Int) ≤ d := by
  have h1 : Int.gcd n d ≠ 0 := fun e => by
    have := (Int.gcd_eq_zero_iff.1 e).2
    omega
  have h2 : Int.gcd n d ∣ d.natAbs := Nat.gcd_dvd_right _ _
  have h3 := Nat.le_of_dvd (by omega) h2
  omega
theorem tdiv_bd {n g : Int} (hn : n.natAbs ≤ 1000000) : -1000000 ≤ n.tdiv g ∧ n.tdiv g ≤ 1000000 := by
  have h : (n.tdiv g).natAbs = n.natAbs / g.natAbs := Int.natAbs_tdiv n g
  have h2 := Nat.div_le_self n.natAbs g.natAbs
  generalize n.tdiv g = q at h
  omega
set_option maxHeartbeats 1000000 in
theorem fraction_any (n d : Int) (w : World) (hn : n.natAbs ≤ 1000000) (hd : 1 ≤ d ∧ d ≤ 1000000) :
    Calls Try.prog 78 #[.int .i64 n, .int .i64 d] w fun e w' => e = .returned (.tuple #[.int .i64 (fracI n d).1, .int .i64 (fracI n d).2]) ∧ Below w.heap.size w w' := by
  obtain ⟨g1, g2⟩ := gcd_pos (n := n) hd.1
  have hb := tdiv_bd (g := (Int.gcd n d : Int)) hn
  have hw : IntKind.i64.wrap (n.tdiv (Int.gcd n d)) = n.tdiv (Int.gcd n d) := by rw [IntKind.wrap_i64]; omega
  have hd0 : 0 ≤ d / (Int.gcd n d : Int) := Int.ediv_nonneg (by omega) (by omega)
  have hd1 : d / (Int.gcd n d : Int) ≤ d := Int.ediv_le_self _ (by omega)
  have HC := Lib.hid (gcd_any n d w hn (by omega))
  have HF := Lib.hid (show fracI n d = (n.tdiv (Int.gcd n d), d / (Int.gcd n d : Int)) from rfl)
  have HF2 := Lib.hid (show fracI n d = (n.tdiv (Int.gcd n d), d.tdiv (Int.gcd n d : Int)) by unfold fracI; rw [Int.tdiv_eq_ediv_of_nonneg (a := d) (by omega)])
  have hw2 : IntKind.i64.wrap (d.tdiv (Int.gcd n d)) = d.tdiv (Int.gcd n d) := by rw [Int.tdiv_eq_ediv_of_nonneg (a := d) (by omega), IntKind.wrap_i64]; omega
  generalize (Int.gcd n d : Int) = g at g1 g2 hb hw hd0 hd1 HC HF HF2 hw2
  have hg0 : g ≠ 0 := by omega
  go_enter Try.func78, Try.ntmps78
  go_wp2_with (go_at_call 109; (with_reducible refine (HC.out).mono ?_); rintro e w1 ⟨rfl, hb1⟩)
  go_region
  all_goals go_wp2
  all_goals
    go_ret2
    first | exact ⟨ret_ii HF.out, by first | exact hb1 | exact bdrew hb1⟩ | exact ⟨ret_ii HF2.out, by first | exact hb1 | exact bdrew hb1⟩
theorem gcd_emod {x y : Int} (hx : 0 ≤ x) : Int.gcd y (x % y) = Int.gcd x y := by
  rw [← Int.tmod_eq_emod_of_nonneg hx, gcd_step]
set_option maxHeartbeats 2000000 in
theorem l2Reduce_any (n d : Int) (w : World) (hn : n.natAbs ≤ 1000000) (hd : 1 ≤ d ∧ d ≤ 1000000) :
    Calls Try.prog 79 #[.int .i64 n, .int .i64 d] w fun e w' => e = .returned (.tuple #[.int .i64 (fracI n d).1, .int .i64 (fracI n d).2]) ∧ Below w.heap.size w w' := by
  obtain ⟨g1, g2⟩ := gcd_pos (n := n) hd.1
  have hb := tdiv_bd (g := (Int.gcd n d : Int)) hn
  have hw : IntKind.i64.wrap (n.tdiv (Int.gcd n d)) = n.tdiv (Int.gcd n d) := by rw [IntKind.wrap_i64]; omega
  have hd0 : 0 ≤ d / (Int.gcd n d : Int) := Int.ediv_nonneg (by omega) (by omega)
  have hd1 : d / (Int.gcd n d : Int) ≤ d := Int.ediv_le_self _ (by omega)
  have HF := Lib.hid (show fracI n d = (n.tdiv (Int.gcd n d), d / (Int.gcd n d : Int)) from rfl)
  have HF2 := Lib.hid (show fracI n d = (n.tdiv (Int.gcd n d), d.tdiv (Int.gcd n d : Int)) by unfold fracI; rw [Int.tdiv_eq_ediv_of_nonneg (a := d) (by omega)])
  have hw2 : IntKind.i64.wrap (d.tdiv (Int.gcd n d)) = d.tdiv (Int.gcd n d) := by rw [Int.tdiv_eq_ediv_of_nonneg (a := d) (by omega), IntKind.wrap_i64]; omega
  have hM : 0 ≤ maxI n (-n) ∧ maxI n (-n) ≤ 1000000 := by unfold maxI; split <;> omega
  have HA := Lib.hid (show Int.gcd (maxI n (-n)) d = Int.gcd n d by
    rw [← gcd_abs n d]
    congr 1
    unfold maxI absI; split <;> split <;> omega)
  generalize hgg : Int.gcd n d = G at g1 g2 hb hw hd0 hd1 HF HF2 hw2 HA
  have hg0 : (G : Int) ≠ 0 := by omega
  go_enter Try.func79, Try.ntmps79
  go_wp2_with (go_at_call 106; (with_reducible refine (l1Most_any _ _ _).mono ?_); rintro e w' ⟨rfl, rfl⟩)
  generalize maxI n (-n) = M at hM HA ⊢
  go_loopw [6, 7] (fun av bv wr => ∃ x y : Int, av = .int .i64 x ∧ bv = .int .i64 y ∧ (0 ≤ x ∧ x ≤ 1000000) ∧ (0 ≤ y ∧ y ≤ 1000000) ∧ Hid (Int.gcd x y = G) ∧ Below w.heap.size w wr) (fun _ bv _ => (intOf bv).toNat)
  case atStart => exact ⟨M, d, rfl, rfl, hM, by omega, HA, bref _⟩
  case round =>
    obtain ⟨x, y, rfl, rfl, hx, hy, HG, hbr⟩ := hrel
    by_cases h : y = 0
    · subst h
      have hxg : x = (G : Int) := by
        have := HG.out
        unfold Int.gcd at this
        simp at this
        omega
      subst hxg
      go_wp2_with fail
      go_region
      all_goals go_wp2
      all_goals
        go_ret2
        first | exact ⟨ret_ii HF.out, by first | exact hbr | exact bdrew hbr⟩ | exact ⟨ret_ii HF2.out, by first | exact hbr | exact bdrew hbr⟩
    · have hny : (y != 0) = true := by simp [h]
      have hl := Int.emod_lt_of_pos x (show 0 < y by omega)
      have hl0 := Int.emod_nonneg x h
      have HS := Lib.hid (gcd_emod (y := y) hx.1)
      go_wp2_with fail
      go_roundw
      case rel => exact ⟨y, x % y, rfl, by go_num, hy, by omega, Lib.hid (by rw [HS.out, HG.out]), hbr⟩
      case measure => simp [intOf]; omega
end Go.Proofs.Ytlinjkfbcekepaa
