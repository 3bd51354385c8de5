/-
  The root by bisection, twice.
-/
import Derived.Test.YtaobbkiepggafaaGreatArOne
namespace Go.Proofs.YtaobbkiepggafaaGreat
set_option linter.unusedVariables false
set_option linter.unusedSimpArgs false
set_option linter.unnecessarySimpa false
open Go.RowKit
attribute [local go_sem] ext_cell ext_frozen

def rtB (n r : Int) : Prop := 0 ≤ r ∧ r * r ≤ n ∧ n < (r + 1) * (r + 1)
theorem sq_le {a b : Int} (ha : 0 ≤ a) (h : a ≤ b) : a * a ≤ b * b := Int.mul_le_mul h h ha (by omega)
theorem sq_up (n : Int) : (n + 1) * (n + 1) = n * n + n + n + 1 := by rw [Int.add_mul, Int.mul_add]; omega
theorem rtB_le {n r s : Int} (h : rtB n r) (h0 : 0 ≤ s) (h1 : s * s ≤ n) : s ≤ r := by
  rcases Int.lt_or_le r s with h2 | h2
  · have := sq_le (a := r + 1) (b := s) (by have := h.1; omega) (by omega)
    have := h.2.2
    omega
  · exact h2
theorem rtB_ge {n r s : Int} (h : rtB n r) (h0 : 0 ≤ s) (h1 : s ≤ r) : s * s ≤ n := Int.le_trans (sq_le h0 h1) h.2.1
def rtGo (n : Int) (k : Nat) : Nat := if h : k < 40001 then (if n < ((k : Int) + 1) * ((k : Int) + 1) then k else rtGo n (k + 1)) else k
termination_by 40001 - k
def rt (n : Int) : Int := (rtGo n 0 : Nat)
theorem rtGo_of {n : Int} {r : Nat} (h : rtB n (r : Int)) (hr : r ≤ 40000) : ∀ d k, r - k = d → k ≤ r → rtGo n k = r
  | 0, k, hd, hk => by
    obtain rfl : k = r := by omega
    rw [rtGo, dif_pos (by omega), if_pos h.2.2]
  | d + 1, k, hd, hk => by
    have h1 := sq_le (a := (k : Int) + 1) (b := (r : Int)) (by omega) (by omega)
    have h2 := h.2.1
    rw [rtGo, dif_pos (by omega), if_neg (by omega)]
    exact rtGo_of h hr d (k + 1) (by omega) (by omega)
theorem rt_of {n r : Int} (h : rtB n r) (hr : r ≤ 40000) : rt n = r := by
  have h0 := h.1
  obtain ⟨k, rfl⟩ : ∃ k : Nat, r = (k : Int) := ⟨r.toNat, by omega⟩
  unfold rt
  rw [rtGo_of h (by omega) k 0 rfl (Nat.zero_le _)]
theorem rt_small {n r : Int} (h : rtB n r) (hn : n ≤ 1000000000) : r ≤ 40000 := by
  rcases Int.lt_or_le 40000 r with h2 | h2
  · have := sq_le (a := 40001) (b := r) (by omega) (by omega)
    have := h.2.1
    omega
  · exact h2
theorem rt_ex : ∀ n : Nat, ∃ r : Int, rtB (n : Int) r
  | 0 => ⟨0, by simp [rtB]⟩
  | n + 1 => by
    obtain ⟨r, h0, h1, h2⟩ := rt_ex n
    have e1 := sq_up r
    have e2 := sq_up (r + 1)
    by_cases h : ((n + 1 : Nat) : Int) < (r + 1) * (r + 1)
    · exact ⟨r, h0, by omega, h⟩
    · exact ⟨r + 1, by omega, by omega, by rw [e2]; omega⟩
def rootR (n : Int) : Int × Bool := (rt n, decide (rt n * rt n = n))
theorem mid_le {n m : Int} (hm : 0 < m) : m ≤ n / m ↔ m * m ≤ n := Int.le_ediv_iff_mul_le hm

theorem rt_spec {n : Int} (h0 : 0 ≤ n) (h1 : n ≤ 1000000000) : rtB n (rt n) ∧ rt n ≤ 40000 := by
  obtain ⟨r, hr⟩ := rt_ex n.toNat
  rw [show ((n.toNat : Nat) : Int) = n by omega] at hr
  have h2 := rt_small hr h1
  rw [rt_of hr h2]
  exact ⟨hr, h2⟩

set_option maxRecDepth 100000 in
set_option maxHeartbeats 1000000 in
theorem root_any (n : Int) (w : World) (h0 : 0 ≤ n) (h1 : n ≤ 1000000000) :
    Calls Tryz.prog 77 #[.int .i64 n] w fun e w' => e = .returned (.tuple #[.int .i64 (rootR n).1, .bool (rootR n).2]) ∧ Below w.heap.size w w' := by
  have hs := sq_up n
  have hnn := Int.mul_nonneg h0 h0
  go_enter Tryz.func77, Tryz.ntmps77
  go_wp2_with fail
  go_loopw [4, 5] (fun lv hv wr => ∃ x y : Int, lv = .int .i64 x ∧ hv = .int .i64 y ∧ 0 ≤ x ∧ x < y ∧ y ≤ n + 1 ∧ x ≤ 40000 ∧ x * x ≤ n ∧ n < y * y ∧ Below w.heap.size w wr) (fun lv hv _ => (intOf hv - intOf lv).toNat)
  case atStart => exact ⟨0, n + 1, rfl, by go_num, by omega, by omega, by omega, by omega, by omega, by omega, bref _⟩
  case round =>
    obtain ⟨x, y, rfl, rfl, hx, hxy, hy, hx4, hxx, hyy, hbr⟩ := hrel
    by_cases h : y - x > 1
    · obtain ⟨m, hm⟩ : ∃ m, m = (x + y) / 2 := ⟨_, rfl⟩
      have hm0 : 0 < m := by omega
      have hmx : x < m := by omega
      have hmy : m < y := by omega
      have hl := mid_le (n := n) hm0
      have hd0 : 0 ≤ n / m := Int.ediv_nonneg h0 (by omega)
      have hd1 : n / m ≤ n := Int.ediv_le_self _ h0
      by_cases hc : m ≤ n / m
      · have hmm := hl.1 hc
        have hm4 : m ≤ 40000 := by
          rcases Int.lt_or_le 40000 m with h2 | h2
          · have := sq_le (a := 40001) (b := m) (by omega) (by omega)
            omega
          · exact h2
        subst hm
        go_wp2_with fail
        go_roundw
        case rel => exact ⟨_, y, rfl, rfl, by omega, by omega, by omega, hm4, hmm, hyy, hbr⟩
        case measure => simp [intOf]; omega
      · have hmm : n < m * m := by
          rcases Int.lt_or_le n (m * m) with h2 | h2
          · exact h2
          · exact absurd (hl.2 h2) hc
        subst hm
        go_wp2_with fail
        go_roundw
        case rel => exact ⟨x, _, rfl, rfl, by omega, by omega, by omega, hx4, hxx, hmm, hbr⟩
        case measure => simp [intOf]; omega
    · obtain rfl : y = x + 1 := by omega
      have hR : rtB n x := ⟨hx, hxx, hyy⟩
      have e := rt_of hR hx4
      have h16 := sq_le hx hx4
      have h17 := Int.mul_nonneg hx hx
      have HF := Lib.hid (show rootR n = (x, x * x == n) by unfold rootR; rw [e]; rfl)
      go_wp2_with fail
      go_ret2
      exact ⟨ret_ib HF.out, hbr⟩
set_option maxRecDepth 100000 in
set_option maxHeartbeats 1000000 in
theorem l10Root_any (n : Int) (w : World) (h0 : 0 ≤ n) (h1 : n ≤ 1000000000) :
    Calls Tryz.prog 56 #[.int .i64 n] w fun e w' => e = .returned (.int .i64 (rt n)) ∧ Below w.heap.size w w' := by
  go_enter Tryz.func56, Tryz.ntmps56
  go_wp2_with fail
  go_loopw [3, 4] (fun lv hv wr => ∃ x y : Int, lv = .int .i64 x ∧ hv = .int .i64 y ∧ 0 ≤ x ∧ x ≤ y ∧ y ≤ 40000 ∧ x * x ≤ n ∧ n < (y + 1) * (y + 1) ∧ Below w.heap.size w wr) (fun lv hv _ => (intOf hv - intOf lv).toNat)
  case atStart => exact ⟨0, 40000, rfl, rfl, by omega, by omega, by omega, by omega, by omega, bref _⟩
  case round =>
    obtain ⟨x, y, rfl, rfl, hx, hxy, hy, hxx, hyy, hbr⟩ := hrel
    by_cases h : x < y
    · obtain ⟨m, hm⟩ : ∃ m, m = (x + y + 1) / 2 := ⟨_, rfl⟩
      have hm0 : 0 < m := by omega
      have hmx : x < m := by omega
      have hmy : m ≤ y := by omega
      have h16 := sq_le (a := m) (b := 40000) (by omega) (by omega)
      have h17 := Int.mul_nonneg (a := m) (b := m) (by omega) (by omega)
      by_cases hc : m * m ≤ n
      · subst hm
        go_wp2_with fail
        go_roundw
        case rel => exact ⟨_, y, rfl, rfl, by omega, by omega, by omega, hc, hyy, hbr⟩
        case measure => simp [intOf]; omega
      · have e : m - 1 + 1 = m := by omega
        subst hm
        go_wp2_with fail
        go_roundw
        case rel => exact ⟨x, _, rfl, rfl, by omega, by omega, by omega, hxx, by rw [e]; omega, hbr⟩
        case measure => simp [intOf]; omega
    · obtain rfl : y = x := by omega
      have hR : rtB n y := ⟨hx, hxx, hyy⟩
      have e := rt_of hR hy
      go_wp2_with fail
      go_ret
      exact ⟨rfl, hbr⟩
end Go.Proofs.YtaobbkiepggafaaGreat
