/-
  cmp.Compare and cmp.Or at int.
-/
import Derived.Test.YtlinjkfbcekepaaInts0
import Derived.Test.YtlinjkfbcekepaaRows
namespace Go.Proofs.Ytlinjkfbcekepaa
set_option linter.unusedVariables false
set_option linter.unusedSimpArgs false
set_option linter.unnecessarySimpa false
open Go.RowKit

def cmpI (a b : Int) : Int := if a < b then -1 else if b < a then 1 else 0
theorem cmpI_lt {a b : Int} (h : a < b) : cmpI a b = -1 := by simp [cmpI, h]
theorem cmpI_gt {a b : Int} (h : b < a) : cmpI a b = 1 := by simp [cmpI, h]; omega
theorem cmpI_eq {a b : Int} (h : a = b) : cmpI a b = 0 := by simp [cmpI, h]
theorem cmpI_bd (a b : Int) : -1 ≤ cmpI a b ∧ cmpI a b ≤ 1 := by unfold cmpI; split <;> (try split) <;> omega

set_option maxHeartbeats 400000 in
theorem isNaN_any (a : Int) (w : World) :
    Calls Try.prog 114 #[.int .i64 a] w fun e w' => e = .returned (.bool false) ∧ w = w' := by
  go_enter Try.func114, Try.ntmps114
  go_wp2
  go_ret
  exact ⟨rfl, rfl⟩
set_option maxHeartbeats 400000 in
theorem cmp_any (a b : Int) (w : World) :
    Calls Try.prog 102 #[.int .i64 a, .int .i64 b] w fun e w' => e = .returned (.int .i64 (cmpI a b)) ∧ w = w' := by
  rcases Int.lt_trichotomy a b with h | h | h
  · rw [cmpI_lt h]
    go_enter Try.func102, Try.ntmps102
    go_wp2_with (go_at_call 114; (with_reducible refine (isNaN_any _ _).mono ?_); rintro e w' ⟨rfl, rfl⟩)
    go_ret
    exact ⟨rfl, rfl⟩
  · subst h
    rw [cmpI_eq rfl]
    go_enter Try.func102, Try.ntmps102
    go_wp2_with (go_at_call 114; (with_reducible refine (isNaN_any _ _).mono ?_); rintro e w' ⟨rfl, rfl⟩)
    go_ret
    exact ⟨rfl, rfl⟩
  · rw [cmpI_gt h]
    have h2 : ¬ a < b := by omega
    go_enter Try.func102, Try.ntmps102
    go_wp2_with (go_at_call 114; (with_reducible refine (isNaN_any _ _).mono ?_); rintro e w' ⟨rfl, rfl⟩)
    go_ret
    exact ⟨rfl, rfl⟩

def orL : List Int → Int
  | [] => 0
  | x :: xs => if x = 0 then orL xs else x
set_option maxHeartbeats 400000 in
theorem or_any (l : List Int) (A : Option Addr) (c : Nat) (w : World) (hr : RowAt 1 encI w A l) (hlen : l.length ≤ 2097152) :
    Calls Try.prog 101 #[.slice A l.length c] w fun e w' => e = .returned (.int .i64 (orL l)) ∧ w = w' := by
  go_enter Try.func101, Try.ntmps101
  go_wp2_with fail
  go_loop [8] (fun i => ∃ k : Nat, k ≤ l.length ∧ i = .int .i64 k ∧ Hid (orL (l.drop k) = orL l)) (fun i => l.length - (intOf i).toNat)
  case atStart => exact ⟨0, Nat.zero_le _, rfl, rfl⟩
  case round =>
    obtain ⟨k, hk, rfl, HO⟩ := hrel
    by_cases hlt : k < l.length
    · obtain ⟨n, hm⟩ := some_get hlt
      have i0 := ib0 k
      have i1 := ib1 hlt
      obtain ⟨b, off, rfl, hb, q0⟩ := hr.i hm
      have HD := Lib.hid (drop_cons hm)
      clear hr hm
      by_cases hn : n = 0
      · subst hn
        go_wp2
        go_round
        case rel => exact ⟨k + 1, by omega, by go_num, Lib.hid (by rw [← HO.out, HD.out]; rfl)⟩
        case measure => simp [intOf]; omega
      · have hnb : (n != 0) = true := by simpa using hn
        have HF := Lib.hid (show orL l = n by rw [← HO.out, HD.out]; simp [orL, hn])
        clear HO HD
        go_wp2
        go_ret
        exact ⟨ret_int HF.out.symm, rfl⟩
    · obtain rfl : k = l.length := by omega
      have HF := Lib.hid (show orL l = 0 by rw [← HO.out, List.drop_length]; rfl)
      clear hr HO
      go_wp2
      go_ret
      exact ⟨ret_int HF.out.symm, rfl⟩
theorem or2_any (x y : Int) (A : Option Addr) (c : Nat) (w : World) (hr : RowAt 1 encI w A [x, y]) :
    Calls Try.prog 101 #[.slice A 2 c] w fun e w' => e = .returned (.int .i64 (orL [x, y])) ∧ w = w' := or_any [x, y] A c w hr (by simp)
theorem or3_any (x y z : Int) (A : Option Addr) (c : Nat) (w : World) (hr : RowAt 1 encI w A [x, y, z]) :
    Calls Try.prog 101 #[.slice A 3 c] w fun e w' => e = .returned (.int .i64 (orL [x, y, z])) ∧ w = w' := or_any [x, y, z] A c w hr (by simp)
theorem or4_any (x y z u : Int) (A : Option Addr) (c : Nat) (w : World) (hr : RowAt 1 encI w A [x, y, z, u]) :
    Calls Try.prog 101 #[.slice A 4 c] w fun e w' => e = .returned (.int .i64 (orL [x, y, z, u])) ∧ w = w' := or_any [x, y, z, u] A c w hr (by simp)
end Go.Proofs.Ytlinjkfbcekepaa
