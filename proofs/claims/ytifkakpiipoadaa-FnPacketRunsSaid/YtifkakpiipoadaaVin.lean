/-
  The harness laws' own helpers over lists of ints: equal lists are found equal, an element is found, a part is found to be within the whole.
-/
import Derived.Test.YtifkakpiipoadaaInts1
namespace Go.Proofs.Ytifkakpiipoadaa
set_option linter.unusedVariables false
set_option linter.unusedSimpArgs false
set_option linter.unnecessarySimpa false
open Go.RowKit
attribute [local go_sem] ext_cell ext_frozen

set_option maxHeartbeats 1000000 in
theorem vInts_same (l : List Int) (A A' : Option Addr) (c c' : Nat) (w : World) (hr : RowAt 1 encI w A l) (hr' : RowAt 1 encI w A' l) (hlen : l.length ≤ 2097152) :
    Calls Try.prog 53 #[.slice A l.length c, .slice A' l.length c'] w fun e w' => e = .returned (.bool true) ∧ Below w.heap.size w w' := by
  go_enter Try.func53, Try.ntmps53
  go_wp2_with fail
  go_loopw [5] (fun i wr => ∃ k : Nat, k ≤ l.length ∧ i = .int .i64 k ∧ Below w.heap.size w wr) (fun i _ => l.length - (intOf i).toNat)
  case atStart => exact ⟨0, Nat.zero_le _, rfl, bref _⟩
  case round =>
    obtain ⟨k, hk, rfl, hbr⟩ := hrel
    by_cases hlt : k < l.length
    · obtain ⟨m, hm⟩ := some_get hlt
      have i0 := ib0 k
      have i1 := ib1 hlt
      obtain ⟨b, off, rfl, hb, q0⟩ := (hr.below hbr).i hm
      obtain ⟨b', off', rfl, hb', r0⟩ := (hr'.below hbr).i hm
      clear hr hr' hm
      go_wp2_with fail
      (refine wp_region_calm (by kernel_rfl) (by kernel_rfl) ?_; (repeat (go_big_quiet_step ((fail)))); refine wpQuiet_nil ?_; intro xw; have hb1 := xw.is; generalize xw.w = w1 at hb1 ⊢; clear xw)
      go_wp2
      go_roundw
      case rel => exact ⟨k + 1, by omega, by go_num, bstep hbr hb1⟩
      case measure => simp [intOf]; omega
    · obtain rfl : k = l.length := by omega
      clear hr hr'
      go_wp2
      go_ret
      exact ⟨rfl, hbr⟩

set_option maxHeartbeats 1000000 in
theorem vHas_any (l : List Int) (A : Option Addr) (c : Nat) (x : Int) (w : World) (hr : RowAt 1 encI w A l) (hlen : l.length ≤ 2097152) :
    Calls Try.prog 54 #[.slice A l.length c, .int .i64 x] w fun e w' => e = .returned (.bool (decide (x ∈ l))) ∧ w = w' := by
  go_enter Try.func54, Try.ntmps54
  go_wp2_with fail
  go_loop [5] (fun i => ∃ k : Nat, k ≤ l.length ∧ i = .int .i64 k ∧ Hid (x ∉ l.take k)) (fun i => l.length - (intOf i).toNat)
  case atStart => exact ⟨0, Nat.zero_le _, rfl, Lib.hid (by simp)⟩
  case round =>
    obtain ⟨k, hk, rfl, HN⟩ := hrel
    by_cases hlt : k < l.length
    · obtain ⟨m, hm⟩ := some_get hlt
      have i0 := ib0 k
      have i1 := ib1 hlt
      obtain ⟨b, off, rfl, hb, q0⟩ := hr.i hm
      have HM := Lib.hid hm
      clear hr hm
      by_cases hx : m = x
      · have HX := Lib.hid (show x ∈ l from hx ▸ List.mem_of_getElem? HM.out)
        go_wp2
        go_ret
        exact ⟨ret_bool (by simp [HX.out]), rfl⟩
      · have HX := Lib.hid hx
        go_wp2
        go_round
        case rel => exact ⟨k + 1, by omega, by go_num, Lib.hid (by rw [List.take_add_one, HM.out]; simp [HN.out, Ne.symm HX.out])⟩
        case measure => simp [intOf]; omega
    · obtain rfl : k = l.length := by omega
      have HF := Lib.hid (show x ∉ l by have := HN.out; rwa [List.take_length] at this)
      clear hr HN
      go_wp2
      go_ret
      exact ⟨ret_bool (by simp [HF.out]), rfl⟩

set_option maxHeartbeats 1000000 in
theorem vWithin_yes (l m : List Int) (A A' : Option Addr) (c c' : Nat) (w : World) (hr : RowAt 1 encI w A l) (hr' : RowAt 1 encI w A' m) (hlen : l.length ≤ 2097152) (hlen' : m.length ≤ 2097152) (hin : ∀ x ∈ l, x ∈ m) :
    Calls Try.prog 59 #[.slice A l.length c, .slice A' m.length c'] w fun e w' => e = .returned (.bool true) ∧ w = w' := by
  have HR := Lib.hid hr'
  have HI := Lib.hid hin
  clear hr' hin
  go_enter Try.func59, Try.ntmps59
  go_wp2_with fail
  go_loop [5] (fun i => ∃ k : Nat, k ≤ l.length ∧ i = .int .i64 k) (fun i => l.length - (intOf i).toNat)
  case atStart => exact ⟨0, Nat.zero_le _, rfl⟩
  case round =>
    obtain ⟨k, hk, rfl⟩ := hrel
    by_cases hlt : k < l.length
    · obtain ⟨x, hm⟩ := some_get hlt
      have i0 := ib0 k
      have i1 := ib1 hlt
      obtain ⟨b, off, rfl, hb, q0⟩ := hr.i hm
      have HX := Lib.hid (HI.out x (List.mem_of_getElem? hm))
      clear hr hm
      go_wp2_with (go_at_call 54; (with_reducible refine (vHas_any m _ _ x _ HR.out hlen').mono ?_); rintro e w1 ⟨he, rfl⟩; rw [show decide (x ∈ m) = true from decide_eq_true HX.out] at he; subst he)
      go_round
      case rel => exact ⟨k + 1, by omega, by go_num⟩
      case measure => simp [intOf]; omega
    · obtain rfl : k = l.length := by omega
      clear hr
      go_wp2
      go_ret
      exact ⟨rfl, rfl⟩

set_option maxHeartbeats 400000 in
theorem vBig_any (A : Option Addr) (n c : Nat) (w : World) : Calls Try.prog 50 #[.slice A n c] w fun e w' => e = .returned (.bool (decide (65536 < (n : Int)))) ∧ w = w' := by
  go_enter Try.func50, Try.ntmps50
  go_wp2
  go_ret
  exact ⟨rfl, rfl⟩
end Go.Proofs.Ytifkakpiipoadaa
