/-
  The harness laws' own comparison of lists of quakes: equal lists are found equal.
-/
import Derived.Test.YtlinjkfbcekepaaQu0
import Derived.Test.YtlinjkfbcekepaaKit
namespace Go.Proofs.Ytlinjkfbcekepaa
set_option linter.unusedVariables false
set_option linter.unusedSimpArgs false
set_option linter.unnecessarySimpa false
open Go.RowKit
attribute [local go_sem] ext_cell ext_frozen

set_option maxHeartbeats 1000000 in
theorem vQu_same (l : List Qu) (A A' : Option Addr) (c c' : Nat) (w : World) (hr : RowAt 4 encQu w A l) (hr' : RowAt 4 encQu w A' l) (hlen : l.length ≤ 2097152) :
    Calls Try.prog 53 #[.slice A l.length c, .slice A' l.length c'] w fun e w' => e = .returned (.bool true) ∧ Below w.heap.size w w' := by
  go_enter Try.func53, Try.ntmps53
  go_wp2_with fail
  go_loopw [5] (fun i wr => ∃ k : Nat, k ≤ l.length ∧ i = .int .i64 k ∧ Below w.heap.size w wr) (fun i _ => l.length - (intOf i).toNat)
  case atStart => exact ⟨0, Nat.zero_le _, rfl, bref _⟩
  case round =>
    obtain ⟨k, hk, rfl, hbr⟩ := hrel
    by_cases hlt : k < l.length
    · obtain ⟨m, hm⟩ := some_get hlt
      have i0 := ib0 k
      have i1 := ib1 hlt
      obtain ⟨b, off, rfl, hb, q0, q1, q2, q3⟩ := (hr.below hbr).qu hm
      obtain ⟨b', off', rfl, hb', r0, r1, r2, r3⟩ := (hr'.below hbr).qu hm
      clear hr hr' hm
      go_wp2_with fail
      (refine wp_region_calm (by kernel_rfl) (by kernel_rfl) ?_; (repeat (go_big_quiet_step ((fail)))); refine wpQuiet_nil ?_; intro xw; have hb1 := xw.is; generalize xw.w = w1 at hb1 ⊢; clear xw)
      go_wp2
      go_roundw
      case rel => exact ⟨k + 1, by omega, by go_num, bstep hbr hb1⟩
      case measure => simp [intOf]; omega
    · obtain rfl : k = l.length := by omega
      clear hr hr'
      go_wp2
      go_ret
      exact ⟨rfl, hbr⟩
end Go.Proofs.Ytlinjkfbcekepaa
