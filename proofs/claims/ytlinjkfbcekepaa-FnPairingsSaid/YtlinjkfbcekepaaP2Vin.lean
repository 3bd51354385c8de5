/-
  The harness laws' own comparison of lists of pairs: equal lists are found equal.
-/
import Derived.Test.YtlinjkfbcekepaaKit
import Derived.Test.YtlinjkfbcekepaaP20
import Derived.Test.YtlinjkfbcekepaaEq2
namespace Go.Proofs.Ytlinjkfbcekepaa
open Go.RowKit
attribute [local go_sem] ext_cell ext_frozen

theorem neq2_self (a b : Int) (w : World) : (binOp .neq 66 (.agg #[.int .i64 a, .int .i64 b]) (.agg #[.int .i64 a, .int .i64 b])).run Try.prog w = .ok (.bool false) w := by
  rw [run_neq_struct, eq2_in]; simp
attribute [-go_sem] run_neq_struct
attribute [local go_sem] neq2_self eq2_guard

set_option maxHeartbeats 1000000 in
theorem vP2_same (l : List P2) (A A' : Option Addr) (c c' : Nat) (w : World) (hr : RowAt 2 encP2 w A l) (hr' : RowAt 2 encP2 w A' l) (hlen : l.length ≤ 2097152) :
    Calls Try.prog 21 #[.slice A l.length c, .slice A' l.length c'] w fun e w' => e = .returned (.bool true) ∧ Below w.heap.size w w' := by
  go_enter Try.func21, Try.ntmps21
  go_wp2_with fail
  go_loopw [5] (fun i wr => ∃ k : Nat, k ≤ l.length ∧ i = .int .i64 k ∧ Below w.heap.size w wr) (fun i _ => l.length - (intOf i).toNat)
  case atStart => exact ⟨0, Nat.zero_le _, rfl, bref _⟩
  case round =>
    obtain ⟨k, hk, rfl, hbr⟩ := hrel
    by_cases hlt : k < l.length
    · obtain ⟨m, hm⟩ := some_get hlt
      have i0 := ib0 k
      have i1 := ib1 hlt
      obtain ⟨b, off, rfl, hb, q0, q1⟩ := (hr.below hbr).p2 hm
      obtain ⟨b', off', rfl, hb', r0, r1⟩ := (hr'.below hbr).p2 hm
      clear hr hr' hm
      go_wp2_with fail
      (refine wp_region_calm (by kernel_rfl) (by kernel_rfl) ?_; (repeat (go_big_quiet_step ((fail)))); refine wpQuiet_nil ?_; intro xw; have hb1 := xw.is; generalize xw.w = w1 at hb1 ⊢; clear xw)
      go_wp2
      go_roundw
      case rel => exact ⟨k + 1, by omega, by go_num, bstep hbr hb1⟩
      case measure => simp [intOf]; omega
    · obtain rfl : k = l.length := by omega
      clear hr hr'
      go_wp2
      go_ret
      exact ⟨rfl, hbr⟩
end Go.Proofs.Ytlinjkfbcekepaa
