/-
  The harness laws' own helpers over pairs and packets: equal lists are found equal.
-/
import Derived.Test.YtifkakpiipoadaaVin
import Derived.Test.YtifkakpiipoadaaPk0
import Derived.Test.YtifkakpiipoadaaP20
import Derived.Test.YtifkakpiipoadaaEq2
namespace Go.Proofs.Ytifkakpiipoadaa
set_option linter.unusedVariables false
set_option linter.unusedSimpArgs false
set_option linter.unnecessarySimpa false
open Go.RowKit
attribute [local go_sem] ext_cell ext_frozen

/-- Two integers in one value: the law below asks less of the values' form than the library's own on '!=' at structs, so it is tried ahead of that. -/
def isP2 (x : Value) : Bool := match x with
  | .agg xs => match xs.toList with
    | [.int .i64 _, .int .i64 _] => true
    | _ => false
  | _ => false
def intsOf (x : Value) : Int × Int := match x with
  | .agg xs => match xs.toList with
    | [.int .i64 a, .int .i64 b] => (a, b)
    | _ => (0, 0)
  | _ => (0, 0)
def eqP2V (x y : Value) : Bool := intsOf x == intsOf y
theorem isP2_mk (a b : Int) : isP2 (.agg #[.int .i64 a, .int .i64 b]) = true := by simp [isP2]
theorem eqP2V_self (a b : Int) : eqP2V (.agg #[.int .i64 a, .int .i64 b]) (.agg #[.int .i64 a, .int .i64 b]) = true := by simp [eqP2V]
theorem isP2_of {x : Value} (h : isP2 x = true) : ∃ a b : Int, x = .agg #[.int .i64 a, .int .i64 b] := by
  unfold isP2 at h
  split at h
  · split at h
    · rename_i xs _ a b hx
      refine ⟨a, b, ?_⟩
      congr 1
      exact Array.toList_inj.1 hx
    · simp at h
  · simp at h
theorem neq2_run {P : Program} (t : TypeId) (x y : Value) (w : World) (hp : P = Try.prog) (ht : t = 55) (hx : isP2 x = true) (hy : isP2 y = true) : (binOp .neq t x y).run P w = .ok (.bool (!eqP2V x y)) w := by
  subst hp ht
  obtain ⟨a, b, rfl⟩ := isP2_of hx
  obtain ⟨c, d, rfl⟩ := isP2_of hy
  rw [run_neq_struct, eq2_in]
  rfl
attribute [local go_sem] neq2_run eq2_guard isP2_mk eqP2V_self

set_option maxHeartbeats 1000000 in
theorem vP2_same (l : List P2) (A A' : Option Addr) (c c' : Nat) (w : World) (hr : RowAt 2 encP2 w A l) (hr' : RowAt 2 encP2 w A' l) (hlen : l.length ≤ 2097152) :
    Calls Try.prog 52 #[.slice A l.length c, .slice A' l.length c'] w fun e w' => e = .returned (.bool true) ∧ Below w.heap.size w w' := by
  go_enter Try.func52, Try.ntmps52
  go_wp2_with fail
  go_loopw [5] (fun i wr => ∃ k : Nat, k ≤ l.length ∧ i = .int .i64 k ∧ Below w.heap.size w wr) (fun i _ => l.length - (intOf i).toNat)
  case atStart => exact ⟨0, Nat.zero_le _, rfl, bref _⟩
  case round =>
    obtain ⟨k, hk, rfl, hbr⟩ := hrel
    by_cases hlt : k < l.length
    · obtain ⟨m, hm⟩ := some_get hlt
      have i0 := ib0 k
      have i1 := ib1 hlt
      obtain ⟨b, off, rfl, hb, q0, q1⟩ := (hr.below hbr).p2 hm
      obtain ⟨b', off', rfl, hb', r0, r1⟩ := (hr'.below hbr).p2 hm
      clear hr hr' hm
      go_wp2_with fail
      (refine wp_region_calm (by kernel_rfl) (by kernel_rfl) ?_; (repeat (go_big_quiet_step ((fail)))); refine wpQuiet_nil ?_; intro xw; have hb1 := xw.is; generalize xw.w = w1 at hb1 ⊢; clear xw)
      go_wp2
      go_roundw
      case rel => exact ⟨k + 1, by omega, by go_num, bstep hbr hb1⟩
      case measure => simp [intOf]; omega
    · obtain rfl : k = l.length := by omega
      clear hr hr'
      go_wp2
      go_ret
      exact ⟨rfl, hbr⟩

set_option maxHeartbeats 1000000 in
theorem vPkS_same (n : Nat) (l l' : List Pk) (A A' : Option Addr) (c c' : Nat) (w : World) (hn : l.length = n) (hp : l'.map Pk.pl = l.map Pk.pl) (hr : PkAt w A l) (hr' : PkAt w A' l') (hlen : tot l ≤ 2097152) :
    Calls Try.prog 57 #[.slice A n c, .slice A' n c'] w fun e w' => e = .returned (.bool true) ∧ Below w.heap.size w w' := by
  subst hn
  have hl : l.length ≤ 2097152 := by unfold tot at hlen; omega
  have HR := Lib.hid hr
  have HR' := Lib.hid hr'
  have HP := Lib.hid hp
  have HT := Lib.hid hlen
  clear hr hr' hp hlen
  go_enter Try.func57, Try.ntmps57
  go_wp2_with fail
  go_loopw [5] (fun i wr => ∃ k : Nat, k ≤ l.length ∧ i = .int .i64 k ∧ Below w.heap.size w wr) (fun i _ => l.length - (intOf i).toNat)
  case atStart => exact ⟨0, Nat.zero_le _, rfl, bref _⟩
  case round =>
    obtain ⟨k, hk, rfl, hbr⟩ := hrel
    by_cases hlt : k < l.length
    · obtain ⟨m, hm⟩ := some_get hlt
      obtain ⟨m', hm', e1, e2⟩ := pl_get HP.out hm
      have i0 := ib0 k
      have i1 := ib1 hlt
      have hms : m.sm.length ≤ 2097152 := by have := totS_mem (List.mem_of_getElem? hm); have := HT.out; unfold tot at this; omega
      obtain ⟨b, off, rfl, hb, q0, q1, qs⟩ := (HR.out.below hbr).pk hm
      obtain ⟨b', off', rfl, hb', r0, r1, rs⟩ := (HR'.out.below hbr).pk hm'
      rw [e1] at r0
      rw [e2] at r1 rs
      have HH := Lib.hid (fun W (h : Below wr.heap.size wr W) => vInts_same m.sm m.A m'.A m.c m'.c W (RowAt.below qs h) (RowAt.below rs h) hms)
      clear hm hm' qs rs e1 e2
      go_wp2_with fail
      (refine wp_region_calm (by kernel_rfl) (by kernel_rfl) ?_; (repeat (go_big_quiet_step (((go_at_call 53; with_reducible exact calm_of (HH.out _ (Ext.is _))))))); refine wpQuiet_nil ?_; intro xw; have hb1 := xw.is; generalize xw.w = w1 at hb1 ⊢; clear xw)
      go_wp2
      go_roundw
      case rel => exact ⟨k + 1, by omega, by go_num, bstep hbr hb1⟩
      case measure => simp [intOf]; omega
    · obtain rfl : k = l.length := by omega
      go_wp2
      go_ret
      exact ⟨rfl, hbr⟩
end Go.Proofs.Ytifkakpiipoadaa
