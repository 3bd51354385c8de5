/-
  The harness laws' own comparison of tables of ints, and their sum of a list: equal tables are found equal.
-/
import Derived.Test.YtjjinblahmcplaaFeVin
import Derived.Test.YtjjinblahmcplaaSs
import Derived.Test.YtjjinblahmcplaaSum
namespace Go.Proofs.Ytjjinblahmcplaa
open Go.RowKit
attribute [local go_sem] ext_cell ext_frozen

set_option maxHeartbeats 2000000 in
theorem rTable_same (n : Nat) (L L' : List Rw) (A A' : Option Addr) (c c' : Nat) (w : World) (hn : L.length = n) (hp : L'.map Rw.l = L.map Rw.l) (hr : SsAt w A L) (hr' : SsAt w A' L') (hlen : n ≤ 2097152) (htot : totR L ≤ 2097152) :
    Calls Try.prog 56 #[.slice A n c, .slice A' n c'] w fun e w' => e = .returned (.bool true) ∧ Below w.heap.size w w' := by
  subst hn
  have HR := Lib.hid hr
  have HR' := Lib.hid hr'
  have HP := Lib.hid hp
  have HT := Lib.hid htot
  clear hr hr' hp htot
  go_enter Try.func56, Try.ntmps56
  go_wp2_with fail
  go_loopw [5] (fun i wr => ∃ k : Nat, k ≤ L.length ∧ i = .int .i64 k ∧ Below w.heap.size w wr) (fun i _ => L.length - (intOf i).toNat)
  case atStart => exact ⟨0, Nat.zero_le _, rfl, bref _⟩
  case round =>
    obtain ⟨k, hk, rfl, hbr⟩ := hrel
    by_cases hlt : k < L.length
    · obtain ⟨m, hm⟩ := some_get hlt
      obtain ⟨m', hm', e1⟩ := map_get HP.out hm
      have i0 := ib0 k
      have i1 := ib1 hlt
      have hms : m.l.length ≤ 2097152 := by have := totR_mem (List.mem_of_getElem? hm); have := HT.out; omega
      obtain ⟨b, off, rfl, hb, q1, qs⟩ := (HR.out.below hbr).rw_ hm
      obtain ⟨b', off', rfl, hb', r1, rs⟩ := (HR'.out.below hbr).rw_ hm'
      rw [e1] at r1 rs
      have HH := Lib.hid (fun W (h : Below wr.heap.size wr W) => rInts_same m.l m.A m'.A m.c m'.c W (RowAt.below qs h) (RowAt.below rs h) hms)
      clear hm hm' qs rs e1
      go_wp2_with fail
      (refine wp_region_calm (by kernel_rfl) (by kernel_rfl) ?_; (repeat (go_big_quiet_step (((go_at_call 54; with_reducible exact calm_of (HH.out _ (Ext.is _))))))); refine wpQuiet_nil ?_; intro xw; have hb1 := xw.is; generalize xw.w = w1 at hb1 ⊢; clear xw)
      go_wp2
      go_roundw
      case rel => exact ⟨k + 1, by omega, by go_num, bstep hbr hb1⟩
      case measure => simp [intOf]; omega
    · obtain rfl : k = L.length := by omega
      go_wp2
      go_ret
      exact ⟨rfl, hbr⟩
set_option maxHeartbeats 1000000 in
theorem rSum_any (l : List Int) (A : Option Addr) (c : Nat) (w : World) (hr : RowAt 1 encI w A l) (hlen : l.length ≤ 2097152) (hs : ∀ k, k ≤ l.length → -1000000000000 ≤ sumI (l.take k) ∧ sumI (l.take k) ≤ 1000000000000) :
    Calls Try.prog 59 #[.slice A l.length c] w fun e w' => e = .returned (.int .i64 (sumI l)) ∧ Below w.heap.size w w' := by
  have HS := Lib.hid hs
  clear hs
  go_enter Try.func59, Try.ntmps59
  go_wp2_with fail
  go_loopw [3, 4] (fun v i wr => ∃ (k : Nat) (S : Int), k ≤ l.length ∧ i = .int .i64 k ∧ v = .int .i64 S ∧ Hid (S = sumI (l.take k)) ∧ Below w.heap.size w wr) (fun _ i _ => l.length - (intOf i).toNat)
  case atStart => exact ⟨0, 0, Nat.zero_le _, rfl, rfl, rfl, bref _⟩
  case round =>
    obtain ⟨k, S, hk, rfl, rfl, HV, hbr⟩ := hrel
    by_cases hlt : k < l.length
    · obtain ⟨m, hm⟩ := some_get hlt
      have i0 := ib0 k
      have i1 := ib1 hlt
      obtain ⟨b, off, rfl, hb, q0⟩ := (hr.below hbr).i hm
      have HN := Lib.hid (sumI_succ hm)
      have b1 := HS.out k hk
      have b2 := HS.out (k + 1) (by omega)
      rw [HN.out] at b2
      rw [← HV.out] at b1 b2
      clear hr hm
      go_wp2
      go_roundw
      case rel => exact ⟨k + 1, S + m, by omega, by go_num, rfl, Lib.hid (by rw [HN.out, HV.out]), hbr⟩
      case measure => simp [intOf]; omega
    · obtain rfl : k = l.length := by omega
      have HE := Lib.hid (show S = sumI l by rw [HV.out, List.take_length])
      clear hr
      go_wp2
      go_ret
      exact ⟨ret_int HE.out, hbr⟩
end Go.Proofs.Ytjjinblahmcplaa
