/-
  impl.has at ints and at quakes, spec.l1Has.
-/
import Derived.Test.YtlinjkfbcekepaaQuIns
import Derived.Test.YtlinjkfbcekepaaQuAll
import Derived.Test.YtlinjkfbcekepaaInts1
namespace Go.Proofs.Ytlinjkfbcekepaa
set_option linter.unusedVariables false
set_option linter.unusedSimpArgs false
set_option linter.unnecessarySimpa false
open Go.RowKit
attribute [local go_sem] ext_cell ext_frozen eqQ_run eqQ_guard isQ_mk eqQ_mk

def hasB (l : List Int) (x : Int) : Bool := l.any fun y => decide (y = x)
def hasQ (l : List Qu) (q : Qu) : Bool := l.any fun y => eqQ y q
theorem hasQ_iff {l : List Qu} {q : Qu} : hasQ l q = decide (q ∈ l) := by
  unfold hasQ
  rw [Bool.eq_iff_iff, List.any_eq_true, decide_eq_true_eq]
  constructor
  · rintro ⟨y, hy, e⟩
    rw [eqQ_iff] at e
    subst e; exact hy
  · intro h
    exact ⟨q, h, eqQ_iff.2 rfl⟩

set_option maxRecDepth 100000 in
set_option maxHeartbeats 1000000 in
theorem indexI_any (l : List Int) (A : Option Addr) (c : Nat) (x : Int) (w : World) (hr : RowAt 1 encI w A l) (hlen : l.length ≤ 2097152) :
    Calls Try.prog 126 #[.slice A l.length c, .int .i64 x] w fun e w' => e = .returned (.int .i64 (idxL (fun y => decide (y = x)) l 0)) ∧ Below w.heap.size w w' := by
  go_enter Try.func126, Try.ntmps126
  go_wp2_with fail
  go_loopw [8] (fun i wr => ∃ k : Nat, k ≤ l.length ∧ i = .int .i64 k ∧ Hid (idxL (fun y => decide (y = x)) (l.drop k) k = idxL (fun y => decide (y = x)) l 0) ∧ Below w.heap.size w wr) (fun i _ => l.length - (intOf i).toNat)
  case atStart => exact ⟨0, Nat.zero_le _, rfl, rfl, bref _⟩
  case round =>
    obtain ⟨k, hk, rfl, HI, hbr⟩ := hrel
    by_cases hlt : k < l.length
    · obtain ⟨m, hm⟩ := some_get hlt
      have i0 := ib0 k
      have i1 := ib1 hlt
      obtain ⟨b, off, rfl, hb, q0⟩ := (hr.below hbr).i hm
      have HD := Lib.hid (drop_cons hm)
      clear hr hm
      by_cases hpm : m = x
      · have HF := Lib.hid (show idxL (fun y => decide (y = x)) l 0 = k by rw [← HI.out, HD.out]; simp [idxL, hpm])
        subst hpm
        clear HI HD
        go_wp2_with fail
        go_ret
        exact ⟨ret_int HF.out.symm, by first | exact hbr | exact bdrew hbr⟩
      · have HF := Lib.hid (show idxL (fun y => decide (y = x)) (l.drop (k + 1)) (k + 1) = idxL (fun y => decide (y = x)) l 0 by rw [← HI.out, HD.out]; simp [idxL, hpm])
        have hpm' : ¬ x = m := fun e => hpm e.symm
        clear HI HD
        go_wp2_with fail
        go_roundw
        case rel => exact ⟨k + 1, by omega, by go_num, HF, by first | exact hbr | exact bdrew hbr⟩
        case measure => simp [intOf]; omega
    · obtain rfl : k = l.length := by omega
      have HF := Lib.hid (show idxL (fun y => decide (y = x)) l 0 = -1 by rw [← HI.out, List.drop_length]; rfl)
      clear hr HI
      go_wp2
      go_ret
      exact ⟨ret_int HF.out.symm, hbr⟩
set_option maxHeartbeats 400000 in
theorem hasI_any (l : List Int) (A : Option Addr) (c : Nat) (x : Int) (w : World) (hr : RowAt 1 encI w A l) (hlen : l.length ≤ 2097152) :
    Calls Try.prog 88 #[.slice A l.length c, .int .i64 x] w fun e w' => e = .returned (.bool (hasB l x)) ∧ Below w.heap.size w w' := by
  have HR := Lib.hid hr
  clear hr
  go_enter Try.func88, Try.ntmps88
  go_wp2_with fail
  go_at_call 112
  refine Calls.mono (P := Try.prog) (R := fun e w' => e = .returned (.bool (hasB l x)) ∧ Below w.heap.size w w') ?_ ?_
  · go_enter Try.func112, Try.ntmps112
    go_wp2_with (go_at_call 126; (with_reducible refine (indexI_any l _ _ x _ HR.out hlen).mono ?_); rintro e w1 ⟨rfl, hb1⟩)
    go_ret
    exact ⟨ret_bool (idxL_any _ l), hb1⟩
  · rintro e w1 ⟨rfl, hb1⟩
    go_wp2
    go_ret
    exact ⟨rfl, hb1⟩
set_option maxRecDepth 100000 in
set_option maxHeartbeats 1000000 in
theorem indexQ_any (l : List Qu) (A : Option Addr) (c : Nat) (q : Qu) (w : World) (hr : RowAt 4 encQu w A l) (hlen : l.length ≤ 2097152) :
    Calls Try.prog 127 #[.slice A l.length c, .agg #[.int .i64 q.tk, .int .i64 q.x, .int .i64 q.y, .int .i64 q.sz]] w fun e w' => e = .returned (.int .i64 (idxL (fun y => eqQ q y) l 0)) ∧ Below w.heap.size w w' := by
  have HB0 := Lib.hid (box4Z w 26 q)
  go_enter Try.func127, Try.ntmps127
  go_wp2_with fail
  go_loopw [8] (fun i wr => ∃ k : Nat, k ≤ l.length ∧ i = .int .i64 k ∧ Hid (idxL (fun y => eqQ q y) (l.drop k) k = idxL (fun y => eqQ q y) l 0) ∧ Below (w.alloc (.cells #[.int .i64 q.tk, .int .i64 q.x, .int .i64 q.y, .int .i64 q.sz] 26)).heap.size (w.alloc (.cells #[.int .i64 q.tk, .int .i64 q.x, .int .i64 q.y, .int .i64 q.sz] 26)) wr) (fun i _ => l.length - (intOf i).toNat)
  case atStart => exact ⟨0, Nat.zero_le _, rfl, rfl, bref _⟩
  case round =>
    obtain ⟨k, hk, rfl, HI, hbr⟩ := hrel
    have hbw := bstep (balloc (bref w) _) hbr
    have hs := hbr.size
    simp only [World.size_alloc] at hs
    have s1 : w.heap.size < wr.heap.size := by omega
    obtain ⟨x0, x1, x2, x3⟩ := cell4Z (by simp) HB0.out hbr
    by_cases hlt : k < l.length
    · obtain ⟨m, hm⟩ := some_get hlt
      have i0 := ib0 k
      have i1 := ib1 hlt
      obtain ⟨b, off, rfl, hb, q0, q1, q2, q3⟩ := (hr.below hbw).qu hm
      have HD := Lib.hid (drop_cons hm)
      clear hr hm
      cases hpm : eqQ q m
      · have HF := Lib.hid (show idxL (fun y => eqQ q y) (l.drop (k + 1)) (k + 1) = idxL (fun y => eqQ q y) l 0 by rw [← HI.out, HD.out]; simp [idxL, hpm])
        clear HI HD
        go_wp2_with fail
        (refine wp_region_calm (by kernel_rfl) (by kernel_rfl) ?_; (repeat (go_big_quiet_step ((fail)))); refine wpQuiet_nil ?_; intro xw; have hb5 := xw.is; generalize xw.w = w5 at hb5 ⊢; clear xw)
        go_wp2_with fail
        go_roundw
        case rel => exact ⟨k + 1, by omega, by go_num, HF, bstep hbr hb5⟩
        case measure => simp [intOf]; omega
      · have HF := Lib.hid (show idxL (fun y => eqQ q y) l 0 = k by rw [← HI.out, HD.out]; simp [idxL, hpm])
        clear HI HD
        go_wp2_with fail
        (refine wp_region_calm (by kernel_rfl) (by kernel_rfl) ?_; (repeat (go_big_quiet_step ((fail)))); refine wpQuiet_nil ?_; intro xw; have hb5 := xw.is; generalize xw.w = w5 at hb5 ⊢; clear xw)
        go_wp2_with fail
        go_ret
        exact ⟨ret_int HF.out.symm, bstep hbw hb5⟩
    · obtain rfl : k = l.length := by omega
      have HF := Lib.hid (show idxL (fun y => eqQ q y) l 0 = -1 by rw [← HI.out, List.drop_length]; rfl)
      clear hr HI
      go_wp2
      go_ret
      exact ⟨ret_int HF.out.symm, hbw⟩
theorem eqQ_comm (a b : Qu) : eqQ a b = eqQ b a := by
  rw [Bool.eq_iff_iff, eqQ_iff, eqQ_iff]; exact ⟨Eq.symm, Eq.symm⟩
set_option maxHeartbeats 400000 in
theorem containsQ_any (l : List Qu) (A : Option Addr) (c : Nat) (q : Qu) (w : World) (hr : RowAt 4 encQu w A l) (hlen : l.length ≤ 2097152) :
    Calls Try.prog 113 #[.slice A l.length c, .agg #[.int .i64 q.tk, .int .i64 q.x, .int .i64 q.y, .int .i64 q.sz]] w fun e w' => e = .returned (.bool (hasQ l q)) ∧ Below w.heap.size w w' := by
  have HR := Lib.hid hr
  have HE := Lib.hid (show (fun y => eqQ q y) = fun y => eqQ y q by funext y; exact eqQ_comm q y)
  clear hr
  go_enter Try.func113, Try.ntmps113
  go_wp2_with (first | (go_at_call 127; (with_reducible refine (indexQ_any l _ _ q _ HR.out hlen).mono ?_); rw [HE.out]; rintro e w1 ⟨rfl, hb1⟩) | (go_at_call 127; (with_reducible refine (indexQ_any l _ _ q _ (HR.out.below (balloc (bref _) _)) hlen).mono ?_); rw [HE.out]; rintro e w1 ⟨rfl, hb1⟩))
  go_ret
  exact ⟨ret_bool (idxL_any _ l), by first | exact hb1 | exact bstep (balloc (bref _) _) hb1⟩
set_option maxHeartbeats 400000 in
theorem hasQ_any (l : List Qu) (A : Option Addr) (c : Nat) (q : Qu) (w : World) (hr : RowAt 4 encQu w A l) (hlen : l.length ≤ 2097152) :
    Calls Try.prog 89 #[.slice A l.length c, .agg #[.int .i64 q.tk, .int .i64 q.x, .int .i64 q.y, .int .i64 q.sz]] w fun e w' => e = .returned (.bool (hasQ l q)) ∧ Below w.heap.size w w' := by
  have HR := Lib.hid hr
  clear hr
  go_enter Try.func89, Try.ntmps89
  go_wp2_with (first | (go_at_call 113; (with_reducible refine (containsQ_any l _ _ q _ HR.out hlen).mono ?_); rintro e w1 ⟨rfl, hb1⟩) | (go_at_call 113; (with_reducible refine (containsQ_any l _ _ q _ (HR.out.below (balloc (bref _) _)) hlen).mono ?_); rintro e w1 ⟨rfl, hb1⟩))
  go_ret
  exact ⟨rfl, by first | exact hb1 | exact bstep (balloc (bref _) _) hb1⟩
set_option maxRecDepth 100000 in
set_option maxHeartbeats 1000000 in
theorem l1Has_any (l : List Int) (A : Option Addr) (c : Nat) (x : Int) (w : World) (hr : RowAt 1 encI w A l) (hlen : l.length ≤ 2097152) :
    Calls Try.prog 87 #[.slice A l.length c, .int .i64 x] w fun e w' => e = .returned (.bool (hasB l x)) ∧ Below w.heap.size w w' := by
  go_enter Try.func87, Try.ntmps87
  go_wp2_with fail
  go_loopw [5] (fun i wr => ∃ k : Nat, k ≤ l.length ∧ i = .int .i64 k ∧ Hid ((l.drop k).any (fun y => decide (y = x)) = hasB l x) ∧ Below w.heap.size w wr) (fun i _ => l.length - (intOf i).toNat)
  case atStart => exact ⟨0, Nat.zero_le _, rfl, rfl, bref _⟩
  case round =>
    obtain ⟨k, hk, rfl, HI, hbr⟩ := hrel
    by_cases hlt : k < l.length
    · obtain ⟨m, hm⟩ := some_get hlt
      have i0 := ib0 k
      have i1 := ib1 hlt
      obtain ⟨b, off, rfl, hb, q0⟩ := (hr.below hbr).i hm
      have HD := Lib.hid (drop_cons hm)
      clear hr hm
      by_cases hpm : m = x
      · have HF := Lib.hid (show hasB l x = true by rw [← HI.out, HD.out]; simp [hpm])
        subst hpm
        clear HI HD
        go_wp2_with fail
        go_ret
        exact ⟨ret_bool HF.out.symm, by first | exact hbr | exact bdrew hbr⟩
      · have HF := Lib.hid (show (l.drop (k + 1)).any (fun y => decide (y = x)) = hasB l x by rw [← HI.out, HD.out]; simp [hpm])
        clear HI HD
        go_wp2_with fail
        go_roundw
        case rel => exact ⟨k + 1, by omega, by go_num, HF, by first | exact hbr | exact bdrew hbr⟩
        case measure => simp [intOf]; omega
    · obtain rfl : k = l.length := by omega
      have HF := Lib.hid (show hasB l x = false by rw [← HI.out, List.drop_length]; rfl)
      clear hr HI
      go_wp2
      go_ret
      exact ⟨ret_bool HF.out.symm, hbr⟩
end Go.Proofs.Ytlinjkfbcekepaa
