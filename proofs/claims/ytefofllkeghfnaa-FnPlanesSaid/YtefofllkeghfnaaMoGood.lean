/-
  Lists of Motions: spec's and impl's test answer alike.
-/
import Derived.Test.YtefofllkeghfnaaMoOne
import Derived.Test.YtefofllkeghfnaaMo0
import Derived.Test.YtefofllkeghfnaaListed
namespace Go.Proofs.Ytefofllkeghfnaa
open Go.RowKit
attribute [local go_sem] ext_cell ext_frozen

def goodMo (l : List Mo) : Bool := listed (fun m => oneMo m.st m.x m.y m.sg) Mo.st 12 l

theorem goodMo_one {l : List Mo} {k : Nat} {m : Mo} (h : goodMo l = true) (hm : l[k]? = some m) : oneMo m.st m.x m.y m.sg = true := by
  unfold goodMo at h
  have h2 := listed_one h hm
  exact h2
theorem goodMo_len {l : List Mo} (h : goodMo l = true) : l.length ≤ 12 := by
  unfold goodMo at h
  exact listed_len h
/- _good_one -/
set_option maxHeartbeats 1000000 in
theorem sgoodMo_any (l : List Mo) (A : Option Addr) (c : Nat) (w : World) (hr : RowAt 4 encMo w A l) (hlen : l.length ≤ 2097152) :
    Calls Try.prog 53 #[.slice A l.length c] w fun e w' => e = .returned (.bool (goodMo l)) ∧ Below w.heap.size w w' := by
  go_enter Try.func53, Try.ntmps53
  go_wp2_with fail
  go_loopw [3] (fun i wr => ∃ k : Nat, k ≤ l.length ∧ i = .int .i64 k ∧ Below w.heap.size w wr ∧ UpTo (fun i => okAt (fun m => oneMo m.st m.x m.y m.sg) Mo.st l i = true) k) (fun i _ => l.length - (intOf i).toNat)
  case atStart => exact ⟨0, Nat.zero_le _, rfl, bref _, UpTo.zero _⟩
  case round =>
    obtain ⟨k, hk, rfl, hbr, hup⟩ := hrel
    by_cases hlt : k < l.length
    · obtain ⟨m, hm⟩ := some_get hlt
      have i1 := ib1 hlt
      cases h1 : oneMo m.st m.x m.y m.sg
      · obtain ⟨b, off, rfl, hb, q0, q1, q2, q3⟩ := (hr.below hbr).mo hm
        have i0 := ib0 k
        have HF := Lib.hid (show goodMo l = false from listed_no hm (okAt_bad hm h1))
        clear hr hup hm
        go_wp2_with fail
        (refine wp_region_calm (by kernel_rfl) (by kernel_rfl) ?_; (repeat (go_big_quiet_step (((go_at_call 58; exact calm_of (l13One_any _ _ _ _ _)))))); refine wpQuiet_nil ?_; intro xw; have hb1 := xw.is; generalize xw.w = w1 at hb1 ⊢; clear xw)
        go_wp2
        go_ret
        exact ⟨ret_bool HF.out.symm, bstep hbr hb1⟩
      · rcases k with _ | k
        · obtain ⟨b, off, rfl, hb, q0, q1, q2, q3⟩ := (hr.below hbr).mo hm
          have Hu := Lib.hid (hup.succ (okAt_zero (one := (fun m => oneMo m.st m.x m.y m.sg)) (id := Mo.st) hm ▸ h1))
          simp only [Nat.zero_mul, Nat.add_zero] at q0 q1 q2 q3
          have i0 : 0 < l.length := hlt
          clear hr hup hm
          go_wp2_with fail
          (refine wp_region_calm (by kernel_rfl) (by kernel_rfl) ?_; (repeat (go_big_quiet_step (((go_at_call 58; exact calm_of (l13One_any _ _ _ _ _)))))); refine wpQuiet_nil ?_; intro xw; have hb1 := xw.is; generalize xw.w = w1 at hb1 ⊢; clear xw)
          go_wp2
          go_roundw
          case rel => exact ⟨1, by omega, rfl, bstep hbr hb1, Hu.out⟩
          case measure => simp [intOf]; omega
        · obtain ⟨p, hp⟩ := some_get (show k < l.length by omega)
          obtain ⟨b, off, rfl, hb, q0, q1, q2, q3, r0, r1, r2, r3⟩ := (hr.below hbr).mo2 hm hp
          have i0 := ib0 (k + 1)
          have hok := okAt_succ (one := (fun m => oneMo m.st m.x m.y m.sg)) (id := Mo.st) hm hp
          by_cases h2 : p.st < m.st
          · have Hu := Lib.hid (hup.succ (P := fun i => okAt (fun m => oneMo m.st m.x m.y m.sg) Mo.st l i = true) (by rw [hok, h1]; simpa using h2))
            clear hr hup hm hp hok
            go_wp2_with fail
            (refine wp_region_calm (by kernel_rfl) (by kernel_rfl) ?_; (repeat (go_big_quiet_step (((go_at_call 58; exact calm_of (l13One_any _ _ _ _ _)))))); refine wpQuiet_nil ?_; intro xw; have hb1 := xw.is; generalize xw.w = w1 at hb1 ⊢; clear xw)
            go_wp2
            go_roundw
            case rel => exact ⟨k + 2, by omega, by go_num, bstep hbr hb1, Hu.out⟩
            case measure => simp [intOf]; omega
          · have HF := Lib.hid (show goodMo l = false from listed_no hm (by rw [hok, h1]; simpa using h2))
            clear hr hup hm hp hok
            go_wp2_with fail
            (refine wp_region_calm (by kernel_rfl) (by kernel_rfl) ?_; (repeat (go_big_quiet_step (((go_at_call 58; exact calm_of (l13One_any _ _ _ _ _)))))); refine wpQuiet_nil ?_; intro xw; have hb1 := xw.is; generalize xw.w = w1 at hb1 ⊢; clear xw)
            go_wp2
            go_ret
            exact ⟨ret_bool HF.out.symm, bstep hbr hb1⟩
    · obtain rfl : k = l.length := by omega
      have HF := Lib.hid (show goodMo l = _ from listed_yes hup)
      clear hr hup
      go_wp2
      go_ret
      exact ⟨ret_bool (by rw [HF.out, decide_eq_decide]; omega), hbr⟩

set_option maxHeartbeats 400000 in
theorem sAreMo_any (l : List Mo) (A : Option Addr) (c : Nat) (w : World) (hr : RowAt 4 encMo w A l) (hlen : l.length ≤ 2097152) :
    Calls Try.prog 15 #[.slice A l.length c] w fun e w' => e = .returned (.bool (goodMo l)) ∧ Below w.heap.size w w' := by
  go_enter Try.func15, Try.ntmps15
  go_wp2_with (go_at_call 53; (with_reducible refine (sgoodMo_any _ _ _ _ hr hlen).mono ?_); rintro e w1 ⟨rfl, hb1⟩; obtain ⟨hc_hb1, hf_hb1, hz_hb1⟩ := bcell (B := w.heap.size) (by first | omega | (simp; done) | (simp; omega)) hb1)
  go_ret
  exact ⟨rfl, hb1⟩

set_option maxHeartbeats 1000000 in
theorem listedMo_any (l : List Mo) (A : Option Addr) (c : Nat) (w : World) (hr : RowAt 4 encMo w A l) (hlen : l.length ≤ 2097152) :
    Calls Try.prog 54 #[.slice A l.length c, .int .i64 12, .func (.func 55) #[] #[], .func (.func 56) #[] #[]] w fun e w' => e = .returned (.bool (goodMo l)) ∧ Below w.heap.size w w' := by
  go_enter Try.func54, Try.ntmps54
  go_wp2_with fail
  go_loopw [13] (fun i wr => ∃ k : Nat, k ≤ l.length ∧ i = .int .i64 k ∧ Below w.heap.size w wr ∧ UpTo (fun i => okAt (fun m => oneMo m.st m.x m.y m.sg) Mo.st l i = true) k) (fun i _ => l.length - (intOf i).toNat)
  case atStart => exact ⟨0, Nat.zero_le _, rfl, bref _, UpTo.zero _⟩
  case round =>
    obtain ⟨k, hk, rfl, hbr, hup⟩ := hrel
    by_cases hlt : k < l.length
    · obtain ⟨m, hm⟩ := some_get hlt
      have i1 := ib1 hlt
      cases h1 : oneMo m.st m.x m.y m.sg
      · obtain ⟨b, off, rfl, hb, q0, q1, q2, q3⟩ := (hr.below hbr).mo hm
        have i0 := ib0 k
        have HF := Lib.hid (show goodMo l = false from listed_no hm (okAt_bad hm h1))
        clear hr hup hm
        go_wp2_with fail
        (refine wp_region_calm (by kernel_rfl) (by kernel_rfl) ?_; (repeat (go_big_quiet_step (((go_at_call 55; exact calm_of (isMotion_any _ _ _ _ _)))))); refine wpQuiet_nil ?_; intro xw; have hb1 := xw.is; generalize xw.w = w1 at hb1 ⊢; clear xw)
        go_wp2
        go_ret
        exact ⟨ret_bool HF.out.symm, bstep (balloc hbr _) hb1⟩
      · rcases k with _ | k
        · obtain ⟨b, off, rfl, hb, q0, q1, q2, q3⟩ := (hr.below hbr).mo hm
          have Hu := Lib.hid (hup.succ (okAt_zero (one := (fun m => oneMo m.st m.x m.y m.sg)) (id := Mo.st) hm ▸ h1))
          simp only [Nat.zero_mul, Nat.add_zero] at q0 q1 q2 q3
          have i0 : 0 < l.length := hlt
          clear hr hup hm
          go_wp2_with fail
          (refine wp_region_calm (by kernel_rfl) (by kernel_rfl) ?_; (repeat (go_big_quiet_step (((go_at_call 55; exact calm_of (isMotion_any _ _ _ _ _)))))); refine wpQuiet_nil ?_; intro xw; have hb1 := xw.is; generalize xw.w = w1 at hb1 ⊢; clear xw)
          go_wp2
          go_roundw
          case rel => exact ⟨1, by omega, rfl, bstep (balloc hbr _) hb1, Hu.out⟩
          case measure => simp [intOf]; omega
        · obtain ⟨p, hp⟩ := some_get (show k < l.length by omega)
          obtain ⟨b, off, rfl, hb, q0, q1, q2, q3, r0, r1, r2, r3⟩ := (hr.below hbr).mo2 hm hp
          have i0 := ib0 (k + 1)
          have hok := okAt_succ (one := (fun m => oneMo m.st m.x m.y m.sg)) (id := Mo.st) hm hp
          by_cases h2 : p.st < m.st
          · have Hu := Lib.hid (hup.succ (P := fun i => okAt (fun m => oneMo m.st m.x m.y m.sg) Mo.st l i = true) (by rw [hok, h1]; simpa using h2))
            clear hr hup hm hp hok
            go_wp2_with fail
            (refine wp_region_calm (by kernel_rfl) (by kernel_rfl) ?_; (repeat (go_big_quiet_step ((first | (go_at_call 55; exact calm_of (isMotion_any _ _ _ _ _)) | (go_at_call 56; exact calm_of (idMo_any _ _ _ _ _)))))); refine wpQuiet_nil ?_; intro xw; have hb1 := xw.is; generalize xw.w = w1 at hb1 ⊢; clear xw)
            go_wp2
            go_roundw
            case rel => exact ⟨k + 2, by omega, by go_num, bstep (balloc hbr _) hb1, Hu.out⟩
            case measure => simp [intOf]; omega
          · have HF := Lib.hid (show goodMo l = false from listed_no hm (by rw [hok, h1]; simpa using h2))
            clear hr hup hm hp hok
            go_wp2_with fail
            (refine wp_region_calm (by kernel_rfl) (by kernel_rfl) ?_; (repeat (go_big_quiet_step ((first | (go_at_call 55; exact calm_of (isMotion_any _ _ _ _ _)) | (go_at_call 56; exact calm_of (idMo_any _ _ _ _ _)))))); refine wpQuiet_nil ?_; intro xw; have hb1 := xw.is; generalize xw.w = w1 at hb1 ⊢; clear xw)
            go_wp2
            go_ret
            exact ⟨ret_bool HF.out.symm, bstep (balloc hbr _) hb1⟩
    · obtain rfl : k = l.length := by omega
      have HF := Lib.hid (show goodMo l = _ from listed_yes hup)
      clear hr hup
      go_wp2
      go_ret
      exact ⟨ret_bool (by rw [HF.out, decide_eq_decide]; omega), hbr⟩

set_option maxHeartbeats 400000 in
theorem iAreMo_any (l : List Mo) (A : Option Addr) (c : Nat) (w : World) (hr : RowAt 4 encMo w A l) (hlen : l.length ≤ 2097152) :
    Calls Try.prog 17 #[.slice A l.length c] w fun e w' => e = .returned (.bool (goodMo l)) ∧ Below w.heap.size w w' := by
  go_enter Try.func17, Try.ntmps17
  go_wp2_with (go_at_call 54; (with_reducible refine (listedMo_any _ _ _ _ hr hlen).mono ?_); rintro e w1 ⟨rfl, hb1⟩; obtain ⟨hc_hb1, hf_hb1, hz_hb1⟩ := bcell (B := w.heap.size) (by first | omega | (simp; done) | (simp; omega)) hb1)
  go_ret
  exact ⟨rfl, hb1⟩
end Go.Proofs.Ytefofllkeghfnaa
