/-
  Lists of Arrivals: spec's and impl's test answer alike.
-/
import Derived.Test.YtaobbkiepggafaaGreatArOne
import Derived.Test.YtaobbkiepggafaaGreatAr0
import Derived.Test.YtaobbkiepggafaaGreatBase
namespace Go.Proofs.YtaobbkiepggafaaGreat
set_option linter.unusedVariables false
set_option linter.unusedSimpArgs false
set_option linter.unnecessarySimpa false
open Go.RowKit
attribute [local go_sem] ext_cell ext_frozen

def goodAr (l : List Ar) : Bool := listed (fun m => oneAr m.id m.x m.y m.tk m.er) Ar.id 8 l

theorem goodAr_one {l : List Ar} {k : Nat} {m : Ar} (h : goodAr l = true) (hm : l[k]? = some m) : oneAr m.id m.x m.y m.tk m.er = true := by
  unfold goodAr at h
  have h2 := listed_one h hm
  exact h2
theorem goodAr_len {l : List Ar} (h : goodAr l = true) : l.length ≤ 8 := by
  unfold goodAr at h
  exact listed_len h
/- _good_one -/
set_option maxHeartbeats 1000000 in
theorem sgoodAr_any (l : List Ar) (A : Option Addr) (c : Nat) (w : World) (hr : RowAt 5 encAr w A l) (hlen : l.length ≤ 2097152) :
    Calls Tryz.prog 79 #[.slice A l.length c] w fun e w' => e = .returned (.bool (goodAr l)) ∧ Below w.heap.size w w' := by
  go_enter Tryz.func79, Tryz.ntmps79
  go_wp2_with fail
  go_loopw [3] (fun i wr => ∃ k : Nat, k ≤ l.length ∧ i = .int .i64 k ∧ Below w.heap.size w wr ∧ UpTo (fun i => okAt (fun m => oneAr m.id m.x m.y m.tk m.er) Ar.id l i = true) k) (fun i _ => l.length - (intOf i).toNat)
  case atStart => exact ⟨0, Nat.zero_le _, rfl, bref _, UpTo.zero _⟩
  case round =>
    obtain ⟨k, hk, rfl, hbr, hup⟩ := hrel
    by_cases hlt : k < l.length
    · obtain ⟨m, hm⟩ := some_get hlt
      have i1 := ib1 hlt
      cases h1 : oneAr m.id m.x m.y m.tk m.er
      · obtain ⟨b, off, rfl, hb, q0, q1, q2, q3, q4⟩ := (hr.below hbr).ar hm
        have i0 := ib0 k
        have HF := Lib.hid (show goodAr l = false from listed_no hm (okAt_bad hm h1))
        clear hr hup hm
        go_wp2_with fail
        (refine wp_region_calm (by kernel_rfl) (by kernel_rfl) ?_; (repeat (go_big_quiet_step (((go_at_call 104; exact calm_of (l10One_any _ _ _ _ _ _)))))); refine wpQuiet_nil ?_; intro xw; have hb1 := xw.is; generalize xw.w = w1 at hb1 ⊢; clear xw)
        go_wp2
        go_ret
        exact ⟨ret_bool HF.out.symm, bstep hbr hb1⟩
      · rcases k with _ | k
        · obtain ⟨b, off, rfl, hb, q0, q1, q2, q3, q4⟩ := (hr.below hbr).ar hm
          have Hu := Lib.hid (hup.succ (okAt_zero (one := (fun m => oneAr m.id m.x m.y m.tk m.er)) (id := Ar.id) hm ▸ h1))
          simp only [Nat.zero_mul, Nat.add_zero] at q0 q1 q2 q3 q4
          have i0 : 0 < l.length := hlt
          clear hr hup hm
          go_wp2_with fail
          (refine wp_region_calm (by kernel_rfl) (by kernel_rfl) ?_; (repeat (go_big_quiet_step (((go_at_call 104; exact calm_of (l10One_any _ _ _ _ _ _)))))); refine wpQuiet_nil ?_; intro xw; have hb1 := xw.is; generalize xw.w = w1 at hb1 ⊢; clear xw)
          go_wp2
          go_roundw
          case rel => exact ⟨1, by omega, rfl, bstep hbr hb1, Hu.out⟩
          case measure => simp [intOf]; omega
        · obtain ⟨p, hp⟩ := some_get (show k < l.length by omega)
          obtain ⟨b, off, rfl, hb, q0, q1, q2, q3, q4, r0, r1, r2, r3, r4⟩ := (hr.below hbr).ar2 hm hp
          have i0 := ib0 (k + 1)
          have hok := okAt_succ (one := (fun m => oneAr m.id m.x m.y m.tk m.er)) (id := Ar.id) hm hp
          by_cases h2 : p.id < m.id
          · have Hu := Lib.hid (hup.succ (P := fun i => okAt (fun m => oneAr m.id m.x m.y m.tk m.er) Ar.id l i = true) (by rw [hok, h1]; simpa using h2))
            clear hr hup hm hp hok
            go_wp2_with fail
            (refine wp_region_calm (by kernel_rfl) (by kernel_rfl) ?_; (repeat (go_big_quiet_step (((go_at_call 104; exact calm_of (l10One_any _ _ _ _ _ _)))))); refine wpQuiet_nil ?_; intro xw; have hb1 := xw.is; generalize xw.w = w1 at hb1 ⊢; clear xw)
            go_wp2
            go_roundw
            case rel => exact ⟨k + 2, by omega, by go_num, bstep hbr hb1, Hu.out⟩
            case measure => simp [intOf]; omega
          · have HF := Lib.hid (show goodAr l = false from listed_no hm (by rw [hok, h1]; simpa using h2))
            clear hr hup hm hp hok
            go_wp2_with fail
            (refine wp_region_calm (by kernel_rfl) (by kernel_rfl) ?_; (repeat (go_big_quiet_step (((go_at_call 104; exact calm_of (l10One_any _ _ _ _ _ _)))))); refine wpQuiet_nil ?_; intro xw; have hb1 := xw.is; generalize xw.w = w1 at hb1 ⊢; clear xw)
            go_wp2
            go_ret
            exact ⟨ret_bool HF.out.symm, bstep hbr hb1⟩
    · obtain rfl : k = l.length := by omega
      have HF := Lib.hid (show goodAr l = _ from listed_yes hup)
      clear hr hup
      go_wp2
      go_ret
      exact ⟨ret_bool (by rw [HF.out, decide_eq_decide]; omega), hbr⟩

set_option maxHeartbeats 1000000 in
theorem listedAr_any (l : List Ar) (A : Option Addr) (c : Nat) (w : World) (hr : RowAt 5 encAr w A l) (hlen : l.length ≤ 2097152) :
    Calls Tryz.prog 82 #[.slice A l.length c, .int .i64 8, .func (.func 83) #[] #[], .func (.func 84) #[] #[]] w fun e w' => e = .returned (.bool (goodAr l)) ∧ Below w.heap.size w w' := by
  go_enter Tryz.func82, Tryz.ntmps82
  go_wp2_with fail
  go_loopw [13] (fun i wr => ∃ k : Nat, k ≤ l.length ∧ i = .int .i64 k ∧ Below w.heap.size w wr ∧ UpTo (fun i => okAt (fun m => oneAr m.id m.x m.y m.tk m.er) Ar.id l i = true) k) (fun i _ => l.length - (intOf i).toNat)
  case atStart => exact ⟨0, Nat.zero_le _, rfl, bref _, UpTo.zero _⟩
  case round =>
    obtain ⟨k, hk, rfl, hbr, hup⟩ := hrel
    by_cases hlt : k < l.length
    · obtain ⟨m, hm⟩ := some_get hlt
      have i1 := ib1 hlt
      cases h1 : oneAr m.id m.x m.y m.tk m.er
      · obtain ⟨b, off, rfl, hb, q0, q1, q2, q3, q4⟩ := (hr.below hbr).ar hm
        have i0 := ib0 k
        have HF := Lib.hid (show goodAr l = false from listed_no hm (okAt_bad hm h1))
        clear hr hup hm
        go_wp2_with fail
        (refine wp_region_calm (by kernel_rfl) (by kernel_rfl) ?_; (repeat (go_big_quiet_step (((go_at_call 83; exact calm_of (isArrival_any _ _ _ _ _ _)))))); refine wpQuiet_nil ?_; intro xw; have hb1 := xw.is; generalize xw.w = w1 at hb1 ⊢; clear xw)
        go_wp2
        go_ret
        exact ⟨ret_bool HF.out.symm, bstep (balloc hbr _) hb1⟩
      · rcases k with _ | k
        · obtain ⟨b, off, rfl, hb, q0, q1, q2, q3, q4⟩ := (hr.below hbr).ar hm
          have Hu := Lib.hid (hup.succ (okAt_zero (one := (fun m => oneAr m.id m.x m.y m.tk m.er)) (id := Ar.id) hm ▸ h1))
          simp only [Nat.zero_mul, Nat.add_zero] at q0 q1 q2 q3 q4
          have i0 : 0 < l.length := hlt
          clear hr hup hm
          go_wp2_with fail
          (refine wp_region_calm (by kernel_rfl) (by kernel_rfl) ?_; (repeat (go_big_quiet_step (((go_at_call 83; exact calm_of (isArrival_any _ _ _ _ _ _)))))); refine wpQuiet_nil ?_; intro xw; have hb1 := xw.is; generalize xw.w = w1 at hb1 ⊢; clear xw)
          go_wp2
          go_roundw
          case rel => exact ⟨1, by omega, rfl, bstep (balloc hbr _) hb1, Hu.out⟩
          case measure => simp [intOf]; omega
        · obtain ⟨p, hp⟩ := some_get (show k < l.length by omega)
          obtain ⟨b, off, rfl, hb, q0, q1, q2, q3, q4, r0, r1, r2, r3, r4⟩ := (hr.below hbr).ar2 hm hp
          have i0 := ib0 (k + 1)
          have hok := okAt_succ (one := (fun m => oneAr m.id m.x m.y m.tk m.er)) (id := Ar.id) hm hp
          by_cases h2 : p.id < m.id
          · have Hu := Lib.hid (hup.succ (P := fun i => okAt (fun m => oneAr m.id m.x m.y m.tk m.er) Ar.id l i = true) (by rw [hok, h1]; simpa using h2))
            clear hr hup hm hp hok
            go_wp2_with fail
            (refine wp_region_calm (by kernel_rfl) (by kernel_rfl) ?_; (repeat (go_big_quiet_step ((first | (go_at_call 83; exact calm_of (isArrival_any _ _ _ _ _ _)) | (go_at_call 84; exact calm_of (idAr_any _ _ _ _ _ _)))))); refine wpQuiet_nil ?_; intro xw; have hb1 := xw.is; generalize xw.w = w1 at hb1 ⊢; clear xw)
            go_wp2
            go_roundw
            case rel => exact ⟨k + 2, by omega, by go_num, bstep (balloc hbr _) hb1, Hu.out⟩
            case measure => simp [intOf]; omega
          · have HF := Lib.hid (show goodAr l = false from listed_no hm (by rw [hok, h1]; simpa using h2))
            clear hr hup hm hp hok
            go_wp2_with fail
            (refine wp_region_calm (by kernel_rfl) (by kernel_rfl) ?_; (repeat (go_big_quiet_step ((first | (go_at_call 83; exact calm_of (isArrival_any _ _ _ _ _ _)) | (go_at_call 84; exact calm_of (idAr_any _ _ _ _ _ _)))))); refine wpQuiet_nil ?_; intro xw; have hb1 := xw.is; generalize xw.w = w1 at hb1 ⊢; clear xw)
            go_wp2
            go_ret
            exact ⟨ret_bool HF.out.symm, bstep (balloc hbr _) hb1⟩
    · obtain rfl : k = l.length := by omega
      have HF := Lib.hid (show goodAr l = _ from listed_yes hup)
      clear hr hup
      go_wp2
      go_ret
      exact ⟨ret_bool (by rw [HF.out, decide_eq_decide]; omega), hbr⟩

set_option maxHeartbeats 400000 in
theorem iAreAr_any (l : List Ar) (A : Option Addr) (c : Nat) (w : World) (hr : RowAt 5 encAr w A l) (hlen : l.length ≤ 2097152) :
    Calls Tryz.prog 51 #[.slice A l.length c] w fun e w' => e = .returned (.bool (goodAr l)) ∧ Below w.heap.size w w' := by
  go_enter Tryz.func51, Tryz.ntmps51
  go_wp2_with (go_at_call 82; (with_reducible refine (listedAr_any _ _ _ _ hr hlen).mono ?_); rintro e w1 ⟨rfl, hb1⟩; obtain ⟨hc_hb1, hf_hb1, hz_hb1⟩ := bcell (B := w.heap.size) (by first | omega | (simp; done) | (simp; omega)) hb1)
  go_ret
  exact ⟨rfl, hb1⟩
end Go.Proofs.YtaobbkiepggafaaGreat
