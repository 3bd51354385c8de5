/-
  Lists of Felts: spec's and impl's test answer alike.
-/
import Derived.Test.YtjjinblahmcplaaFeOne
import Derived.Test.YtjjinblahmcplaaFe0
import Derived.Test.YtjjinblahmcplaaListed
namespace Go.Proofs.Ytjjinblahmcplaa
open Go.RowKit
attribute [local go_sem] ext_cell ext_frozen

def goodFe (l : List Fe) : Bool := listed (fun m => oneFe m.id m.x m.y m.lv m.pp) Fe.id 12 l

theorem goodFe_one {l : List Fe} {k : Nat} {m : Fe} (h : goodFe l = true) (hm : l[k]? = some m) : oneFe m.id m.x m.y m.lv m.pp = true := by
  unfold goodFe at h
  have h2 := listed_one h hm
  exact h2
theorem goodFe_len {l : List Fe} (h : goodFe l = true) : l.length ≤ 12 := by
  unfold goodFe at h
  exact listed_len h
/- _good_one -/
set_option maxHeartbeats 1000000 in
theorem sgoodFe_any (l : List Fe) (A : Option Addr) (c : Nat) (w : World) (hr : RowAt 5 encFe w A l) (hlen : l.length ≤ 2097152) :
    Calls Try.prog 64 #[.slice A l.length c] w fun e w' => e = .returned (.bool (goodFe l)) ∧ Below w.heap.size w w' := by
  go_enter Try.func64, Try.ntmps64
  go_wp2_with fail
  go_loopw [3] (fun i wr => ∃ k : Nat, k ≤ l.length ∧ i = .int .i64 k ∧ Below w.heap.size w wr ∧ UpTo (fun i => okAt (fun m => oneFe m.id m.x m.y m.lv m.pp) Fe.id l i = true) k) (fun i _ => l.length - (intOf i).toNat)
  case atStart => exact ⟨0, Nat.zero_le _, rfl, bref _, UpTo.zero _⟩
  case round =>
    obtain ⟨k, hk, rfl, hbr, hup⟩ := hrel
    by_cases hlt : k < l.length
    · obtain ⟨m, hm⟩ := some_get hlt
      have i1 := ib1 hlt
      cases h1 : oneFe m.id m.x m.y m.lv m.pp
      · obtain ⟨b, off, rfl, hb, q0, q1, q2, q3, q4⟩ := (hr.below hbr).fe hm
        have i0 := ib0 k
        have HF := Lib.hid (show goodFe l = false from listed_no hm (okAt_bad hm h1))
        clear hr hup hm
        go_wp2_with fail
        (refine wp_region_calm (by kernel_rfl) (by kernel_rfl) ?_; (repeat (go_big_quiet_step (((go_at_call 61; exact calm_of (l14One_any _ _ _ _ _ _)))))); refine wpQuiet_nil ?_; intro xw; have hb1 := xw.is; generalize xw.w = w1 at hb1 ⊢; clear xw)
        go_wp2
        go_ret
        exact ⟨ret_bool HF.out.symm, bstep hbr hb1⟩
      · rcases k with _ | k
        · obtain ⟨b, off, rfl, hb, q0, q1, q2, q3, q4⟩ := (hr.below hbr).fe hm
          have Hu := Lib.hid (hup.succ (okAt_zero (one := (fun m => oneFe m.id m.x m.y m.lv m.pp)) (id := Fe.id) hm ▸ h1))
          simp only [Nat.zero_mul, Nat.add_zero] at q0 q1 q2 q3 q4
          have i0 : 0 < l.length := hlt
          clear hr hup hm
          go_wp2_with fail
          (refine wp_region_calm (by kernel_rfl) (by kernel_rfl) ?_; (repeat (go_big_quiet_step (((go_at_call 61; exact calm_of (l14One_any _ _ _ _ _ _)))))); refine wpQuiet_nil ?_; intro xw; have hb1 := xw.is; generalize xw.w = w1 at hb1 ⊢; clear xw)
          go_wp2
          go_roundw
          case rel => exact ⟨1, by omega, rfl, bstep hbr hb1, Hu.out⟩
          case measure => simp [intOf]; omega
        · obtain ⟨p, hp⟩ := some_get (show k < l.length by omega)
          obtain ⟨b, off, rfl, hb, q0, q1, q2, q3, q4, r0, r1, r2, r3, r4⟩ := (hr.below hbr).fe2 hm hp
          have i0 := ib0 (k + 1)
          have hok := okAt_succ (one := (fun m => oneFe m.id m.x m.y m.lv m.pp)) (id := Fe.id) hm hp
          by_cases h2 : p.id < m.id
          · have Hu := Lib.hid (hup.succ (P := fun i => okAt (fun m => oneFe m.id m.x m.y m.lv m.pp) Fe.id l i = true) (by rw [hok, h1]; simpa using h2))
            clear hr hup hm hp hok
            go_wp2_with fail
            (refine wp_region_calm (by kernel_rfl) (by kernel_rfl) ?_; (repeat (go_big_quiet_step (((go_at_call 61; exact calm_of (l14One_any _ _ _ _ _ _)))))); refine wpQuiet_nil ?_; intro xw; have hb1 := xw.is; generalize xw.w = w1 at hb1 ⊢; clear xw)
            go_wp2
            go_roundw
            case rel => exact ⟨k + 2, by omega, by go_num, bstep hbr hb1, Hu.out⟩
            case measure => simp [intOf]; omega
          · have HF := Lib.hid (show goodFe l = false from listed_no hm (by rw [hok, h1]; simpa using h2))
            clear hr hup hm hp hok
            go_wp2_with fail
            (refine wp_region_calm (by kernel_rfl) (by kernel_rfl) ?_; (repeat (go_big_quiet_step (((go_at_call 61; exact calm_of (l14One_any _ _ _ _ _ _)))))); refine wpQuiet_nil ?_; intro xw; have hb1 := xw.is; generalize xw.w = w1 at hb1 ⊢; clear xw)
            go_wp2
            go_ret
            exact ⟨ret_bool HF.out.symm, bstep hbr hb1⟩
    · obtain rfl : k = l.length := by omega
      have HF := Lib.hid (show goodFe l = _ from listed_yes hup)
      clear hr hup
      go_wp2
      go_ret
      exact ⟨ret_bool (by rw [HF.out, decide_eq_decide]; omega), hbr⟩

set_option maxHeartbeats 400000 in
theorem sAreFe_any (l : List Fe) (A : Option Addr) (c : Nat) (w : World) (hr : RowAt 5 encFe w A l) (hlen : l.length ≤ 2097152) :
    Calls Try.prog 19 #[.slice A l.length c] w fun e w' => e = .returned (.bool (goodFe l)) ∧ Below w.heap.size w w' := by
  go_enter Try.func19, Try.ntmps19
  go_wp2_with (go_at_call 64; (with_reducible refine (sgoodFe_any _ _ _ _ hr hlen).mono ?_); rintro e w1 ⟨rfl, hb1⟩; obtain ⟨hc_hb1, hf_hb1, hz_hb1⟩ := bcell (B := w.heap.size) (by first | omega | (simp; done) | (simp; omega)) hb1)
  go_ret
  exact ⟨rfl, hb1⟩

set_option maxHeartbeats 1000000 in
theorem listedFe_any (l : List Fe) (A : Option Addr) (c : Nat) (w : World) (hr : RowAt 5 encFe w A l) (hlen : l.length ≤ 2097152) :
    Calls Try.prog 65 #[.slice A l.length c, .int .i64 12, .func (.func 17) #[] #[], .func (.func 66) #[] #[]] w fun e w' => e = .returned (.bool (goodFe l)) ∧ Below w.heap.size w w' := by
  go_enter Try.func65, Try.ntmps65
  go_wp2_with fail
  go_loopw [13] (fun i wr => ∃ k : Nat, k ≤ l.length ∧ i = .int .i64 k ∧ Below w.heap.size w wr ∧ UpTo (fun i => okAt (fun m => oneFe m.id m.x m.y m.lv m.pp) Fe.id l i = true) k) (fun i _ => l.length - (intOf i).toNat)
  case atStart => exact ⟨0, Nat.zero_le _, rfl, bref _, UpTo.zero _⟩
  case round =>
    obtain ⟨k, hk, rfl, hbr, hup⟩ := hrel
    by_cases hlt : k < l.length
    · obtain ⟨m, hm⟩ := some_get hlt
      have i1 := ib1 hlt
      cases h1 : oneFe m.id m.x m.y m.lv m.pp
      · obtain ⟨b, off, rfl, hb, q0, q1, q2, q3, q4⟩ := (hr.below hbr).fe hm
        have i0 := ib0 k
        have HF := Lib.hid (show goodFe l = false from listed_no hm (okAt_bad hm h1))
        clear hr hup hm
        go_wp2_with fail
        (refine wp_region_calm (by kernel_rfl) (by kernel_rfl) ?_; (repeat (go_big_quiet_step (((go_at_call 17; exact calm_of (isFelt_any _ _ _ _ _ _)))))); refine wpQuiet_nil ?_; intro xw; have hb1 := xw.is; generalize xw.w = w1 at hb1 ⊢; clear xw)
        go_wp2
        go_ret
        exact ⟨ret_bool HF.out.symm, bstep (balloc hbr _) hb1⟩
      · rcases k with _ | k
        · obtain ⟨b, off, rfl, hb, q0, q1, q2, q3, q4⟩ := (hr.below hbr).fe hm
          have Hu := Lib.hid (hup.succ (okAt_zero (one := (fun m => oneFe m.id m.x m.y m.lv m.pp)) (id := Fe.id) hm ▸ h1))
          simp only [Nat.zero_mul, Nat.add_zero] at q0 q1 q2 q3 q4
          have i0 : 0 < l.length := hlt
          clear hr hup hm
          go_wp2_with fail
          (refine wp_region_calm (by kernel_rfl) (by kernel_rfl) ?_; (repeat (go_big_quiet_step (((go_at_call 17; exact calm_of (isFelt_any _ _ _ _ _ _)))))); refine wpQuiet_nil ?_; intro xw; have hb1 := xw.is; generalize xw.w = w1 at hb1 ⊢; clear xw)
          go_wp2
          go_roundw
          case rel => exact ⟨1, by omega, rfl, bstep (balloc hbr _) hb1, Hu.out⟩
          case measure => simp [intOf]; omega
        · obtain ⟨p, hp⟩ := some_get (show k < l.length by omega)
          obtain ⟨b, off, rfl, hb, q0, q1, q2, q3, q4, r0, r1, r2, r3, r4⟩ := (hr.below hbr).fe2 hm hp
          have i0 := ib0 (k + 1)
          have hok := okAt_succ (one := (fun m => oneFe m.id m.x m.y m.lv m.pp)) (id := Fe.id) hm hp
          by_cases h2 : p.id < m.id
          · have Hu := Lib.hid (hup.succ (P := fun i => okAt (fun m => oneFe m.id m.x m.y m.lv m.pp) Fe.id l i = true) (by rw [hok, h1]; simpa using h2))
            clear hr hup hm hp hok
            go_wp2_with fail
            (refine wp_region_calm (by kernel_rfl) (by kernel_rfl) ?_; (repeat (go_big_quiet_step ((first | (go_at_call 17; exact calm_of (isFelt_any _ _ _ _ _ _)) | (go_at_call 66; exact calm_of (idFe_any _ _ _ _ _ _)))))); refine wpQuiet_nil ?_; intro xw; have hb1 := xw.is; generalize xw.w = w1 at hb1 ⊢; clear xw)
            go_wp2
            go_roundw
            case rel => exact ⟨k + 2, by omega, by go_num, bstep (balloc hbr _) hb1, Hu.out⟩
            case measure => simp [intOf]; omega
          · have HF := Lib.hid (show goodFe l = false from listed_no hm (by rw [hok, h1]; simpa using h2))
            clear hr hup hm hp hok
            go_wp2_with fail
            (refine wp_region_calm (by kernel_rfl) (by kernel_rfl) ?_; (repeat (go_big_quiet_step ((first | (go_at_call 17; exact calm_of (isFelt_any _ _ _ _ _ _)) | (go_at_call 66; exact calm_of (idFe_any _ _ _ _ _ _)))))); refine wpQuiet_nil ?_; intro xw; have hb1 := xw.is; generalize xw.w = w1 at hb1 ⊢; clear xw)
            go_wp2
            go_ret
            exact ⟨ret_bool HF.out.symm, bstep (balloc hbr _) hb1⟩
    · obtain rfl : k = l.length := by omega
      have HF := Lib.hid (show goodFe l = _ from listed_yes hup)
      clear hr hup
      go_wp2
      go_ret
      exact ⟨ret_bool (by rw [HF.out, decide_eq_decide]; omega), hbr⟩

set_option maxHeartbeats 400000 in
theorem iAreFe_any (l : List Fe) (A : Option Addr) (c : Nat) (w : World) (hr : RowAt 5 encFe w A l) (hlen : l.length ≤ 2097152) :
    Calls Try.prog 21 #[.slice A l.length c] w fun e w' => e = .returned (.bool (goodFe l)) ∧ Below w.heap.size w w' := by
  go_enter Try.func21, Try.ntmps21
  go_wp2_with (go_at_call 65; (with_reducible refine (listedFe_any _ _ _ _ hr hlen).mono ?_); rintro e w1 ⟨rfl, hb1⟩; obtain ⟨hc_hb1, hf_hb1, hz_hb1⟩ := bcell (B := w.heap.size) (by first | omega | (simp; done) | (simp; omega)) hb1)
  go_ret
  exact ⟨rfl, hb1⟩
end Go.Proofs.Ytjjinblahmcplaa
