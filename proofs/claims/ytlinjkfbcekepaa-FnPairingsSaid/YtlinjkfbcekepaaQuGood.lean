/-
  Catalogues: impl's and spec's test answer alike.
-/
import Derived.Test.YtlinjkfbcekepaaQuOne
import Derived.Test.YtlinjkfbcekepaaQuAll
import Derived.Test.YtlinjkfbcekepaaListed
namespace Go.Proofs.Ytlinjkfbcekepaa
set_option linter.unusedVariables false
set_option linter.unusedSimpArgs false
set_option linter.unnecessarySimpa false
open Go.RowKit
attribute [local go_sem] ext_cell ext_frozen

def okQu (l : List Qu) (k : Nat) : Bool :=
  match l[k]? with
  | none => true
  | some d => k == 0 || match l[k - 1]? with | none => true | some p => ltQu p d
def goodQu (l : List Qu) : Bool := (List.range l.length).all (okQu l) && l.all oneQu && decide (l.length ≤ 10)
theorem okQu_zero {l : List Qu} : okQu l 0 = true := by
  unfold okQu
  split <;> simp
theorem okQu_succ {l : List Qu} {k : Nat} {d p : Qu} (hd : l[k + 1]? = some d) (hp : l[k]? = some p) : okQu l (k + 1) = ltQu p d := by
  simp [okQu, hd, hp]
theorem goodQu_no {l : List Qu} {k : Nat} (hk : k < l.length) (h : okQu l k = false) : goodQu l = false := by
  unfold goodQu
  rw [show (List.range l.length).all (okQu l) = false from by
    rw [List.all_eq_false]
    exact ⟨k, by simpa using hk, by simp [h]⟩]
  rfl
theorem goodQu_one' {l : List Qu} {d : Qu} (hd : d ∈ l) (h : oneQu d = false) : goodQu l = false := by
  unfold goodQu
  rw [show l.all oneQu = false from by
    rw [List.all_eq_false]
    exact ⟨d, hd, by simp [h]⟩]
  simp
theorem goodQu_yes {l : List Qu} (h : UpTo (fun i => okQu l i = true) l.length) : goodQu l = (l.all oneQu && decide (l.length ≤ 10)) := by
  unfold goodQu
  rw [show (List.range l.length).all (okQu l) = true from by
    rw [List.all_eq_true]
    intro i hi
    exact h i (by simpa using hi)]
  rfl
theorem goodQu_all {l : List Qu} (h : goodQu l = true) : ∀ m ∈ l, oneQu m = true := by
  unfold goodQu at h
  simp only [Bool.and_eq_true, List.all_eq_true] at h
  exact h.1.2
theorem goodQu_len {l : List Qu} (h : goodQu l = true) : l.length ≤ 10 := by
  unfold goodQu at h
  simp only [Bool.and_eq_true, decide_eq_true_eq] at h
  exact h.2
theorem goodQu_lt {l : List Qu} (h : goodQu l = true) {k : Nat} {d p : Qu} (hd : l[k + 1]? = some d) (hp : l[k]? = some p) : ltQu p d = true := by
  unfold goodQu at h
  simp only [Bool.and_eq_true, List.all_eq_true] at h
  have hk : k + 1 < l.length := (List.getElem?_eq_some_iff.1 hd).1
  rw [← okQu_succ hd hp]
  exact h.1.1 (k + 1) (by simpa using hk)
theorem all_upTo {l : List Qu} (h : UpTo (fun i => ∀ m, l[i]? = some m → oneQu m = true) l.length) : l.all oneQu = true := by
  rw [List.all_eq_true]
  intro m hm
  obtain ⟨i, hi⟩ := List.mem_iff_getElem?.1 hm
  exact h i (List.getElem?_eq_some_iff.1 hi).1 m hi

set_option maxRecDepth 100000 in
set_option maxHeartbeats 2000000 in
theorem sgoodQu_any (l : List Qu) (A : Option Addr) (c : Nat) (w : World) (hr : RowAt 4 encQu w A l) (hlen : l.length ≤ 2097152) :
    Calls Try.prog 70 #[.slice A l.length c] w fun e w' => e = .returned (.bool (goodQu l)) ∧ Below w.heap.size w w' := by
  have HR := Lib.hid hr
  clear hr
  go_enter Try.func70, Try.ntmps70
  go_wp2_with fail
  go_loopw [3] (fun i wr => ∃ k : Nat, k ≤ l.length ∧ i = .int .i64 k ∧ Below w.heap.size w wr ∧ Hid (UpTo (fun i => okQu l i = true) k) ∧ Hid (UpTo (fun i => ∀ m, l[i]? = some m → oneQu m = true) k)) (fun i _ => l.length - (intOf i).toNat)
  case atStart => exact ⟨0, Nat.zero_le _, rfl, bref _, Lib.hid (UpTo.zero _), Lib.hid (UpTo.zero _)⟩
  case round =>
    obtain ⟨k, hk, rfl, hbr, hup, hup1⟩ := hrel
    by_cases hlt : k < l.length
    · obtain ⟨d, hd⟩ := some_get hlt
      have i1 := ib1 hlt
      cases h1 : oneQu d
      · obtain ⟨b, off, rfl, hb, q0, q1, q2, q3⟩ := (HR.out.below hbr).qu hd
        have i0 := ib0 k
        have HF := Lib.hid (goodQu_one' (List.mem_of_getElem? hd) h1)
        have e1 : oneQ d.tk d.x d.y d.sz = false := h1
        clear hd h1
        go_wp2_with fail
        (refine wp_region_calm (by kernel_rfl) (by kernel_rfl) ?_; (repeat (go_big_quiet_step (((go_at_call 58; exact calm_of (l16One_any _ _ _ _ _)))))); refine wpQuiet_nil ?_; intro xw; have hb1 := xw.is; generalize xw.w = w1 at hb1 ⊢; clear xw)
        go_wp2
        go_ret
        exact ⟨ret_bool HF.out.symm, bstep hbr hb1⟩
      · have e1 : oneQ d.tk d.x d.y d.sz = true := h1
        have Hu1 := Lib.hid (hup1.out.succ (fun m hm => by rw [hd] at hm; cases hm; exact h1))
        rcases k with _ | k
        · obtain ⟨b, off, rfl, hb, q0, q1, q2, q3⟩ := (HR.out.below hbr).qu hd
          have Hu := Lib.hid (hup.out.succ okQu_zero)
          simp only [Nat.zero_mul, Nat.add_zero] at q0 q1 q2 q3
          have i0 : 0 < l.length := hlt
          clear hd h1
          go_wp2_with fail
          (refine wp_region_calm (by kernel_rfl) (by kernel_rfl) ?_; (repeat (go_big_quiet_step (((go_at_call 58; exact calm_of (l16One_any _ _ _ _ _)))))); refine wpQuiet_nil ?_; intro xw; have hb1 := xw.is; generalize xw.w = w1 at hb1 ⊢; clear xw)
          go_wp2
          go_roundw
          case rel => exact ⟨1, by omega, rfl, bstep hbr hb1, Hu, Hu1⟩
          case measure => simp [intOf]; omega
        · obtain ⟨p, hp⟩ := some_get (show k < l.length by omega)
          obtain ⟨b, off, rfl, hb, q0, q1, q2, q3, r0, r1, r2, r3⟩ := (HR.out.below hbr).qu2 hd hp
          have i0 := ib0 (k + 1)
          have hs := okQu_succ hd hp
          cases h2 : ltQu p d
          · have HF := Lib.hid (goodQu_no hlt (hs.trans h2))
            clear hd hp h1 hs
            go_wp2_with fail
            (refine wp_region_calm (by kernel_rfl) (by kernel_rfl) ?_; (repeat (go_big_quiet_step ((first | (go_at_call 58; exact calm_of (l16One_any _ _ _ _ _)) | (go_at_call 105; exact calm_of (l16Before_any p d _)))))); refine wpQuiet_nil ?_; intro xw; have hb1 := xw.is; generalize xw.w = w1 at hb1 ⊢; clear xw)
            go_wp2
            go_ret
            exact ⟨ret_bool HF.out.symm, bstep hbr hb1⟩
          · have Hu := Lib.hid (hup.out.succ (P := fun i => okQu l i = true) (hs.trans h2))
            clear hd hp h1 hs
            go_wp2_with fail
            (refine wp_region_calm (by kernel_rfl) (by kernel_rfl) ?_; (repeat (go_big_quiet_step ((first | (go_at_call 58; exact calm_of (l16One_any _ _ _ _ _)) | (go_at_call 105; exact calm_of (l16Before_any p d _)))))); refine wpQuiet_nil ?_; intro xw; have hb1 := xw.is; generalize xw.w = w1 at hb1 ⊢; clear xw)
            go_wp2
            go_roundw
            case rel => exact ⟨k + 2, by omega, by go_num, bstep hbr hb1, Hu, Hu1⟩
            case measure => simp [intOf]; omega
    · obtain rfl : k = l.length := by omega
      have HF := Lib.hid (show goodQu l = decide (l.length ≤ 10) by rw [goodQu_yes hup.out, all_upTo hup1.out, Bool.true_and])
      clear hup hup1
      go_wp2
      go_ret
      exact ⟨ret_bool (by rw [HF.out, decide_eq_decide]; omega), hbr⟩

set_option maxHeartbeats 400000 in
theorem sIsCat_any (l : List Qu) (A : Option Addr) (c : Nat) (w : World) (hr : RowAt 4 encQu w A l) (hlen : l.length ≤ 2097152) :
    Calls Try.prog 23 #[.slice A l.length c] w fun e w' => e = .returned (.bool (goodQu l)) ∧ Below w.heap.size w w' := by
  have HR := Lib.hid hr
  clear hr
  go_enter Try.func23, Try.ntmps23
  go_wp2_with (go_at_call 70; (with_reducible refine (sgoodQu_any l _ _ _ HR.out hlen).mono ?_); rintro e w1 ⟨rfl, hb1⟩)
  go_ret
  exact ⟨rfl, hb1⟩

set_option maxRecDepth 100000 in
set_option maxHeartbeats 2000000 in
theorem iIsCat_any (l : List Qu) (A : Option Addr) (c : Nat) (w : World) (hr : RowAt 4 encQu w A l) (hlen : l.length ≤ 2097152) :
    Calls Try.prog 22 #[.slice A l.length c] w fun e w' => e = .returned (.bool (goodQu l)) ∧ Below w.heap.size w w' := by
  have hmf : ∀ (fn : Fn) (first cap : Array Value) (w : World), (Instr.makeFunc fn first cap).run Try.prog w = .ok (.func fn first cap) w := fun _ _ _ _ => rfl
  have HR := Lib.hid hr
  clear hr
  go_enter Try.func22, Try.ntmps22
  go_wp2_with fail
  go_loopw [3] (fun i wr => ∃ k : Nat, 1 ≤ k ∧ (k ≤ l.length ∨ k = 1) ∧ i = .int .i64 k ∧ Below w.heap.size w wr ∧ Hid (UpTo (fun i => okQu l i = true) k)) (fun i _ => l.length - (intOf i).toNat)
  case atStart => exact ⟨1, Nat.le_refl _, .inr rfl, rfl, bref _, Lib.hid (fun i hi => by obtain rfl : i = 0 := (by omega); exact okQu_zero)⟩
  case round =>
    obtain ⟨k, hk0, hk, rfl, hbr, hup⟩ := hrel
    by_cases hlt : k < l.length
    · obtain ⟨k, rfl⟩ : ∃ j, k = j + 1 := ⟨k - 1, by omega⟩
      obtain ⟨d, hd⟩ := some_get hlt
      have i1 := ib1 hlt
      obtain ⟨p, hp⟩ := some_get (show k < l.length by omega)
      obtain ⟨b, off, rfl, hb, q0, q1, q2, q3, r0, r1, r2, r3⟩ := (HR.out.below hbr).qu2 hd hp
      have i0 := ib0 (k + 1)
      have hs := okQu_succ hd hp
      have hcn := cmpQu_ge p d
      have hcb := cmpQu_bd p d
      cases h2 : ltQu p d
      · have hge : 0 ≤ cmpQu p d := by simpa [h2] using hcn
        have HF := Lib.hid (goodQu_no hlt (hs.trans h2))
        clear hd hp hs h2 hcn hmf
        go_wp2_with fail
        (refine wp_region_calm (by kernel_rfl) (by kernel_rfl) ?_; (repeat (go_big_quiet_step (((go_at_call 68; exact calm_of (compareQu_any p d _)))))); refine wpQuiet_nil ?_; intro xw; have hb1 := xw.is; generalize xw.w = w1 at hb1 ⊢; clear xw)
        go_wp2
        go_ret
        exact ⟨ret_bool HF.out.symm, bstep hbr hb1⟩
      · have hlt0 : cmpQu p d < 0 := by
          rw [h2] at hcn
          simpa using hcn
        have Hu := Lib.hid (hup.out.succ (P := fun i => okQu l i = true) (hs.trans h2))
        clear hd hp hs h2 hcn hmf
        go_wp2_with fail
        (refine wp_region_calm (by kernel_rfl) (by kernel_rfl) ?_; (repeat (go_big_quiet_step (((go_at_call 68; exact calm_of (compareQu_any p d _)))))); refine wpQuiet_nil ?_; intro xw; have hb1 := xw.is; generalize xw.w = w1 at hb1 ⊢; clear xw)
        go_wp2
        go_roundw
        case rel => exact ⟨k + 2, by omega, by omega, by go_num, bstep hbr hb1, Hu⟩
        case measure => simp [intOf]; omega
    · have HF := Lib.hid (show goodQu l = (l.all oneQu && decide (l.length ≤ 10)) from goodQu_yes (fun i hi => hup.out i (by omega)))
      have eg : ∀ (args : Array Value) (w : World), (callFunc 61 args).run Try.prog w = .ok (.enter 61 args) w := enters_of Try.func61 (by kernel_rfl) rfl
      have HP := Lib.hid (allQu_any l A c 61 #[] oneQu eg wr (HR.out.below hbr) hlen (fun w1 _ m _ => isQuake_any m.tk m.x m.y m.sz w1))
      clear eg hup
      by_cases h10 : l.length ≤ 10
      · have hq := h10
        go_wp2_with fail
        refine HP.out.mono ?_; rintro e w1 ⟨rfl, hb1⟩
        go_wp2
        go_ret
        exact ⟨ret_bool (by rw [HF.out]; simp [hq]), bstep hbr hb1⟩
      · have hq := h10
        go_wp2_with fail
        go_ret
        exact ⟨ret_bool (by rw [HF.out]; simp [hq]), hbr⟩
end Go.Proofs.Ytlinjkfbcekepaa
