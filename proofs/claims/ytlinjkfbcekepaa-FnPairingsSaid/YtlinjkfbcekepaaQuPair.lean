/-
  Pairings: impl's and spec's test answer alike.
-/
import Derived.Test.YtlinjkfbcekepaaQuBoth
import Derived.Test.YtlinjkfbcekepaaP20
import Derived.Test.YtlinjkfbcekepaaKit
namespace Go.Proofs.Ytlinjkfbcekepaa
set_option linter.unusedVariables false
set_option linter.unusedSimpArgs false
set_option linter.unnecessarySimpa false
open Go.RowKit
attribute [local go_sem] ext_cell ext_frozen

def inP (a b : List Qu) (p : P2) : Bool := inB p.a 0 ((a.length : Int) - 1) && inB p.b 0 ((b.length : Int) - 1)
def prM (a b : List Qu) (t f : Int) (p : P2) : Bool :=
  match a[p.a.toNat]?, b[p.b.toNat]? with
  | some q, some r => matchB t f q r
  | _, _ => false
def upP (q p : P2) : Bool := decide (q.a < p.a) && decide (q.b < p.b)
def okP (a b : List Qu) (t f : Int) (l : List P2) (k : Nat) : Bool :=
  match l[k]? with
  | none => true
  | some p => inP a b p && prM a b t f p && (k == 0 || match l[k - 1]? with | none => true | some q => upP q p)
def pairB (a b : List Qu) (t f : Int) (l : List P2) : Bool := (List.range l.length).all (okP a b t f l)
theorem pairB_no {a b : List Qu} {t f : Int} {l : List P2} {k : Nat} (hk : k < l.length) (h : okP a b t f l k = false) : pairB a b t f l = false := by
  unfold pairB
  rw [List.all_eq_false]
  exact ⟨k, by simpa using hk, by simp [h]⟩
theorem pairB_yes {a b : List Qu} {t f : Int} {l : List P2} (h : UpTo (fun i => okP a b t f l i = true) l.length) : pairB a b t f l = true := by
  unfold pairB
  rw [List.all_eq_true]
  intro i hi
  exact h i (by simpa using hi)
def pairR (a b : List Qu) (t f : Int) (l : List P2) : Bool × Bool := if bothB a b t f then (pairB a b t f l, true) else (false, false)
theorem okP_in {a b : List Qu} {t f : Int} {l : List P2} {k : Nat} {p : P2} (hp : l[k]? = some p) (h : inP a b p = false) : okP a b t f l k = false := by simp [okP, hp, h]
theorem okP_m {a b : List Qu} {t f : Int} {l : List P2} {k : Nat} {p : P2} (hp : l[k]? = some p) (h : prM a b t f p = false) : okP a b t f l k = false := by simp [okP, hp, h]
theorem okP_0 {a b : List Qu} {t f : Int} {l : List P2} {p : P2} (hp : l[0]? = some p) (h : inP a b p = true) (h2 : prM a b t f p = true) : okP a b t f l 0 = true := by simp [okP, hp, h, h2]
theorem okP_s {a b : List Qu} {t f : Int} {l : List P2} {k : Nat} {p q : P2} (hp : l[k + 1]? = some p) (hq : l[k]? = some q) (h : inP a b p = true) (h2 : prM a b t f p = true) : okP a b t f l (k + 1) = upP q p := by simp [okP, hp, hq, h, h2]
/-- The two places, where they are in range. -/
theorem inP_get {a b : List Qu} {p : P2} (h : inP a b p = true) : ∃ (i j : Nat) (q r : Qu), p.a = (i : Int) ∧ p.b = (j : Int) ∧ i < a.length ∧ j < b.length ∧ a[i]? = some q ∧ b[j]? = some r ∧ ∀ t f, prM a b t f p = matchB t f q r := by
  unfold inP at h
  rw [Bool.and_eq_true] at h
  have h1 := inB_true h.1
  have h2 := inB_true h.2
  obtain ⟨q, hq⟩ := some_get (l := a) (k := p.a.toNat) (by omega)
  obtain ⟨r, hr⟩ := some_get (l := b) (k := p.b.toNat) (by omega)
  exact ⟨p.a.toNat, p.b.toNat, q, r, by omega, by omega, by omega, by omega, hq, hr, fun t f => by simp [prM, hq, hr]⟩
set_option maxRecDepth 100000 in
set_option maxHeartbeats 4000000 in
theorem sPair_any (a b : List Qu) (A B C : Option Addr) (ca cb cc : Nat) (t f : Int) (l : List P2) (w : World) (ha : RowAt 4 encQu w A a) (hb : RowAt 4 encQu w B b) (hl : RowAt 2 encP2 w C l) (hla : a.length ≤ 2097152) (hlb : b.length ≤ 2097152) (hll : l.length ≤ 2097152) :
    Calls Try.prog 27 #[.slice A a.length ca, .slice B b.length cb, .int .i64 t, .int .i64 f, .slice C l.length cc] w fun e w' => e = .returned (.tuple #[.bool (pairR a b t f l).1, .bool (pairR a b t f l).2]) ∧ Below w.heap.size w w' := by
  have HA := Lib.hid ha
  have HB := Lib.hid hb
  have HC := Lib.hid hl
  clear ha hb hl
  cases hg : bothB a b t f
  · have HE := Lib.hid (show pairR a b t f l = (false, false) by simp [pairR, hg])
    go_enter Try.func27, Try.ntmps27
    go_wp2_with (go_at_call 66; (with_reducible refine (sBoth_any a b _ _ _ _ t f _ HA.out HB.out hla hlb).mono ?_); rw [hg]; rintro e w1 ⟨rfl, hb1⟩)
    go_ret2
    exact ⟨ret_bb HE.out, hb1⟩
  · obtain ⟨hga, hgb, hw⟩ := bothB_true hg
    have HE := Lib.hid (show pairR a b t f l = (pairB a b t f l, true) by simp [pairR, hg])
    have HGA := Lib.hid (goodQu_all hga)
    have HGB := Lib.hid (goodQu_all hgb)
    have HW := Lib.hid hw
    have ha10 := goodQu_len hga
    have hb10 := goodQu_len hgb
    clear hga hgb hw
    go_enter Try.func27, Try.ntmps27
    go_wp2_with (go_at_call 66; (with_reducible refine (sBoth_any a b _ _ _ _ t f _ HA.out HB.out hla hlb).mono ?_); rw [hg]; rintro e w1 ⟨rfl, hb1⟩)
    clear hg
    go_loopw [12] (fun i wr => ∃ k : Nat, k ≤ l.length ∧ i = .int .i64 k ∧ Hid (UpTo (fun i => okP a b t f l i = true) k) ∧ Below w.heap.size w wr) (fun i _ => l.length - (intOf i).toNat)
    case atStart => exact ⟨0, Nat.zero_le _, rfl, Lib.hid (UpTo.zero _), hb1⟩
    case round =>
      obtain ⟨k, hk, rfl, HU, hbr⟩ := hrel
      by_cases hlt : k < l.length
      · obtain ⟨p, hp⟩ := some_get hlt
        have i0 := ib0 k
        have i1 := ib1 hlt
        obtain ⟨bc, oc, rfl, hbc, q0, q1⟩ := (HC.out.below hbr).p2 hp
        have HP := Lib.hid hp
        clear hp
        go_wp2_with fail
        (refine wp_region_calm (by kernel_rfl) (by kernel_rfl) ?_; (repeat (go_big_quiet_step ((fail)))); refine wpQuiet_nil ?_; intro xw; have hb2 := xw.is; generalize xw.w = w2 at hb2 ⊢; clear xw)
        have hbr2 := bstep hbr hb2
        obtain ⟨bc', oc', e, hbc2, q0, q1⟩ := (HC.out.below hbr2).p2 HP.out
        cases e
        cases hin : inP a b p
        · have HF := Lib.hid (pairB_no hlt (okP_in (t := t) (f := f) HP.out hin))
          have HI := Lib.hid hin
          cases h1 : inB p.a 0 ((a.length : Int) - 1)
          · clear hin
            go_wp2_with fail
            (refine wp_region_calm (by kernel_rfl) (by kernel_rfl) ?_; (repeat (go_big_quiet_step (((go_at_call 76; exact calm_same (l1In_any _ _ _ _)))))); refine wpQuiet_nil ?_; intro xw; have hb3 := xw.is; generalize xw.w = w3 at hb3 ⊢; clear xw)
            go_wp2
            go_ret2
            exact ⟨ret_bb (by rw [HE.out, HF.out]), bstep hbr2 hb3⟩
          · have h2 : inB p.b 0 ((b.length : Int) - 1) = false := by
              unfold inP at hin; rw [h1] at hin; simpa using hin
            clear hin
            go_wp2_with fail
            (refine wp_region_calm (by kernel_rfl) (by kernel_rfl) ?_; (repeat (go_big_quiet_step (((go_at_call 76; exact calm_same (l1In_any _ _ _ _)))))); refine wpQuiet_nil ?_; intro xw; have hb3 := xw.is; generalize xw.w = w3 at hb3 ⊢; clear xw)
            go_wp2
            go_ret2
            exact ⟨ret_bb (by rw [HE.out, HF.out]), bstep hbr2 hb3⟩
        · have h1 : inB p.a 0 ((a.length : Int) - 1) = true := by unfold inP at hin; simp only [Bool.and_eq_true] at hin; exact hin.1
          have h2 : inB p.b 0 ((b.length : Int) - 1) = true := by unfold inP at hin; simp only [Bool.and_eq_true] at hin; exact hin.2
          obtain ⟨i, j, q, r, e1, e2, hi, hj, hq, hr, hm⟩ := inP_get hin
          obtain ⟨ba, oa, rfl, hba, u0, u1, u2, u3⟩ := (HA.out.below hbr2).qu hq
          obtain ⟨bb, ob, rfl, hbb, v0, v1, v2, v3⟩ := (HB.out.below hbr2).qu hr
          have hmt := fun W => l16Match_any q r t f W (HGA.out q (List.mem_of_getElem? hq)) (HGB.out r (List.mem_of_getElem? hr)) HW.out
          rw [← hm t f] at hmt
          have x0 := ib0 i
          have x1 := ib1 hi
          have y0 := ib0 j
          have y1 := ib1 hj
          have HI := Lib.hid hin
          rw [e1] at h1 q0
          rw [e2] at h2 q1
          have E1 := Lib.hid e1
          have E2 := Lib.hid e2
          clear hin hq hr hm
          rw [e1, e2]
          clear e1 e2
          cases hmm : prM a b t f p
          · have HF := Lib.hid (pairB_no hlt (okP_m HP.out hmm))
            rw [hmm] at hmt
            have HM := Lib.hid hmt
            clear hmt hmm
            go_wp2_with fail
            (refine wp_region_calm (by kernel_rfl) (by kernel_rfl) ?_; (repeat (go_big_quiet_step ((first | (go_at_call 76; exact calm_same (l1In_any _ _ _ _)) | (go_at_call 60; exact calm_of (HM.out _)))))); refine wpQuiet_nil ?_; intro xw; have hb3 := xw.is; generalize xw.w = w3 at hb3 ⊢; clear xw)
            go_wp2
            go_ret2
            exact ⟨ret_bb (by rw [HE.out, HF.out]), bstep hbr2 hb3⟩
          · rw [hmm] at hmt
            have HM := Lib.hid hmt
            have HMM := Lib.hid hmm
            clear hmt hmm
            rcases k with _ | k
            · have Hu := Lib.hid (HU.out.succ (okP_0 HP.out HI.out HMM.out))
              simp only [Nat.zero_mul, Nat.add_zero] at q0 q1
              go_wp2_with fail
              (refine wp_region_calm (by kernel_rfl) (by kernel_rfl) ?_; (repeat (go_big_quiet_step ((first | (go_at_call 76; exact calm_same (l1In_any _ _ _ _)) | (go_at_call 60; exact calm_of (HM.out _)))))); refine wpQuiet_nil ?_; intro xw; have hb3 := xw.is; generalize xw.w = w3 at hb3 ⊢; clear xw)
              go_wp2
              go_roundw
              case rel => exact ⟨1, by omega, rfl, Hu, bstep hbr2 hb3⟩
              case measure => simp [intOf]; omega
            · obtain ⟨p0, hp0⟩ := some_get (show k < l.length by omega)
              obtain ⟨bc', oc', e, hbc3, s0, s1⟩ := (HC.out.below hbr2).p2 hp0
              cases e
              have hs := okP_s HP.out hp0 HI.out HMM.out
              have k0 := ib0 k
              have k1 : (k : Int) < (l.length : Int) := by omega
              by_cases c1 : p0.a < (i : Int)
              · by_cases c2 : p0.b < (j : Int)
                · have Hu := Lib.hid (HU.out.succ (P := fun i => okP a b t f l i = true) (by rw [hs]; simp [upP, E1.out, E2.out, c1, c2]))
                  have c1' : decide ((i : Int) ≤ p0.a) = false := decide_eq_false (by omega)
                  have c2' : decide ((j : Int) ≤ p0.b) = false := decide_eq_false (by omega)
                  clear hs hp0
                  go_wp2_with fail
                  (refine wp_region_calm (by kernel_rfl) (by kernel_rfl) ?_; (repeat (go_big_quiet_step ((first | (go_at_call 76; exact calm_same (l1In_any _ _ _ _)) | (go_at_call 60; exact calm_of (HM.out _)))))); refine wpQuiet_nil ?_; intro xw; have hb3 := xw.is; generalize xw.w = w3 at hb3 ⊢; clear xw)
                  go_wp2
                  go_roundw
                  case rel => exact ⟨k + 2, by omega, by go_num, Hu, bstep hbr2 hb3⟩
                  case measure => simp [intOf]; omega
                · have HF := Lib.hid (pairB_no hlt (by rw [hs]; simp [upP, E1.out, E2.out, c1, c2]))
                  have c1' : decide ((i : Int) ≤ p0.a) = false := decide_eq_false (by omega)
                  have c2' : decide ((j : Int) ≤ p0.b) = true := decide_eq_true (by omega)
                  clear hs hp0 c2 c1
                  go_wp2_with fail
                  (refine wp_region_calm (by kernel_rfl) (by kernel_rfl) ?_; (repeat (go_big_quiet_step ((first | (go_at_call 76; exact calm_same (l1In_any _ _ _ _)) | (go_at_call 60; exact calm_of (HM.out _)))))); refine wpQuiet_nil ?_; intro xw; have hb3 := xw.is; generalize xw.w = w3 at hb3 ⊢; clear xw)
                  go_wp2
                  go_ret2
                  exact ⟨ret_bb (by rw [HE.out, HF.out]), bstep hbr2 hb3⟩
              · have HF := Lib.hid (pairB_no hlt (by rw [hs]; simp [upP, E1.out, E2.out, c1]))
                have c1' : decide ((i : Int) ≤ p0.a) = true := decide_eq_true (by omega)
                clear hs hp0 c1
                go_wp2_with fail
                (refine wp_region_calm (by kernel_rfl) (by kernel_rfl) ?_; (repeat (go_big_quiet_step ((first | (go_at_call 76; exact calm_same (l1In_any _ _ _ _)) | (go_at_call 60; exact calm_of (HM.out _)))))); refine wpQuiet_nil ?_; intro xw; have hb3 := xw.is; generalize xw.w = w3 at hb3 ⊢; clear xw)
                go_wp2
                go_ret2
                exact ⟨ret_bb (by rw [HE.out, HF.out]), bstep hbr2 hb3⟩
      · obtain rfl : k = l.length := by omega
        have HF := Lib.hid (pairB_yes HU.out)
        clear HU
        go_wp2
        go_ret2
        exact ⟨ret_bb (by rw [HE.out, HF.out]), hbr⟩
end Go.Proofs.Ytlinjkfbcekepaa
