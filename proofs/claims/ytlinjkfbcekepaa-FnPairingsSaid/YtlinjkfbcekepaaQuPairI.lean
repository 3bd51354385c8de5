/-
  Pairings: impl's test.
-/
import Derived.Test.YtlinjkfbcekepaaQuPair
namespace Go.Proofs.Ytlinjkfbcekepaa
set_option linter.unusedVariables false
set_option linter.unusedSimpArgs false
set_option linter.unnecessarySimpa false
open Go.RowKit
attribute [local go_sem] ext_cell ext_frozen

theorem box2 {w W : World} {T : Nat} {x y : Value} (hb : Below (w.alloc (.cells #[x, y] T)).heap.size (w.alloc (.cells #[x, y] T)) W) : W.cell? ⟨w.heap.size, 0, none⟩ = some x ∧ W.cell? ⟨w.heap.size, 1, none⟩ = some y ∧ w.heap.size < W.heap.size := by
  have hs := hb.size
  simp only [World.size_alloc] at hs
  exact ⟨(hb.cell (p := ⟨w.heap.size, 0, none⟩) (by simp)).trans (by simp [go_sem]), (hb.cell (p := ⟨w.heap.size, 1, none⟩) (by simp)).trans (by simp [go_sem]), by omega⟩
set_option maxRecDepth 100000 in
set_option maxHeartbeats 4000000 in
theorem iPair_any (a b : List Qu) (A B C : Option Addr) (ca cb cc : Nat) (t f : Int) (l : List P2) (w : World) (ha : RowAt 4 encQu w A a) (hb : RowAt 4 encQu w B b) (hl : RowAt 2 encP2 w C l) (hla : a.length ≤ 2097152) (hlb : b.length ≤ 2097152) (hll : l.length ≤ 2097152) :
    Calls Try.prog 24 #[.slice A a.length ca, .slice B b.length cb, .int .i64 t, .int .i64 f, .slice C l.length cc] w fun e w' => e = .returned (.tuple #[.bool (pairR a b t f l).1, .bool (pairR a b t f l).2]) ∧ Below w.heap.size w w' := by
  have HA := Lib.hid ha
  have HB := Lib.hid hb
  have HC := Lib.hid hl
  clear ha hb hl
  cases hg : bothB a b t f
  · have HE := Lib.hid (show pairR a b t f l = (false, false) by simp [pairR, hg])
    go_enter Try.func24, Try.ntmps24
    go_wp2_with (go_at_call 64; (with_reducible refine (iBoth_any a b _ _ _ _ t f _ HA.out HB.out hla hlb).mono ?_); rw [hg]; rintro e w1 ⟨rfl, hb1⟩)
    go_ret2
    exact ⟨ret_bb HE.out, hb1⟩
  · obtain ⟨hga, hgb, hw⟩ := bothB_true hg
    have HE := Lib.hid (show pairR a b t f l = (pairB a b t f l, true) by simp [pairR, hg])
    have HGA := Lib.hid (goodQu_all hga)
    have HGB := Lib.hid (goodQu_all hgb)
    have HW := Lib.hid hw
    have ha10 := goodQu_len hga
    have hb10 := goodQu_len hgb
    clear hga hgb hw
    go_enter Try.func24, Try.ntmps24
    go_wp2_with (go_at_call 64; (with_reducible refine (iBoth_any a b _ _ _ _ t f _ HA.out HB.out hla hlb).mono ?_); rw [hg]; rintro e w1 ⟨rfl, hb1⟩)
    clear hg
    go_loopw [22] (fun i wr => ∃ k : Nat, k ≤ l.length ∧ i = .int .i64 k ∧ Hid (UpTo (fun i => okP a b t f l i = true) k) ∧ Below w.heap.size w wr) (fun i _ => l.length - (intOf i).toNat)
    case atStart => exact ⟨0, Nat.zero_le _, rfl, Lib.hid (UpTo.zero _), hb1⟩
    case round =>
      obtain ⟨k, hk, rfl, HU, hbr⟩ := hrel
      by_cases hlt : k < l.length
      · obtain ⟨p, hp⟩ := some_get hlt
        have i0 := ib0 k
        have i1 := ib1 hlt
        obtain ⟨bc, oc, rfl, hbc, q0, q1⟩ := (HC.out.below hbr).p2 hp
        have HP := Lib.hid hp
        clear hp
        cases hin : inP a b p
        · have HF := Lib.hid (pairB_no hlt (okP_in (t := t) (f := f) HP.out hin))
          cases h1 : inB p.a 0 ((a.length : Int) - 1)
          · clear hin
            go_wp2_with fail
            (refine wp_region_calm (by kernel_rfl) (by kernel_rfl) ?_; (repeat (go_big_quiet_step (((go_at_call 71; exact calm_same (in_any _ _ _ _)))))); refine wpQuiet_nil ?_; intro xw; have hb2 := xw.is; generalize xw.w = w2 at hb2 ⊢; clear xw)
            go_wp2
            go_ret2
            exact ⟨ret_bb (by rw [HE.out, HF.out]), bstep (balloc hbr _) hb2⟩
          · have h2 : inB p.b 0 ((b.length : Int) - 1) = false := by
              unfold inP at hin; rw [h1] at hin; simpa using hin
            clear hin
            go_wp2_with fail
            (refine wp_region_calm (by kernel_rfl) (by kernel_rfl) ?_; (repeat (go_big_quiet_step (((go_at_call 71; exact calm_same (in_any _ _ _ _)))))); refine wpQuiet_nil ?_; intro xw; have hb2 := xw.is; generalize xw.w = w2 at hb2 ⊢; clear xw)
            go_wp2
            go_ret2
            exact ⟨ret_bb (by rw [HE.out, HF.out]), bstep (balloc hbr _) hb2⟩
        · have h1 : inB p.a 0 ((a.length : Int) - 1) = true := by unfold inP at hin; simp only [Bool.and_eq_true] at hin; exact hin.1
          have h2 : inB p.b 0 ((b.length : Int) - 1) = true := by unfold inP at hin; simp only [Bool.and_eq_true] at hin; exact hin.2
          obtain ⟨i, j, q, r, e1, e2, hi, hj, hq, hr, hm⟩ := inP_get hin
          obtain ⟨ba, oa, rfl, hba, u0, u1, u2, u3⟩ := (HA.out.below hbr).qu hq
          obtain ⟨bb, ob, rfl, hbb, v0, v1, v2, v3⟩ := (HB.out.below hbr).qu hr
          have hmt := fun W => match_any q r t f W (HGA.out q (List.mem_of_getElem? hq)) (HGB.out r (List.mem_of_getElem? hr)) HW.out
          rw [← hm t f] at hmt
          have x0 := ib0 i
          have x1 := ib1 hi
          have y0 := ib0 j
          have y1 := ib1 hj
          have HI := Lib.hid hin
          rw [e1] at h1 q0
          rw [e2] at h2 q1
          have E1 := Lib.hid e1
          have E2 := Lib.hid e2
          clear hin hq hr hm e1 e2
          cases hmm : prM a b t f p
          · have HF := Lib.hid (pairB_no hlt (okP_m HP.out hmm))
            rw [hmm] at hmt
            have HM := Lib.hid hmt
            clear hmt hmm
            go_wp2_with fail
            (refine wp_region_calm (by kernel_rfl) (by kernel_rfl) ?_; (repeat (go_big_quiet_step ((first | (go_at_call 71; exact calm_same (in_any _ _ _ _)) | (go_at_call 63; exact calm_of (HM.out _)))))); refine wpQuiet_nil ?_; intro xw; have hb2 := xw.is; generalize xw.w = w2 at hb2 ⊢; clear xw)
            go_wp2
            go_ret2
            exact ⟨ret_bb (by rw [HE.out, HF.out]), bstep (balloc hbr _) hb2⟩
          · rw [hmm] at hmt
            have HM := Lib.hid hmt
            have HMM := Lib.hid hmm
            clear hmt hmm
            rcases k with _ | k
            · have Hu := Lib.hid (HU.out.succ (okP_0 HP.out HI.out HMM.out))
              simp only [Nat.zero_mul, Nat.add_zero] at q0 q1
              go_wp2_with fail
              (refine wp_region_calm (by kernel_rfl) (by kernel_rfl) ?_; (repeat (go_big_quiet_step ((first | (go_at_call 71; exact calm_same (in_any _ _ _ _)) | (go_at_call 63; exact calm_of (HM.out _)))))); refine wpQuiet_nil ?_; intro xw; have hb2 := xw.is; generalize xw.w = w2 at hb2 ⊢; clear xw)
              go_wp2_with fail
              (refine wp_region_calm (by kernel_rfl) (by kernel_rfl) ?_; (repeat (go_big_quiet_step ((fail)))); refine wpQuiet_nil ?_; intro xw; have hb3 := xw.is; generalize xw.w = w3 at hb3 ⊢; clear xw)
              go_wp2
              go_roundw
              case rel => exact ⟨1, by omega, rfl, Hu, bstep (bstep (balloc hbr _) hb2) hb3⟩
              case measure => simp [intOf]; omega
            · obtain ⟨p0, hp0⟩ := some_get (show k < l.length by omega)
              have HP0 := Lib.hid hp0
              have hs := okP_s HP.out hp0 HI.out HMM.out
              have k0 := ib0 k
              have k1 : (k : Int) < (l.length : Int) := by omega
              clear hp0
              by_cases c1 : p0.a < (i : Int)
              · by_cases c2 : p0.b < (j : Int)
                · have Hu := Lib.hid (HU.out.succ (P := fun i => okP a b t f l i = true) (by rw [hs]; simp [upP, E1.out, E2.out, c1, c2]))
                  have c1' : decide ((i : Int) ≤ p0.a) = false := decide_eq_false (by omega)
                  have c2' : decide ((j : Int) ≤ p0.b) = false := decide_eq_false (by omega)
                  clear hs c1 c2
                  go_wp2_with fail
                  (refine wp_region_calm (by kernel_rfl) (by kernel_rfl) ?_; (repeat (go_big_quiet_step ((first | (go_at_call 71; exact calm_same (in_any _ _ _ _)) | (go_at_call 63; exact calm_of (HM.out _)))))); refine wpQuiet_nil ?_; intro xw; have hb2 := xw.is; generalize xw.w = w2 at hb2 ⊢; clear xw)
                  obtain ⟨z0, z1, z2⟩ := box2 hb2
                  obtain ⟨bc', oc', e, hbc3, s0, s1⟩ := (HC.out.below (bstep (balloc hbr _) hb2)).p2 HP0.out
                  cases e
                  go_wp2_with fail
                  (refine wp_region_calm (by kernel_rfl) (by kernel_rfl) ?_; (repeat (go_big_quiet_step ((fail)))); refine wpQuiet_nil ?_; intro xw; have hb3 := xw.is; generalize xw.w = w3 at hb3 ⊢; clear xw)
                  go_wp2
                  go_roundw
                  case rel => exact ⟨k + 2, by omega, by go_num, Hu, bstep (bstep (balloc hbr _) hb2) hb3⟩
                  case measure => simp [intOf]; omega
                · have HF := Lib.hid (pairB_no hlt (by rw [hs]; simp [upP, E1.out, E2.out, c1, c2]))
                  have c1' : decide ((i : Int) ≤ p0.a) = false := decide_eq_false (by omega)
                  have c2' : decide ((j : Int) ≤ p0.b) = true := decide_eq_true (by omega)
                  clear hs c1 c2
                  go_wp2_with fail
                  (refine wp_region_calm (by kernel_rfl) (by kernel_rfl) ?_; (repeat (go_big_quiet_step ((first | (go_at_call 71; exact calm_same (in_any _ _ _ _)) | (go_at_call 63; exact calm_of (HM.out _)))))); refine wpQuiet_nil ?_; intro xw; have hb2 := xw.is; generalize xw.w = w2 at hb2 ⊢; clear xw)
                  obtain ⟨z0, z1, z2⟩ := box2 hb2
                  obtain ⟨bc', oc', e, hbc3, s0, s1⟩ := (HC.out.below (bstep (balloc hbr _) hb2)).p2 HP0.out
                  cases e
                  go_wp2_with fail
                  (refine wp_region_calm (by kernel_rfl) (by kernel_rfl) ?_; (repeat (go_big_quiet_step ((fail)))); refine wpQuiet_nil ?_; intro xw; have hb3 := xw.is; generalize xw.w = w3 at hb3 ⊢; clear xw)
                  go_wp2
                  go_ret2
                  exact ⟨ret_bb (by rw [HE.out, HF.out]), bstep (bstep (balloc hbr _) hb2) hb3⟩
              · have HF := Lib.hid (pairB_no hlt (by rw [hs]; simp [upP, E1.out, E2.out, c1]))
                have c1' : decide ((i : Int) ≤ p0.a) = true := decide_eq_true (by omega)
                clear hs c1
                go_wp2_with fail
                (refine wp_region_calm (by kernel_rfl) (by kernel_rfl) ?_; (repeat (go_big_quiet_step ((first | (go_at_call 71; exact calm_same (in_any _ _ _ _)) | (go_at_call 63; exact calm_of (HM.out _)))))); refine wpQuiet_nil ?_; intro xw; have hb2 := xw.is; generalize xw.w = w2 at hb2 ⊢; clear xw)
                obtain ⟨z0, z1, z2⟩ := box2 hb2
                obtain ⟨bc', oc', e, hbc3, s0, s1⟩ := (HC.out.below (bstep (balloc hbr _) hb2)).p2 HP0.out
                cases e
                go_wp2_with fail
                (refine wp_region_calm (by kernel_rfl) (by kernel_rfl) ?_; (repeat (go_big_quiet_step ((fail)))); refine wpQuiet_nil ?_; intro xw; have hb3 := xw.is; generalize xw.w = w3 at hb3 ⊢; clear xw)
                go_wp2
                go_ret2
                exact ⟨ret_bb (by rw [HE.out, HF.out]), bstep (bstep (balloc hbr _) hb2) hb3⟩
      · obtain rfl : k = l.length := by omega
        have HF := Lib.hid (pairB_yes HU.out)
        clear HU
        go_wp2
        go_ret2
        exact ⟨ret_bb (by rw [HE.out, HF.out]), hbr⟩
end Go.Proofs.Ytlinjkfbcekepaa
