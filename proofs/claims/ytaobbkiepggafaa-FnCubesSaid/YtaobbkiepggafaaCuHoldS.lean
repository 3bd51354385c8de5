/-
  spec.HolderOf: the first cube that has an origin.
-/
import Derived.Test.YtaobbkiepggafaaCuHold
namespace Go.Proofs.Ytaobbkiepggafaa
set_option linter.unusedVariables false
set_option linter.unusedSimpArgs false
set_option linter.unnecessarySimpa false
open Go.RowKit
attribute [local go_sem] ext_cell ext_frozen

set_option maxRecDepth 100000 in
set_option maxHeartbeats 4000000 in
theorem sHold_any (l : List Cu) (o : Og) (A : Option Addr) (c : Nat) (w : World) (hr : RowAt 5 encCu w A l) (hlen : l.length ≤ 2097152) :
    Calls Try.prog 32 #[.slice A l.length c, .agg #[.int .i64 o.x, .int .i64 o.y, .int .i64 o.tk]] w fun e w' => e = .returned (.tuple #[.int .i64 (holR l o).1, .bool (holR l o).2]) ∧ Below w.heap.size w w' := by
  have HB0 := Lib.hid (boxOg w 30 o)
  have HR := Lib.hid (hr.below (balloc (bref w) (.cells #[.int .i64 o.x, .int .i64 o.y, .int .i64 o.tk] 30)))
  have hz0 : w.heap.size < (w.alloc (.cells #[.int .i64 o.x, .int .i64 o.y, .int .i64 o.tk] 30)).heap.size := by simp
  have hBW : Below w.heap.size w (w.alloc (.cells #[.int .i64 o.x, .int .i64 o.y, .int .i64 o.tk] 30)) := balloc (bref w) _
  have HBI := Lib.hid (bref (w.alloc (.cells #[.int .i64 o.x, .int .i64 o.y, .int .i64 o.tk] 30)))
  clear hr
  go_enter Try.func32, Try.ntmps32
  go_wp2_with fail
  generalize (w.alloc (.cells #[.int .i64 o.x, .int .i64 o.y, .int .i64 o.tk] 30)) = W0 at HB0 HR hz0 hBW HBI ⊢
  go_loopw [6] (fun i wr => ∃ k : Nat, k ≤ l.length ∧ i = .int .i64 k ∧ Hid (∀ j, j < k → ∀ x, l[j]? = some x → cubeB x = true) ∧ Hid (Below W0.heap.size W0 wr)) (fun i _ => l.length - (intOf i).toNat)
  case atStart => exact ⟨0, Nat.zero_le _, rfl, Lib.hid (fun j hj => absurd hj (by omega)), HBI⟩
  case round =>
    clear HBI
    obtain ⟨k, hk, rfl, HU, HBr⟩ := hrel
    by_cases hlt : k < l.length
    · obtain ⟨m, hm⟩ := some_get hlt
      have i0 := ib0 k
      have i1 := ib1 hlt
      obtain ⟨b, off, rfl, hb, q0, q1, q2, q3, q4⟩ := (HR.out.below HBr.out).cu hm
      have HM := Lib.hid hm
      clear hm
      cases hc : cubeB m
      · have HE := Lib.hid (holR_bad (l := l) (o := o) (by
          have : l.all cubeB = false := by
            rw [List.all_eq_false]
            exact ⟨m, List.mem_of_getElem? HM.out, by simp [hc]⟩
          simp [holOK, this]))
        go_wp2_with fail
        refine (l12Good_any m _).mono ?_; rw [hc]; rintro e w5 ⟨rfl, hb5⟩
        go_wp2_with fail
        go_ret2
        rw [HE.out]
        exact ⟨rfl, bstep hBW (bstep HBr.out hb5)⟩
      · have HU2 := Lib.hid (show ∀ j, j < k + 1 → ∀ x, l[j]? = some x → cubeB x = true from fun j hj x hx => by
          by_cases e : j = k
          · subst e; rw [HM.out] at hx; cases hx; exact hc
          · exact HU.out j (by omega) x hx)
        go_wp2_with fail
        refine (l12Good_any m _).mono ?_; rw [hc]; rintro e w5 ⟨rfl, hb5⟩
        go_wp2_with fail
        go_roundw
        case rel => exact ⟨k + 1, by omega, by go_num, HU2, Lib.hid (bstep HBr.out hb5)⟩
        case measure => simp [intOf]; omega
    · obtain rfl : k = l.length := by omega
      have HALL := Lib.hid (show ∀ m ∈ l, cubeB m = true from fun m hm => by
        obtain ⟨j, hj⟩ := List.mem_iff_getElem?.1 hm
        exact HU.out j (List.getElem?_eq_some_iff.1 hj).1 m hj)
      have HA := Lib.hid (show l.all cubeB = true from List.all_eq_true.2 HALL.out)
      obtain ⟨d0, d1, d2⟩ := cellOg hz0 HB0.out HBr.out
      cases h2 : origB o
      · have HE := Lib.hid (holR_bad (l := l) (o := o) (by simp [holOK, h2]))
        go_wp2_with fail
        refine (l10Origin_any o _).mono ?_; rw [h2]; rintro e w5 ⟨rfl, hb5⟩
        go_wp2_with fail
        go_ret2
        rw [HE.out]
        exact ⟨rfl, bstep hBW (bstep HBr.out hb5)⟩
      · by_cases h64 : l.length ≤ 64
        · have HOK := Lib.hid (show holOK l o = true by simp [holOK, h64, HA.out, h2])
          have h64i : ¬ (64 : Int) < (l.length : Int) := by omega
          go_wp2_with fail
          refine (l10Origin_any o _).mono ?_; rw [h2]; rintro e w5 ⟨rfl, hb5⟩
          have HB5 := Lib.hid (bstep HBr.out hb5)
          clear d0 d1 d2 hb5 HBr HU h2
          go_wp2_with fail
          go_loopw [7] (fun i wr => ∃ k : Nat, k ≤ l.length ∧ i = .int .i64 k ∧ Hid (∀ j, j < k → ∀ x, l[j]? = some x → holdB x o = false) ∧ Hid (Below W0.heap.size W0 wr)) (fun i _ => l.length - (intOf i).toNat)
          case atStart => exact ⟨0, Nat.zero_le _, rfl, Lib.hid (fun j hj => absurd hj (by omega)), HB5⟩
          case round =>
            clear HB5
            obtain ⟨k, hk, rfl, HU, HBr⟩ := hrel
            by_cases hlt : k < l.length
            · obtain ⟨m, hm⟩ := some_get hlt
              have i0 := ib0 k
              have i1 := ib1 hlt
              obtain ⟨b, off, rfl, hb, q0, q1, q2, q3, q4⟩ := (HR.out.below HBr.out).cu hm
              have HM := Lib.hid hm
              obtain ⟨d0, d1, d2⟩ := cellOg hz0 HB0.out HBr.out
              have hzr := Nat.lt_of_lt_of_le hz0 HBr.out.size
              cases hh : holdB m o
              · have HV := Lib.hid (fun W => by have h := l12In_any m o W (HALL.out m (List.mem_of_getElem? hm)); rw [hh] at h; exact h)
                have HU2 := Lib.hid (show ∀ j, j < k + 1 → ∀ x, l[j]? = some x → holdB x o = false from fun j hj x hx => by
                  by_cases e : j = k
                  · subst e; rw [HM.out] at hx; cases hx; exact hh
                  · exact HU.out j (by omega) x hx)
                clear hm
                go_wp2_with fail
                (refine wp_region_calm (by kernel_rfl) (by kernel_rfl) ?_; (repeat (go_big_quiet_step (((go_at_call 70; with_reducible exact calm_of (HV.out _)))))); refine wpQuiet_nil ?_; intro xw; have hb7 := xw.is; generalize xw.w = w7 at hb7 ⊢; clear xw)
                go_wp2_with fail
                go_roundw
                case rel => exact ⟨k + 1, by omega, by go_num, HU2, Lib.hid (bstep HBr.out hb7)⟩
                case measure => simp [intOf]; omega
              · have HV := Lib.hid (fun W => by have h := l12In_any m o W (HALL.out m (List.mem_of_getElem? hm)); rw [hh] at h; exact h)
                have HE := Lib.hid (holR_hit HOK.out HM.out HU.out hh)
                clear hm
                go_wp2_with fail
                (refine wp_region_calm (by kernel_rfl) (by kernel_rfl) ?_; (repeat (go_big_quiet_step (((go_at_call 70; with_reducible exact calm_of (HV.out _)))))); refine wpQuiet_nil ?_; intro xw; have hb7 := xw.is; generalize xw.w = w7 at hb7 ⊢; clear xw)
                go_wp2_with fail
                go_ret2
                rw [HE.out]
                exact ⟨rfl, bstep hBW (bstep HBr.out hb7)⟩
            · obtain rfl : k = l.length := by omega
              have HE := Lib.hid (holR_none HU.out)
              go_wp2_with fail
              go_ret2
              rw [HE.out]
              exact ⟨rfl, bstep hBW HBr.out⟩
        · have HE := Lib.hid (holR_bad (l := l) (o := o) (by simp [holOK]; omega))
          have h64i : (64 : Int) < (l.length : Int) := by omega
          go_wp2_with fail
          refine (l10Origin_any o _).mono ?_; rw [h2]; rintro e w5 ⟨rfl, hb5⟩
          go_wp2_with fail
          go_ret2
          rw [HE.out]
          exact ⟨rfl, bstep hBW (bstep HBr.out hb5)⟩
end Go.Proofs.Ytaobbkiepggafaa
