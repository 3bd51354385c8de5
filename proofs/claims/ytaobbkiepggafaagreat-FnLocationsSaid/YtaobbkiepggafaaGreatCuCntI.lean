/-
  The number of places of a cube with a consistent origin: impl.ConsistentIn.
-/
import Derived.Test.YtaobbkiepggafaaGreatCuCnt
namespace Go.Proofs.YtaobbkiepggafaaGreat
set_option linter.unusedVariables false
set_option linter.unusedSimpArgs false
set_option linter.unnecessarySimpa false
open Go.RowKit
attribute [local go_sem] ext_cell ext_frozen

set_option maxRecDepth 100000 in
set_option maxHeartbeats 8000000 in
theorem iCnt_any (l : List Ar) (m : Cu) (A : Option Addr) (c : Nat) (w : World) (hr : RowAt 5 encAr w A l) (hlen : l.length ≤ 2097152) :
    Calls Tryz.prog 19 #[.slice A l.length c, .agg #[.int .i64 m.ws, .int .i64 m.so, .int .i64 m.sd, .int .i64 m.fr, .int .i64 m.to_]] w fun e w' => e = .returned (.tuple #[.int .i64 (cntR l m).1, .bool (cntR l m).2]) ∧ Below w.heap.size w w' := by
  have HR := Lib.hid hr
  have HB0 := Lib.hid (boxCu w 26 m)
  clear hr
  cases h1 : locB l
  · have HF := Lib.hid (show cntR l m = (0, false) by simp [cntR, h1])
    go_enter Tryz.func19, Tryz.ntmps19
    go_wp2_with (go_at_call 27; (with_reducible refine (iLoc_any l _ _ _ (HR.out.below (balloc (bref _) _)) hlen).mono ?_); rw [h1]; rintro e w1 ⟨rfl, hb1⟩; obtain ⟨c0, c1, c2, c3, c4⟩ := cellCu (by simp) HB0.out hb1)
    go_ret2
    exact ⟨ret_ib HF.out, bstep (balloc (bref _) _) hb1⟩
  cases h2 : cubeB m
  · have HF := Lib.hid (show cntR l m = (0, false) by simp [cntR, h2])
    go_enter Tryz.func19, Tryz.ntmps19
    go_wp2_with (first | (go_at_call 27; (with_reducible refine (iLoc_any l _ _ _ (HR.out.below (balloc (bref _) _)) hlen).mono ?_); rw [h1]; rintro e w1 ⟨rfl, hb1⟩; obtain ⟨c0, c1, c2, c3, c4⟩ := cellCu (by simp) HB0.out hb1) | (go_at_call 9; (with_reducible refine (isCube_any m _).mono ?_); rw [h2]; rintro e w2 ⟨rfl, hb2⟩))
    go_ret2
    exact ⟨ret_ib HF.out, bstep (bstep (balloc (bref _) _) hb1) hb2⟩
  obtain ⟨bs, bw, bo, _, _⟩ := cubeB_bounds h2
  by_cases h3 : m.sd ≤ 16
  case neg =>
    have HF := Lib.hid (show cntR l m = (0, false) by simp [cntR, h3])
    go_enter Tryz.func19, Tryz.ntmps19
    go_wp2_with (first | (go_at_call 27; (with_reducible refine (iLoc_any l _ _ _ (HR.out.below (balloc (bref _) _)) hlen).mono ?_); rw [h1]; rintro e w1 ⟨rfl, hb1⟩; obtain ⟨c0, c1, c2, c3, c4⟩ := cellCu (by simp) HB0.out hb1) | (go_at_call 9; (with_reducible refine (isCube_any m _).mono ?_); rw [h2]; rintro e w2 ⟨rfl, hb2⟩; obtain ⟨c0, c1, c2, c3, c4⟩ := cellCu (by simp) HB0.out (bstep hb1 hb2)))
    go_ret2
    exact ⟨ret_ib HF.out, bstep (bstep (balloc (bref _) _) hb1) hb2⟩
  case pos =>
    have HF := Lib.hid (show cntR l m = (cntC l m m.sd.toNat, true) by simp [cntR, h1, h2, h3])
    have HG := Lib.hid (goodAr_all (l := l) (by unfold locB at h1; rw [Bool.and_eq_true] at h1; exact h1.1))
    obtain ⟨n, hn⟩ : ∃ n : Nat, n = m.sd.toNat := ⟨_, rfl⟩
    have hnI : (n : Int) = m.sd := by omega
    have HC := Lib.hid (fun i => cntC_bd l m (by omega) i)
    rw [← hn] at HF
    go_enter Tryz.func19, Tryz.ntmps19
    go_wp2_with (first | (go_at_call 27; (with_reducible refine (iLoc_any l _ _ _ (HR.out.below (balloc (bref _) _)) hlen).mono ?_); rw [h1]; rintro e w1 ⟨rfl, hb1⟩; obtain ⟨c0, c1, c2, c3, c4⟩ := cellCu (by simp) HB0.out hb1) | (go_at_call 9; (with_reducible refine (isCube_any m _).mono ?_); rw [h2]; rintro e w2 ⟨rfl, hb2⟩; obtain ⟨c0, c1, c2, c3, c4⟩ := cellCu (by simp) HB0.out (bstep hb1 hb2)))
    have hb12 := bstep hb1 hb2
    go_loopw [6, 7] (fun cv xv wr => ∃ i : Nat, i ≤ n ∧ xv = .int .i64 (m.ws + (i : Int)) ∧ cv = .int .i64 (cntC l m i) ∧ Below (w.alloc (.cells #[.int .i64 m.ws, .int .i64 m.so, .int .i64 m.sd, .int .i64 m.fr, .int .i64 m.to_] 26)).heap.size (w.alloc (.cells #[.int .i64 m.ws, .int .i64 m.so, .int .i64 m.sd, .int .i64 m.fr, .int .i64 m.to_] 26)) wr) (fun _ xv _ => (m.ws + m.sd - intOf xv).toNat)
    case atStart => exact ⟨0, Nat.zero_le _, by simp, rfl, hb12⟩
    case round =>
      obtain ⟨i, hi, rfl, rfl, hbr⟩ := hrel
      obtain ⟨c0, c1, c2, c3, c4⟩ := cellCu (by simp) HB0.out hbr
      have hbc := HC.out i
      have hbw := bstep (balloc (bref w) _) hbr
      by_cases g1 : i < n
      · have hx : 0 ≤ m.ws + (i : Int) ∧ m.ws + (i : Int) ≤ 1014 := by omega
        have gx : m.ws + (i : Int) < m.ws + m.sd := by omega
        have HN := Lib.hid (show cntC l m (i + 1) = cntC l m i + rowC l m (m.ws + (i : Int)) n by rw [hn]; rfl)
        have HRB := Lib.hid (fun j => rowC_bd l m (m.ws + (i : Int)) j)
        generalize cntC l m i = C at hbc HN ⊢
        obtain ⟨wo, rfl⟩ : ∃ wo : World, wo = wr := ⟨_, rfl⟩
        go_wp2_with fail
        clear c0 c1 c2 c3 c4
        go_loopw [6, 8] (fun cv yv wi => ∃ j : Nat, j ≤ n ∧ yv = .int .i64 (m.so + (j : Int)) ∧ cv = .int .i64 (C + rowC l m (m.ws + (i : Int)) j) ∧ Below (w.alloc (.cells #[.int .i64 m.ws, .int .i64 m.so, .int .i64 m.sd, .int .i64 m.fr, .int .i64 m.to_] 26)).heap.size (w.alloc (.cells #[.int .i64 m.ws, .int .i64 m.so, .int .i64 m.sd, .int .i64 m.fr, .int .i64 m.to_] 26)) wi) (fun _ yv _ => (m.so + m.sd - intOf yv).toNat)
        case atStart => exact ⟨0, Nat.zero_le _, by simp, by simp [rowC], hbr⟩
        case round =>
          clear hbr hbw
          obtain ⟨j, hj, rfl, rfl, hbr⟩ := hrel
          obtain ⟨c0, c1, c2, c3, c4⟩ := cellCu (by simp) HB0.out hbr
          have hrb := HRB.out j
          have hbw := bstep (balloc (bref w) _) hbr
          have hz := hbr.size
          simp only [World.size_alloc] at hz
          have hz1 : w.heap.size < wr.heap.size := by omega
          by_cases g3 : j < n
          · have hy : 0 ≤ m.so + (j : Int) ∧ m.so + (j : Int) ≤ 1014 := by omega
            have gy : m.so + (j : Int) < m.so + m.sd := by omega
            have HN2 := Lib.hid (show rowC l m (m.ws + (i : Int)) (j + 1) = rowC l m (m.ws + (i : Int)) j + (if okC l m (m.ws + (i : Int)) (m.so + (j : Int)) then 1 else 0) from rfl)
            have HYE := Lib.hid (show m.so + ((j + 1 : Nat) : Int) = m.so + (j : Int) + 1 by omega)
            have HOK := Lib.hid (show okC l m (m.ws + (i : Int)) (m.so + (j : Int)) = (placeB (m.ws + (i : Int)) (m.so + (j : Int)) && decide ((spT l (m.ws + (i : Int)) (m.so + (j : Int)) m.fr m.to_ l.length).1 ≤ (spT l (m.ws + (i : Int)) (m.so + (j : Int)) m.fr m.to_ l.length).2)) from rfl)
            generalize rowC l m (m.ws + (i : Int)) j = Rj at hrb HN2 ⊢
            go_wp2_with fail
            (refine wp_region_calm (by kernel_rfl) (by kernel_rfl) ?_; (repeat (go_big_quiet_step ((fail)))); refine wpQuiet_nil ?_; intro xw; have hb4 := xw.is; generalize xw.w = w4 at hb4 ⊢; clear xw)
            have hbr4 := bstep hbr hb4
            obtain ⟨w5, rfl⟩ : ∃ w5 : World, w5 = w4 := ⟨_, rfl⟩
            go_wp2_with fail
            clear c0 c1 c2 c3 c4
            go_loopw [9, 10, 56] (fun fv tv iv wi => ∃ k : Nat, k ≤ l.length ∧ iv = .int .i64 k ∧ fv = .int .i64 (spT l (m.ws + (i : Int)) (m.so + (j : Int)) m.fr m.to_ k).1 ∧ tv = .int .i64 (spT l (m.ws + (i : Int)) (m.so + (j : Int)) m.fr m.to_ k).2 ∧ Below (w.alloc (.cells #[.int .i64 m.ws, .int .i64 m.so, .int .i64 m.sd, .int .i64 m.fr, .int .i64 m.to_] 26)).heap.size (w.alloc (.cells #[.int .i64 m.ws, .int .i64 m.so, .int .i64 m.sd, .int .i64 m.fr, .int .i64 m.to_] 26)) wi) (fun _ _ iv _ => l.length - (intOf iv).toNat)
            case atStart => exact ⟨0, Nat.zero_le _, rfl, rfl, rfl, hbr4⟩
            case round =>
              clear hbr hbw hbr4 hb4 hz hz1
              obtain ⟨k, hk, rfl, rfl, rfl, hbr⟩ := hrel
              have hbw := bstep (balloc (bref w) _) hbr
              by_cases hlt : k < l.length
              · obtain ⟨a, ha⟩ := some_get hlt
                have i0 := ib0 k
                have i1 := ib1 hlt
                obtain ⟨b, off, rfl, hb, q0, q1, q2, q3, q4⟩ := (HR.out.below hbw).ar ha
                have HT := Lib.hid (fun W => ticks_any a (m.ws + (i : Int)) (m.so + (j : Int)) W (HG.out a (List.mem_of_getElem? ha)) hx hy)
                have HSN := Lib.hid (spT_succ (x := m.ws + (i : Int)) (y := m.so + (j : Int)) (f := m.fr) (t := m.to_) ha)
                have HS := Lib.hid (show spS (m.ws + (i : Int)) (m.so + (j : Int)) (spT l (m.ws + (i : Int)) (m.so + (j : Int)) m.fr m.to_ k) a = (maxI (spT l (m.ws + (i : Int)) (m.so + (j : Int)) m.fr m.to_ k).1 (loT a (m.ws + (i : Int)) (m.so + (j : Int))), minI (spT l (m.ws + (i : Int)) (m.so + (j : Int)) m.fr m.to_ k).2 (hiT a (m.ws + (i : Int)) (m.so + (j : Int)))) from rfl)
                clear ha
                generalize loT a (m.ws + (i : Int)) (m.so + (j : Int)) = lo at HT HS
                generalize hiT a (m.ws + (i : Int)) (m.so + (j : Int)) = hi' at HT HS
                generalize spT l (m.ws + (i : Int)) (m.so + (j : Int)) m.fr m.to_ k = s at HSN HS ⊢
                go_wp2_with (go_at_call 46; (with_reducible refine (HT.out _).mono ?_); rintro e w6 ⟨rfl, hb6⟩)
                all_goals
                  go_roundw
                  case rel => exact ⟨k + 1, by omega, by go_num, by rw [HSN.out, HS.out]; simp only [maxI]; congr 1; split <;> omega, by rw [HSN.out, HS.out]; simp only [minI]; congr 1; split <;> omega, bstep (balloc hbr _) hb6⟩
                  case measure => simp [intOf]; omega
              · obtain rfl : k = l.length := by omega
                generalize spT l (m.ws + (i : Int)) (m.so + (j : Int)) m.fr m.to_ l.length = s at HOK ⊢
                rw [HOK.out] at HN2
                cases hp : placeB (m.ws + (i : Int)) (m.so + (j : Int))
                · rw [hp] at HN2
                  go_wp2_with (go_at_call 37; (with_reducible refine (isPlace_any _ _ _).mono ?_); rintro e w' ⟨rfl, rfl⟩)
                  go_roundw
                  case rel => exact ⟨j + 1, by omega, by rw [HYE.out], by rw [HN2.out]; simp, hbr⟩
                  case measure => simp [intOf]; omega
                · rw [hp] at HN2
                  by_cases hs : s.1 ≤ s.2
                  · rw [decide_eq_true hs] at HN2
                    go_wp2_with (go_at_call 37; (with_reducible refine (isPlace_any _ _ _).mono ?_); rintro e w' ⟨rfl, rfl⟩)
                    go_roundw
                    case rel => exact ⟨j + 1, by omega, by rw [HYE.out], by rw [HN2.out]; simp <;> omega, hbr⟩
                    case measure => simp [intOf]; omega
                  · rw [decide_eq_false hs] at HN2
                    go_wp2_with (go_at_call 37; (with_reducible refine (isPlace_any _ _ _).mono ?_); rintro e w' ⟨rfl, rfl⟩)
                    go_roundw
                    case rel => exact ⟨j + 1, by omega, by rw [HYE.out], by rw [HN2.out]; simp, hbr⟩
                    case measure => simp [intOf]; omega
          · obtain rfl : j = n := by omega
            have HXE := Lib.hid (show m.ws + ((i + 1 : Nat) : Int) = m.ws + (i : Int) + 1 by omega)
            generalize rowC l m (m.ws + (i : Int)) j = Rj at hrb HN ⊢
            have gy : ¬ m.so + (j : Int) < m.so + m.sd := by omega
            go_wp2_with fail
            go_roundw
            case rel => exact ⟨i + 1, by omega, by rw [HXE.out], by rw [HN.out], hbr⟩
            case measure => simp [intOf]; omega
      · obtain rfl : i = n := by omega
        generalize cntC l m i = C at hbc HF ⊢
        have gx : ¬ m.ws + (i : Int) < m.ws + m.sd := by omega
        go_wp2_with fail
        go_ret2
        exact ⟨ret_ib HF.out, hbw⟩
end Go.Proofs.YtaobbkiepggafaaGreat
