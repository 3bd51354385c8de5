/-
  The number of places of a cube with a consistent origin: impl and spec answer alike.
-/
import Derived.Test.YtaobbkiepggafaaGreatArFit
namespace Go.Proofs.YtaobbkiepggafaaGreat
set_option linter.unusedVariables false
set_option linter.unusedSimpArgs false
set_option linter.unnecessarySimpa false
open Go.RowKit
attribute [local go_sem] ext_cell ext_frozen

def spS (x y : Int) (s : Int × Int) (a : Ar) : Int × Int := (maxI s.1 (loT a x y), minI s.2 (hiT a x y))
def spT (l : List Ar) (x y f t : Int) (k : Nat) : Int × Int := (l.take k).foldl (spS x y) (f, t)
theorem spT_succ {l : List Ar} {x y f t : Int} {k : Nat} {m : Ar} (h : l[k]? = some m) : spT l x y f t (k + 1) = spS x y (spT l x y f t k) m := by
  unfold spT
  rw [List.take_add_one, h]
  simp [List.foldl_append]
def atB (l : List Ar) (m : Cu) (x y : Int) : Bool := decide ((spT l x y m.fr m.to_ l.length).1 ≤ (spT l x y m.fr m.to_ l.length).2)
def okC (l : List Ar) (m : Cu) (x y : Int) : Bool := placeB x y && atB l m x y
def rowC (l : List Ar) (m : Cu) (x : Int) : Nat → Int
  | 0 => 0
  | j + 1 => rowC l m x j + (if okC l m x (m.so + (j : Int)) then 1 else 0)
def cntC (l : List Ar) (m : Cu) : Nat → Int
  | 0 => 0
  | i + 1 => cntC l m i + rowC l m (m.ws + (i : Int)) m.sd.toNat
theorem place_off {x y : Int} (h : ¬ (0 ≤ x ∧ x ≤ 999 ∧ 0 ≤ y ∧ y ≤ 999)) : placeB x y = false := by
  cases e : placeB x y
  · rfl
  · exact absurd (by have := placeB_true e; omega) h
theorem rowC_bd (l : List Ar) (m : Cu) (x : Int) : ∀ j, 0 ≤ rowC l m x j ∧ rowC l m x j ≤ j
  | 0 => by simp [rowC]
  | j + 1 => by
    have := rowC_bd l m x j
    simp only [rowC]
    split <;> omega
theorem cntC_bd (l : List Ar) (m : Cu) (hs : m.sd.toNat ≤ 16) : ∀ i, 0 ≤ cntC l m i ∧ cntC l m i ≤ 16 * i
  | 0 => by simp [cntC]
  | i + 1 => by
    have := cntC_bd l m hs i
    have h2 := rowC_bd l m (m.ws + (i : Int)) m.sd.toNat
    simp only [cntC]
    omega
theorem rowC_end {l : List Ar} {m : Cu} {x : Int} {j : Nat} (h : 999 < m.so + (j : Int)) : ∀ d, rowC l m x (j + d) = rowC l m x j
  | 0 => rfl
  | d + 1 => by
    have ih := rowC_end (l := l) (x := x) h d
    have e : okC l m x (m.so + ((j + d : Nat) : Int)) = false := by
      unfold okC; rw [place_off (by omega)]; rfl
    rw [show j + (d + 1) = (j + d) + 1 by omega, rowC, e, ih]
    simp
theorem rowC_off {l : List Ar} {m : Cu} {x : Int} (h : 999 < x) : ∀ j, rowC l m x j = 0
  | 0 => rfl
  | j + 1 => by
    have e : okC l m x (m.so + (j : Int)) = false := by
      unfold okC; rw [place_off (by omega)]; rfl
    rw [rowC, e, rowC_off h j]
    simp
theorem cntC_end {l : List Ar} {m : Cu} {i : Nat} (h : 999 < m.ws + (i : Int)) : ∀ d, cntC l m (i + d) = cntC l m i
  | 0 => rfl
  | d + 1 => by
    have ih := cntC_end (l := l) h d
    rw [show i + (d + 1) = (i + d) + 1 by omega, cntC, rowC_off (by omega), ih]
    omega
def cntR (l : List Ar) (m : Cu) : Int × Bool := if locB l && cubeB m && decide (m.sd ≤ 16) then (cntC l m m.sd.toNat, true) else (0, false)

set_option maxRecDepth 100000 in
set_option maxHeartbeats 4000000 in
theorem l12At_any (l : List Ar) (m : Cu) (x y : Int) (A : Option Addr) (c : Nat) (w : World) (hr : RowAt 5 encAr w A l) (hlen : l.length ≤ 2097152) (hg : ∀ a ∈ l, oneArM a = true) (hx : 0 ≤ x ∧ x ≤ 1014) (hy : 0 ≤ y ∧ y ≤ 1014) :
    Calls Tryz.prog 48 #[.slice A l.length c, .int .i64 x, .int .i64 y, .int .i64 m.fr, .int .i64 m.to_] w fun e w' => e = .returned (.bool (atB l m x y)) ∧ Below w.heap.size w w' := by
  have HR := Lib.hid hr
  have HG := Lib.hid hg
  clear hr hg
  go_enter Tryz.func48, Tryz.ntmps48
  go_wp2_with fail
  go_loopw [3, 4, 11] (fun fv tv i wr => ∃ k : Nat, k ≤ l.length ∧ i = .int .i64 k ∧ fv = .int .i64 (spT l x y m.fr m.to_ k).1 ∧ tv = .int .i64 (spT l x y m.fr m.to_ k).2 ∧ Below w.heap.size w wr) (fun _ _ i _ => l.length - (intOf i).toNat)
  case atStart => exact ⟨0, Nat.zero_le _, rfl, rfl, rfl, bref _⟩
  case round =>
    obtain ⟨k, hk, rfl, rfl, rfl, hbr⟩ := hrel
    by_cases hlt : k < l.length
    · obtain ⟨a, ha⟩ := some_get hlt
      have i0 := ib0 k
      have i1 := ib1 hlt
      obtain ⟨b, off, rfl, hb, q0, q1, q2, q3, q4⟩ := (HR.out.below hbr).ar ha
      have HT := Lib.hid (fun W => l10Ticks_any a x y W (HG.out a (List.mem_of_getElem? ha)) hx hy)
      have HN := Lib.hid (spT_succ (x := x) (y := y) (f := m.fr) (t := m.to_) ha)
      have HS := Lib.hid (show spS x y (spT l x y m.fr m.to_ k) a = (maxI (spT l x y m.fr m.to_ k).1 (loT a x y), minI (spT l x y m.fr m.to_ k).2 (hiT a x y)) from rfl)
      clear ha
      generalize loT a x y = lo at HT HS
      generalize hiT a x y = hi at HT HS
      generalize spT l x y m.fr m.to_ k = s at HN HS ⊢
      go_wp2_with (first | (go_at_call 80; (with_reducible refine (HT.out _).mono ?_); rintro e w1 ⟨rfl, hb1⟩) | (go_at_call 26; (with_reducible refine (l1Most_any _ _ _).mono ?_); rintro e w' ⟨rfl, rfl⟩) | (go_at_call 55; (with_reducible refine (l1Least_any _ _ _).mono ?_); rintro e w' ⟨rfl, rfl⟩))
      go_roundw
      case rel => exact ⟨k + 1, by omega, by go_num, by rw [HN.out, HS.out], by rw [HN.out, HS.out], bstep hbr hb1⟩
      case measure => simp [intOf]; omega
    · obtain rfl : k = l.length := by omega
      have HF := Lib.hid (show atB l m x y = decide ((spT l x y m.fr m.to_ l.length).1 ≤ (spT l x y m.fr m.to_ l.length).2) from rfl)
      generalize spT l x y m.fr m.to_ l.length = s at HF ⊢
      go_wp2_with fail
      go_ret
      exact ⟨ret_bool HF.out.symm, hbr⟩
set_option maxRecDepth 100000 in
set_option maxHeartbeats 8000000 in
theorem sCnt_any (l : List Ar) (m : Cu) (A : Option Addr) (c : Nat) (w : World) (hr : RowAt 5 encAr w A l) (hlen : l.length ≤ 2097152) :
    Calls Tryz.prog 20 #[.slice A l.length c, .agg #[.int .i64 m.ws, .int .i64 m.so, .int .i64 m.sd, .int .i64 m.fr, .int .i64 m.to_]] w fun e w' => e = .returned (.tuple #[.int .i64 (cntR l m).1, .bool (cntR l m).2]) ∧ Below w.heap.size w w' := by
  have HR := Lib.hid hr
  have HB0 := Lib.hid (boxCu w 26 m)
  clear hr
  cases h1 : locB l
  · have HF := Lib.hid (show cntR l m = (0, false) by simp [cntR, h1])
    go_enter Tryz.func20, Tryz.ntmps20
    go_wp2_with (go_at_call 47; (with_reducible refine (sLoc_any l _ _ _ (HR.out.below (balloc (bref _) _)) hlen).mono ?_); rw [h1]; rintro e w1 ⟨rfl, hb1⟩; obtain ⟨c0, c1, c2, c3, c4⟩ := cellCu (by simp) HB0.out hb1)
    go_ret2
    exact ⟨ret_ib HF.out, bstep (balloc (bref _) _) hb1⟩
  cases h2 : cubeB m
  · have HF := Lib.hid (show cntR l m = (0, false) by simp [cntR, h2])
    go_enter Tryz.func20, Tryz.ntmps20
    go_wp2_with (first | (go_at_call 47; (with_reducible refine (sLoc_any l _ _ _ (HR.out.below (balloc (bref _) _)) hlen).mono ?_); rw [h1]; rintro e w1 ⟨rfl, hb1⟩; obtain ⟨c0, c1, c2, c3, c4⟩ := cellCu (by simp) HB0.out hb1) | (go_at_call 39; (with_reducible refine (l12Good_any m _).mono ?_); rw [h2]; rintro e w2 ⟨rfl, hb2⟩))
    go_ret2
    exact ⟨ret_ib HF.out, bstep (bstep (balloc (bref _) _) hb1) hb2⟩
  obtain ⟨bs, bw, bo, _, _⟩ := cubeB_bounds h2
  by_cases h3 : m.sd ≤ 16
  case neg =>
    have HF := Lib.hid (show cntR l m = (0, false) by simp [cntR, h3])
    go_enter Tryz.func20, Tryz.ntmps20
    go_wp2_with (first | (go_at_call 47; (with_reducible refine (sLoc_any l _ _ _ (HR.out.below (balloc (bref _) _)) hlen).mono ?_); rw [h1]; rintro e w1 ⟨rfl, hb1⟩; obtain ⟨c0, c1, c2, c3, c4⟩ := cellCu (by simp) HB0.out hb1) | (go_at_call 39; (with_reducible refine (l12Good_any m _).mono ?_); rw [h2]; rintro e w2 ⟨rfl, hb2⟩; obtain ⟨c0, c1, c2, c3, c4⟩ := cellCu (by simp) HB0.out (bstep hb1 hb2)))
    go_ret2
    exact ⟨ret_ib HF.out, bstep (bstep (balloc (bref _) _) hb1) hb2⟩
  case pos =>
    have HF := Lib.hid (show cntR l m = (cntC l m m.sd.toNat, true) by simp [cntR, h1, h2, h3])
    have HG := Lib.hid (goodAr_all (l := l) (by unfold locB at h1; rw [Bool.and_eq_true] at h1; exact h1.1))
    obtain ⟨n, hn⟩ : ∃ n : Nat, n = m.sd.toNat := ⟨_, rfl⟩
    have hnI : (n : Int) = m.sd := by omega
    have HC := Lib.hid (fun i => cntC_bd l m (by omega) i)
    rw [← hn] at HF
    go_enter Tryz.func20, Tryz.ntmps20
    go_wp2_with (first | (go_at_call 47; (with_reducible refine (sLoc_any l _ _ _ (HR.out.below (balloc (bref _) _)) hlen).mono ?_); rw [h1]; rintro e w1 ⟨rfl, hb1⟩; obtain ⟨c0, c1, c2, c3, c4⟩ := cellCu (by simp) HB0.out hb1) | (go_at_call 39; (with_reducible refine (l12Good_any m _).mono ?_); rw [h2]; rintro e w2 ⟨rfl, hb2⟩; obtain ⟨c0, c1, c2, c3, c4⟩ := cellCu (by simp) HB0.out (bstep hb1 hb2)))
    have hb12 := bstep hb1 hb2
    go_loopw [6, 7] (fun cv xv wr => ∃ i : Nat, i ≤ n ∧ xv = .int .i64 (m.ws + (i : Int)) ∧ cv = .int .i64 (cntC l m i) ∧ Below (w.alloc (.cells #[.int .i64 m.ws, .int .i64 m.so, .int .i64 m.sd, .int .i64 m.fr, .int .i64 m.to_] 26)).heap.size (w.alloc (.cells #[.int .i64 m.ws, .int .i64 m.so, .int .i64 m.sd, .int .i64 m.fr, .int .i64 m.to_] 26)) wr) (fun _ xv _ => (m.ws + m.sd - intOf xv).toNat)
    case atStart => exact ⟨0, Nat.zero_le _, by simp, rfl, hb12⟩
    case round =>
      obtain ⟨i, hi, rfl, rfl, hbr⟩ := hrel
      obtain ⟨c0, c1, c2, c3, c4⟩ := cellCu (by simp) HB0.out hbr
      have hbc := HC.out i
      have hbw := bstep (balloc (bref w) _) hbr
      by_cases hgo : i < n ∧ m.ws + (i : Int) ≤ 999
      · obtain ⟨g1, g2⟩ := hgo
        have hx : 0 ≤ m.ws + (i : Int) ∧ m.ws + (i : Int) ≤ 999 := by omega
        have gx : m.ws + (i : Int) < m.ws + m.sd := by omega
        have HN := Lib.hid (show cntC l m (i + 1) = cntC l m i + rowC l m (m.ws + (i : Int)) n by rw [hn]; rfl)
        have HRB := Lib.hid (fun j => rowC_bd l m (m.ws + (i : Int)) j)
        generalize cntC l m i = C at hbc HN ⊢
        obtain ⟨wo, rfl⟩ : ∃ wo : World, wo = wr := ⟨_, rfl⟩
        go_wp2_with fail
        clear c0 c1 c2 c3 c4
        go_loopw [6, 8] (fun cv yv wi => ∃ j : Nat, j ≤ n ∧ yv = .int .i64 (m.so + (j : Int)) ∧ cv = .int .i64 (C + rowC l m (m.ws + (i : Int)) j) ∧ Below (w.alloc (.cells #[.int .i64 m.ws, .int .i64 m.so, .int .i64 m.sd, .int .i64 m.fr, .int .i64 m.to_] 26)).heap.size (w.alloc (.cells #[.int .i64 m.ws, .int .i64 m.so, .int .i64 m.sd, .int .i64 m.fr, .int .i64 m.to_] 26)) wi) (fun _ yv _ => (m.so + m.sd - intOf yv).toNat)
        case atStart => exact ⟨0, Nat.zero_le _, by simp, by simp [rowC], hbr⟩
        case round =>
          clear hbr hbw
          obtain ⟨j, hj, rfl, rfl, hbr⟩ := hrel
          obtain ⟨c0, c1, c2, c3, c4⟩ := cellCu (by simp) HB0.out hbr
          have hrb := HRB.out j
          have hbw := bstep (balloc (bref w) _) hbr
          by_cases hgo : j < n ∧ m.so + (j : Int) ≤ 999
          · obtain ⟨g3, g4⟩ := hgo
            have hy : 0 ≤ m.so + (j : Int) ∧ m.so + (j : Int) ≤ 999 := by omega
            have gy : m.so + (j : Int) < m.so + m.sd := by omega
            have HA := Lib.hid (l12At_any l m (m.ws + (i : Int)) (m.so + (j : Int)) A c wr (HR.out.below hbw) hlen HG.out (by omega) (by omega))
            have HOK := Lib.hid (show okC l m (m.ws + (i : Int)) (m.so + (j : Int)) = atB l m (m.ws + (i : Int)) (m.so + (j : Int)) by
              unfold okC placeB
              rw [show inB (m.ws + (i : Int)) 0 999 = true by rw [inB_eq]; simp; omega, show inB (m.so + (j : Int)) 0 999 = true by rw [inB_eq]; simp; omega]
              rfl)
            have HN2 := Lib.hid (show rowC l m (m.ws + (i : Int)) (j + 1) = rowC l m (m.ws + (i : Int)) j + (if okC l m (m.ws + (i : Int)) (m.so + (j : Int)) then 1 else 0) from rfl)
            rw [HOK.out] at HN2
            have HYE := Lib.hid (show m.so + ((j + 1 : Nat) : Int) = m.so + (j : Int) + 1 by omega)
            generalize rowC l m (m.ws + (i : Int)) j = Rj at hrb HN2 ⊢
            cases hat : atB l m (m.ws + (i : Int)) (m.so + (j : Int))
            · rw [hat] at HA HN2
              go_wp2_with (go_at_call 48; (with_reducible refine (HA.out).mono ?_); rintro e w4 ⟨rfl, hb4⟩)
              go_roundw
              case rel => exact ⟨j + 1, by omega, by rw [HYE.out], by rw [HN2.out]; simp, bstep hbr hb4⟩
              case measure => simp [intOf]; omega
            · rw [hat] at HA HN2
              go_wp2_with (go_at_call 48; (with_reducible refine (HA.out).mono ?_); rintro e w4 ⟨rfl, hb4⟩)
              go_roundw
              case rel => exact ⟨j + 1, by omega, by rw [HYE.out], by rw [HN2.out]; simp <;> omega, bstep hbr hb4⟩
              case measure => simp [intOf]; omega
          · have HE := Lib.hid (show rowC l m (m.ws + (i : Int)) n = rowC l m (m.ws + (i : Int)) j by
              by_cases g3 : j < n
              · have := rowC_end (l := l) (m := m) (x := m.ws + (i : Int)) (j := j) (by omega) (n - j)
                rwa [show j + (n - j) = n by omega] at this
              · rw [show j = n by omega])
            have HXE := Lib.hid (show m.ws + ((i + 1 : Nat) : Int) = m.ws + (i : Int) + 1 by omega)
            rw [HE.out] at HN
            generalize rowC l m (m.ws + (i : Int)) j = Rj at hrb HN ⊢
            by_cases g3 : j < n
            · have gy : m.so + (j : Int) < m.so + m.sd := by omega
              have gy2 : ¬ m.so + (j : Int) ≤ 999 := by omega
              go_wp2_with fail
              go_roundw
              case rel => exact ⟨i + 1, by omega, by rw [HXE.out], by rw [HN.out], hbr⟩
              case measure => simp [intOf]; omega
            · have gy : ¬ m.so + (j : Int) < m.so + m.sd := by omega
              go_wp2_with fail
              go_roundw
              case rel => exact ⟨i + 1, by omega, by rw [HXE.out], by rw [HN.out], hbr⟩
              case measure => simp [intOf]; omega
      · have HE := Lib.hid (show cntC l m n = cntC l m i by
          by_cases g3 : i < n
          · have := cntC_end (l := l) (m := m) (i := i) (by omega) (n - i)
            rwa [show i + (n - i) = n by omega] at this
          · rw [show i = n by omega])
        rw [HE.out] at HF
        generalize cntC l m i = C at hbc HF ⊢
        by_cases g3 : i < n
        · have gx : m.ws + (i : Int) < m.ws + m.sd := by omega
          have gx2 : ¬ m.ws + (i : Int) ≤ 999 := by omega
          go_wp2_with fail
          go_ret2
          exact ⟨ret_ib HF.out, hbw⟩
        · have gx : ¬ m.ws + (i : Int) < m.ws + m.sd := by omega
          go_wp2_with fail
          go_ret2
          exact ⟨ret_ib HF.out, hbw⟩
end Go.Proofs.YtaobbkiepggafaaGreat
