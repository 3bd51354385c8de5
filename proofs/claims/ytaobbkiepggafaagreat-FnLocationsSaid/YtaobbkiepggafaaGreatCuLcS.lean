/-
  spec.LocateIn: all possible cubes with a side, in order.
-/
import Derived.Test.YtaobbkiepggafaaGreatCuLoc
import Derived.Test.YtaobbkiepggafaaGreatCuSort
import Derived.Test.YtaobbkiepggafaaGreatArAf
namespace Go.Proofs.YtaobbkiepggafaaGreat
set_option linter.unusedVariables false
set_option linter.unusedSimpArgs false
set_option linter.unnecessarySimpa false
open Go.RowKit
attribute [local go_sem] ext_cell ext_frozen

def askB (l : List Ar) (m : Cu) (side : Int) : Bool := locB l && cubeB m && sideB side && decide (side ≤ m.sd)
theorem askB_true {l : List Ar} {m : Cu} {side : Int} (h : askB l m side = true) : locB l = true ∧ cubeB m = true ∧ sideB side = true ∧ side ≤ m.sd := by
  unfold askB at h
  simp only [Bool.and_eq_true, decide_eq_true_eq] at h
  exact ⟨h.1.1.1, h.1.1.2, h.1.2, h.2⟩
def lcOK (l : List Ar) (m : Cu) (side : Int) : Bool := askB l m side && decide ((allC l side 10 m).length ≤ 64)
def lcL (l : List Ar) (m : Cu) (side : Int) : List Cu := if lcOK l m side then srtC (allC l side 10 m) else []
theorem lcL_no {l : List Ar} {m : Cu} {side : Int} (h : lcOK l m side = false) : lcL l m side = [] := by simp [lcL, h]
theorem lcL_yes {l : List Ar} {m : Cu} {side : Int} (h : lcOK l m side = true) : lcL l m side = srtC (allC l side 10 m) := by simp [lcL, h]
theorem lcL_le (l : List Ar) (m : Cu) (side : Int) : (lcL l m side).length ≤ 64 := by
  unfold lcL
  split
  · rename_i h
    unfold lcOK at h
    simp only [Bool.and_eq_true, decide_eq_true_eq] at h
    rw [srtC_len]; exact h.2
  · simp
theorem cellCuO {w W : World} {b off : Nat} {m : Cu} (hb : b < w.heap.size) (h : w.cell? ⟨b, off, none⟩ = some (.int .i64 m.ws) ∧ w.cell? ⟨b, off + 1, none⟩ = some (.int .i64 m.so) ∧ w.cell? ⟨b, off + 2, none⟩ = some (.int .i64 m.sd) ∧ w.cell? ⟨b, off + 3, none⟩ = some (.int .i64 m.fr) ∧ w.cell? ⟨b, off + 4, none⟩ = some (.int .i64 m.to_)) (hW : Below w.heap.size w W) :
    W.cell? ⟨b, off, none⟩ = some (.int .i64 m.ws) ∧ W.cell? ⟨b, off + 1, none⟩ = some (.int .i64 m.so) ∧ W.cell? ⟨b, off + 2, none⟩ = some (.int .i64 m.sd) ∧ W.cell? ⟨b, off + 3, none⟩ = some (.int .i64 m.fr) ∧ W.cell? ⟨b, off + 4, none⟩ = some (.int .i64 m.to_) :=
  ⟨(hW.cell (p := ⟨b, off, none⟩) hb).trans h.1, (hW.cell (p := ⟨b, off + 1, none⟩) hb).trans h.2.1, (hW.cell (p := ⟨b, off + 2, none⟩) hb).trans h.2.2.1, (hW.cell (p := ⟨b, off + 3, none⟩) hb).trans h.2.2.2.1, (hW.cell (p := ⟨b, off + 4, none⟩) hb).trans h.2.2.2.2⟩
theorem sd_fuel {m : Cu} (h : cubeB m = true) : m.sd.toNat < 2 ^ 10 := by
  have := (cubeB_bounds h).1
  show m.sd.toNat < 1024
  omega

set_option maxRecDepth 100000 in
set_option maxHeartbeats 2000000 in
theorem l12Asked_any (l : List Ar) (m : Cu) (side : Int) (A : Option Addr) (c : Nat) (w : World) (hr : RowAt 5 encAr w A l) (hlen : l.length ≤ 2097152) :
    Calls Tryz.prog 34 #[.slice A l.length c, .agg #[.int .i64 m.ws, .int .i64 m.so, .int .i64 m.sd, .int .i64 m.fr, .int .i64 m.to_], .int .i64 side] w fun e w' => e = .returned (.bool (askB l m side)) ∧ Below w.heap.size w w' := by
  have HR := Lib.hid hr
  have HB0 := Lib.hid (boxCu w 26 m)
  clear hr
  cases h1 : locB l <;> cases h2 : cubeB m <;> cases h3 : sideB side
  all_goals
    go_enter Tryz.func34, Tryz.ntmps34
    go_wp2_with (first | (go_at_call 47; (with_reducible refine (sLoc_any l _ _ _ (HR.out.below (balloc (bref _) _)) hlen).mono ?_); rw [h1]; rintro e w1 ⟨rfl, hb1⟩; obtain ⟨c0, c1, c2, c3, c4⟩ := cellCu (by simp) HB0.out hb1) | (go_at_call 39; (with_reducible refine (l12Good_any m _).mono ?_); rw [h2]; rintro e w2 ⟨rfl, hb2⟩; obtain ⟨c0, c1, c2, c3, c4⟩ := cellCu (by simp) HB0.out (bstep hb1 hb2)) | (go_at_call 64; (with_reducible refine (l12Side_any _ _).mono ?_); rintro e w' ⟨rfl, rfl⟩))
    go_ret
    exact ⟨ret_bool (by simp [askB, h1, h2, h3]), by first | exact bstep (bstep (balloc (bref _) _) hb1) hb2 | exact bstep (balloc (bref _) _) hb1⟩

set_option maxRecDepth 100000 in
set_option maxHeartbeats 8000000 in
theorem sLc_any (l : List Ar) (m : Cu) (side : Int) (A : Option Addr) (c : Nat) (w : World) (hr : RowAt 5 encAr w A l) (hlen : l.length ≤ 2097152) :
    Calls Tryz.prog 7 #[.slice A l.length c, .agg #[.int .i64 m.ws, .int .i64 m.so, .int .i64 m.sd, .int .i64 m.fr, .int .i64 m.to_], .int .i64 side] w (MkS2 26 5 (lcL l m side).length ((lcL l m side).flatMap encCu) (lcOK l m side) w) := by
  have HR := Lib.hid hr
  have HB0 := Lib.hid (boxCu w 26 m)
  clear hr
  cases h1 : askB l m side
  · have hk : lcOK l m side = false := by simp [lcOK, h1]
    have HE := Lib.hid (lcL_no hk)
    have HK := Lib.hid hk
    clear hk
    go_enter Tryz.func7, Tryz.ntmps7
    go_wp2_with (go_at_call 34; (with_reducible refine (l12Asked_any l m side _ _ _ (HR.out.below (balloc (balloc (bref _) _) _)) hlen).mono ?_); rw [h1]; rintro e w1 ⟨rfl, hb1⟩)
    go_ret2
    rw [HE.out, HK.out]
    exact ⟨some ⟨w.heap.size + 1, 0, none⟩, 0, rfl, own_below (by have h := own_made (E := 26) (K := 5) (n := 0) (cur := #[]) (w := w.alloc (.cells #[.int .i64 m.ws, .int .i64 m.so, .int .i64 m.sd, .int .i64 m.fr, .int .i64 m.to_] 26)) rfl (Nat.zero_le _); simp only [World.size_alloc] at h; exact own_base h (by omega)) hb1, bstep (balloc (balloc (bref _) _) _) hb1⟩
  · obtain ⟨g1, g2, g3, g4⟩ := askB_true h1
    have hs := sideB_bd g3
    have HG := goodAr_all (l := l) (by unfold locB at g1; rw [Bool.and_eq_true] at g1; exact g1.1)
    have HALL := Lib.hid (fun W h => l12All_any l A c side hlen HG g3 10 m W (Nat.le_refl _) g2 g4 (sd_fuel g2) h)
    have HBP := Lib.hid (bothP_all l side 10 m)
    have HTIE := Lib.hid (tie_all (l := l) (d := 10) hs.1 g2 g4 g3)
    have HLEN := specC_len l side 10 m
    have HOK := Lib.hid (show lcOK l m side = decide ((allC l side 10 m).length ≤ 64) by simp [lcOK, h1])
    have HY := Lib.hid (fun h : lcOK l m side = true => lcL_yes h)
    have HNO := Lib.hid (fun h : lcOK l m side = false => lcL_no h)
    clear g1 g2 g3 g4 HG
    by_cases h64 : (allC l side 10 m).length ≤ 64
    · have he := HBP.out.1 h64
      rw [he] at HALL HLEN
      have hk : lcOK l m side = true := by rw [HOK.out]; simp [h64]
      have HE := Lib.hid (HY.out hk)
      have HK := Lib.hid hk
      clear hk he HBP HOK HY HNO HLEN
      generalize allC l side 10 m = L at HALL HTIE HE h64
      have h64' : ¬ (64 : Int) < (L.length : Int) := by omega
      go_enter Tryz.func7, Tryz.ntmps7
      go_wp2_with (first | (go_at_call 34; (with_reducible refine (l12Asked_any l m side _ _ _ (HR.out.below (balloc (balloc (bref _) _) _)) hlen).mono ?_); rw [h1]; rintro e w1 ⟨rfl, hb1⟩; obtain ⟨c0, c1, c2, c3, c4⟩ := cellCu (by simp) HB0.out (bstep (balloc (bref _) _) hb1)) | (go_at_call 35; (with_reducible refine (HALL.out _ (HR.out.below (bstep (balloc (balloc (bref _) _) _) hb1))).mono ?_); rintro e w2 ⟨A2, c2', rfl, ho2, hb2⟩))
      have hbw := bstep (bstep (balloc (balloc (bref w) (.cells #[.int .i64 m.ws, .int .i64 m.so, .int .i64 m.sd, .int .i64 m.fr, .int .i64 m.to_] 26)) (.cells #[] 26)) hb1) hb2
      have HO0 := Lib.hid (show w2.ownsRow w.heap.size 26 5 (.slice (some ⟨w.heap.size + 1, 0, none⟩) 0 0) 0 [] from own_below (own_below (by have h := own_made (E := 26) (K := 5) (n := 0) (cur := #[]) (w := w.alloc (.cells #[.int .i64 m.ws, .int .i64 m.so, .int .i64 m.sd, .int .i64 m.fr, .int .i64 m.to_] 26)) rfl (Nat.zero_le _); simp only [World.size_alloc] at h; exact own_base h (by omega)) hb1) hb2)
      have HL := Lib.hid (RowAt.of_own ho2 encCu_len (by decide))
      clear ho2 hb1 hb2 HALL HB0 c0 c1 c2 c3 c4 HR
      have h64d : decide ((64 : Int) < (L.length : Int)) = false := by simp; omega
      try simp only [h64d]
      go_loopw [8, 10] (fun v i wr => ∃ (k : Nat) (D : List Cu) (g c' : Nat), k ≤ L.length ∧ i = .int .i64 k ∧ v = .slice (some ⟨g, 0, none⟩) D.length c' ∧ D.length = k ∧ Hid (srtd D ∧ D.Perm (L.take k)) ∧ Below w.heap.size w wr ∧ Below w2.heap.size w2 wr ∧ Hid (wr.ownsRow w.heap.size 26 5 (.slice (some ⟨g, 0, none⟩) D.length c') D.length (D.flatMap encCu))) (fun _ i _ => L.length - (intOf i).toNat)
      case atStart => exact ⟨0, [], w.heap.size + 1, 0, Nat.zero_le _, rfl, rfl, rfl, Lib.hid ⟨List.Pairwise.nil, by simp⟩, hbw, bref _, HO0⟩
      case round =>
        clear HO0 hbw
        obtain ⟨i, D, g, c', hi, rfl, rfl, hDl, HD, hbr, hb2, HO⟩ := hrel
        have hcap := own_cap HO.out
        have hDb : D.length ≤ 64 := by omega
        have HDl := Lib.hid hDl
        clear hDl
        by_cases hlt : i < L.length
        · obtain ⟨x, hx⟩ := some_get hlt
          have i0 := ib0 i
          have i1 := ib1 hlt
          have HX := Lib.hid (show L.take (i + 1) = L.take i ++ [x] by rw [List.take_add_one, hx]; rfl)
          obtain ⟨bL, oL, e9, hbL, q0, q1, q2, q3, q4⟩ := (HL.out.below hb2).cu hx
          have HQ := Lib.hid (fun W (hW : Below wr.heap.size wr W) => cellCuO hbL ⟨q0, q1, q2, q3, q4⟩ hW)
          have HRD := Lib.hid (RowAt.of_own HO.out encCu_len (by decide))
          subst e9
          clear hx q0 q1 q2 q3 q4
          obtain ⟨wo, rfl⟩ : ∃ wo : World, wo = wr := ⟨_, rfl⟩
          go_wp2_with fail
          go_loopw [11] (fun kv wi => ∃ k : Nat, k ≤ D.length ∧ kv = .int .i64 k ∧ Hid (∀ j y, k ≤ j → D[j]? = some y → ltC x y = true) ∧ Below wo.heap.size wo wi) (fun kv _ => (intOf kv).toNat)
          case atStart => exact ⟨D.length, Nat.le_refl _, rfl, Lib.hid (fun j y h1 h2 => absurd (List.getElem?_eq_some_iff.1 h2).1 (by omega)), bref _⟩
          case round =>
            obtain ⟨k, hk, rfl, HU, hbk⟩ := hrel
            have hs2 := hbk.size
            obtain ⟨q0, q1, q2, q3, q4⟩ := HQ.out wr hbk
            have hbL2 := Nat.lt_of_lt_of_le hbL hs2
            have HINS : Hid ((∀ y, 0 < k → D[k - 1]? = some y → ltC x y = false) → srtd (D.take k ++ [x] ++ D.drop k) ∧ (D.take k ++ [x] ++ D.drop k).Perm (L.take (i + 1))) := Lib.hid (fun h => by
              obtain ⟨r1, r2⟩ := ins_srt hk HD.out.1 HU.out h
              exact ⟨r1, r2.trans (by rw [HX.out]; exact HD.out.2.append_right [x])⟩)
            have kk0 := ib0 k
            have kk1 : (k : Int) ≤ (D.length : Int) := by omega
            by_cases hk0 : 0 < k
            · obtain ⟨y, hy⟩ := some_get (show k - 1 < D.length by omega)
              obtain ⟨bD, oD, e8, hbD, p0, p1, p2, p3, p4⟩ := (HRD.out.below hbk).cu hy
              simp only [Option.some.injEq, Addr.mk.injEq, and_true] at e8
              obtain ⟨rfl, rfl⟩ := e8
              simp only [Nat.zero_add] at p0 p1 p2 p3 p4
              have hg1 : (0 : Int) < (k : Int) := by omega
              have hg2 : 0 ≤ (k : Int) - 1 := by omega
              have hg3 : (k : Int) - 1 < (D.length : Int) := by omega
              have hg4 : ((k : Int) - 1).toNat = k - 1 := by omega
              have hg5 : IntKind.i64.wrap ((k : Int) - 1) = (k : Int) - 1 := by rw [IntKind.wrap_i64]; omega
              have HBF := Lib.hid (fun W => l12Before_any x y W)
              cases hlt2 : ltC x y
              · have HBF2 := Lib.hid (fun W => by have := HBF.out W; rw [hlt2] at this; exact this)
                have HCO := Lib.hid (show ∀ y, 0 < k → D[k - 1]? = some y → ltC x y = false from fun y' _ h => by rw [hy] at h; cases h; exact hlt2)
                clear HBF hy
                go_wp2_with fail
                (refine wp_region_calm (by kernel_rfl) (by kernel_rfl) ?_; (repeat (go_big_quiet_step (((go_at_call 36; with_reducible exact calm_of (HBF2.out _)))))); refine wpQuiet_nil ?_; intro xw; have hb1 := xw.is; generalize xw.w = v1 at hb1 ⊢; clear xw)
                clear p0 p1 p2 p3 p4
                go_wp2_with fail
                clear hg1 hg2 hg3 hg4 hg5 hk0
                by_cases hkd : k < D.length
                · have HRv := Lib.hid (HRD.out.below (bstep hbk hb1))
                  have HR := HRv
                  have HZ := Lib.hid (Nat.lt_of_lt_of_le hbL2 hb1.size)
                  have HX2 := Lib.hid (HQ.out v1 (bstep hbk hb1))
                  have k1 : (k : Int) ≤ (c' : Int) := by omega
                  have k2 : (k : Int) ≤ (D.length : Int) := by omega
                  have k3 : (D.length : Int) ≤ (c' : Int) := by omega
                  have k4 : ¬ c' = k := by omega
                  have HK := Lib.hid (show ((D.take k).flatMap encCu).length = k * 5 by rw [flat_len encCu_len, List.length_take, Nat.min_eq_left hk])
                  have HN := Lib.hid (show k + 1 + (D.length - k) = D.length + 1 by omega)
                  have HY := Lib.hid (show (D.take k).flatMap encCu ++ encCu x ++ (D.drop k).flatMap encCu = (D.take k ++ [x] ++ D.drop k).flatMap encCu by simp)
                  have HK2 := Lib.hid (show ((D.drop k).flatMap encCu).length = (D.length - k) * 5 by rw [flat_len encCu_len, List.length_drop])
                  have hlen' : (D.take k ++ [x] ++ D.drop k).length = D.length + 1 := by simp; omega
                  have HLN := Lib.hid hlen'
                  have HRDK := Lib.hid (show RowAt 5 encCu v1 (some ⟨g, k * 5, none⟩) (D.drop k) by have h := HR.out.drop k; rwa [Nat.zero_add] at h)
                  clear hlen' q0 q1 q2 q3 q4
                  have s2 := HZ.out
                  obtain ⟨q0, q1, q2, q3, q4⟩ := HX2.out
                  go_wp2_with fail
                  go_region_held3 (fun w' => w'.cell? ⟨bL, oL + i * 5, none⟩ = some (.int .i64 x.ws) ∧ w'.cell? ⟨bL, oL + i * 5 + 1, none⟩ = some (.int .i64 x.so) ∧ w'.cell? ⟨bL, oL + i * 5 + 2, none⟩ = some (.int .i64 x.sd) ∧ w'.cell? ⟨bL, oL + i * 5 + 3, none⟩ = some (.int .i64 x.fr) ∧ w'.cell? ⟨bL, oL + i * 5 + 4, none⟩ = some (.int .i64 x.to_)) (exact cellCuO HZ.out HX2.out (by repeat (first | exact bref _ | exact hbI1 | exact hbI2 | exact hbI3 | (refine balloc ?_ _) | (refine bdrew ?_) | (refine bdrewN ?_ _)))) (first
            | ((refine step_appS (by rfl) (.tmp 51) (.tmp 54) 29 26 5 40 _ (by rfl) Tryz.underlying29 infoCu rfl (by decide) v1.heap.size _ 0 [] (by rfl) (own_empty (by first | exact heap_new1 _ _ | exact heap_new2 _ _ _ | exact heap_old2 _ _ _) (by first | exact Nat.le_refl _ | (simp; done))) _ _ _ ((D.take k).flatMap encCu) (by rfl) HK.out ((RowAt.below (HR.out.takeR k) (by repeat (first | exact bref _ | exact hbI1 | exact hbI2 | exact hbI3 | (refine balloc ?_ _) | (refine bdrew ?_) | (refine bdrewN ?_ _)))).news encCu_len) (cellsCu_one _) k (Nat.zero_add _) _ (List.nil_append _) (by omega) (by decide) (Below.size (B := v1.heap.size) (by repeat (first | exact bref _ | exact hbI1 | exact hbI2 | exact hbI3 | (refine balloc ?_ _) | (refine bdrew ?_) | (refine bdrewN ?_ _)))) ?_); intro A1 c1 w1 hoI1 hgI1 hlI1; have hbI1 : Below v1.heap.size v1 w1 := bgrown (by repeat (first | exact bref _ | exact hbI1 | exact hbI2 | exact hbI3 | (refine balloc ?_ _) | (refine bdrew ?_) | (refine bdrewN ?_ _))) hgI1 (by intro j hj; simp [Value.ownBlock] at hj; omega))
            | ((refine step_appS (by rfl) (.tmp 55) (.tmp 60) 29 26 5 40 _ (by rfl) Tryz.underlying29 infoCu rfl (by decide) v1.heap.size (.slice A1 k c1) k _ (by rfl) (by first | exact hoI1 | exact hoI1.alloc _ | exact own_drew (hoI1.alloc _)) _ 1 _ (encCu x) (by rfl) rfl (news1 (by first | exact heap_new1 _ _ | exact (hgI1.block _ (by simp <;> omega) (by simp [Value.ownBlock] <;> omega)).trans (heap_new2 _ _ _) | exact (hgI1.block _ (by simp <;> omega) (by simp [Value.ownBlock] <;> omega)).trans (heap_old2 _ _ _)) rfl) (encCu_one x) (k + 1) rfl _ rfl (by omega) (by decide) (Below.size (B := v1.heap.size) (by repeat (first | exact bref _ | exact hbI1 | exact hbI2 | exact hbI3 | (refine balloc ?_ _) | (refine bdrew ?_) | (refine bdrewN ?_ _)))) ?_); intro A2 c2 w2 hoI2 hgI2 hlI2; have hbI2 : Below v1.heap.size v1 w2 := bgrown (by repeat (first | exact bref _ | exact hbI1 | exact hbI2 | exact hbI3 | (refine balloc ?_ _) | (refine bdrew ?_) | (refine bdrewN ?_ _))) hgI2 (row_mine hoI1))
            | ((refine step_appS (by rfl) (.tmp 61) (.tmp 64) 29 26 5 40 _ (by rfl) Tryz.underlying29 infoCu rfl (by decide) v1.heap.size (.slice A2 (k + 1) c2) (k + 1) _ (by rfl) (by first | exact hoI2 | exact own_drew hoI2) _ _ _ ((D.drop k).flatMap encCu) (by rfl) HK2.out ((RowAt.below (HRDK.out) (by repeat (first | exact bref _ | exact hbI1 | exact hbI2 | exact hbI3 | (refine balloc ?_ _) | (refine bdrew ?_) | (refine bdrewN ?_ _)))).news encCu_len) (cellsCu_one _) ((D.length + 1)) HN.out _ HY.out (by have := HN.out; omega) (by decide) (Below.size (B := v1.heap.size) (by repeat (first | exact bref _ | exact hbI1 | exact hbI2 | exact hbI3 | (refine balloc ?_ _) | (refine bdrew ?_) | (refine bdrewN ?_ _)))) ?_); intro A3 c3 w3 hoI3 hgI3 hlI3; have hbI3 : Below v1.heap.size v1 w3 := bgrown (by repeat (first | exact bref _ | exact hbI1 | exact hbI2 | exact hbI3 | (refine balloc ?_ _) | (refine bdrew ?_) | (refine bdrewN ?_ _))) hgI3 (row_mine hoI2))
            | fail)
                  all_goals
                    obtain ⟨g3, rfl⟩ : ∃ g3, A3 = some ⟨g3, 0, none⟩ := by
                      rcases own_form hoI3 with ⟨_, h0, _⟩ | h
                      · omega
                      · exact h
                    go_wp2_with fail
                    go_roundw
                    case rel => exact ⟨i + 1, D.take k ++ [x] ++ D.drop k, g3, c3, by omega, by go_num, by rw [HLN.out], by rw [HLN.out]; have := HDl.out; omega, Lib.hid (HINS.out HCO.out), bstep (bstep (bstep hbr hbk) hb1) hbI3, bstep (bstep (bstep hb2 hbk) hb1) hbI3, Lib.hid (by rw [HLN.out]; exact own_base hoI3 (Nat.le_trans hbr.size (Nat.le_trans hbk.size hb1.size)))⟩
                    case measure => simp [intOf]; omega
                · obtain rfl : k = D.length := by omega
                  have HRv := Lib.hid (HRD.out.below (bstep hbk hb1))
                  have HR := HRv
                  have HZ := Lib.hid (Nat.lt_of_lt_of_le hbL2 hb1.size)
                  have HX2 := Lib.hid (HQ.out v1 (bstep hbk hb1))
                  have k1 : (D.length : Int) ≤ (c' : Int) := by omega
                  have HK := Lib.hid (show (D.flatMap encCu).length = D.length * 5 by rw [flat_len encCu_len])
                  have HN := Lib.hid (show D.length + 1 + 0 = D.length + 1 from rfl)
                  have HY := Lib.hid (show D.flatMap encCu ++ encCu x ++ [] = (D.take D.length ++ [x] ++ D.drop D.length).flatMap encCu by simp)
                  have hlen' : (D.take D.length ++ [x] ++ D.drop D.length).length = D.length + 1 := by simp
                  have HLN := Lib.hid hlen'
                  clear hlen' q0 q1 q2 q3 q4
                  have s2 := HZ.out
                  obtain ⟨q0, q1, q2, q3, q4⟩ := HX2.out
                  by_cases hck : c' = D.length
                  all_goals
                    go_wp2_with fail
                    go_region_held3 (fun w' => w'.cell? ⟨bL, oL + i * 5, none⟩ = some (.int .i64 x.ws) ∧ w'.cell? ⟨bL, oL + i * 5 + 1, none⟩ = some (.int .i64 x.so) ∧ w'.cell? ⟨bL, oL + i * 5 + 2, none⟩ = some (.int .i64 x.sd) ∧ w'.cell? ⟨bL, oL + i * 5 + 3, none⟩ = some (.int .i64 x.fr) ∧ w'.cell? ⟨bL, oL + i * 5 + 4, none⟩ = some (.int .i64 x.to_)) (exact cellCuO HZ.out HX2.out (by repeat (first | exact bref _ | exact hbI1 | exact hbI2 | exact hbI3 | (refine balloc ?_ _) | (refine bdrew ?_) | (refine bdrewN ?_ _)))) (first
            | ((refine step_appS (by rfl) (.tmp 51) (.tmp 54) 29 26 5 40 _ (by rfl) Tryz.underlying29 infoCu rfl (by decide) v1.heap.size _ 0 [] (by rfl) (own_empty (by first | exact heap_new1 _ _ | exact heap_new2 _ _ _ | exact heap_old2 _ _ _) (by first | exact Nat.le_refl _ | (simp; done))) _ _ _ (D.flatMap encCu) (by rfl) HK.out ((RowAt.below HR.out (by repeat (first | exact bref _ | exact hbI1 | exact hbI2 | exact hbI3 | (refine balloc ?_ _) | (refine bdrew ?_) | (refine bdrewN ?_ _)))).news encCu_len) (cellsCu_one _) D.length (Nat.zero_add _) _ (List.nil_append _) (by omega) (by decide) (Below.size (B := v1.heap.size) (by repeat (first | exact bref _ | exact hbI1 | exact hbI2 | exact hbI3 | (refine balloc ?_ _) | (refine bdrew ?_) | (refine bdrewN ?_ _)))) ?_); intro A1 c1 w1 hoI1 hgI1 hlI1; have hbI1 : Below v1.heap.size v1 w1 := bgrown (by repeat (first | exact bref _ | exact hbI1 | exact hbI2 | exact hbI3 | (refine balloc ?_ _) | (refine bdrew ?_) | (refine bdrewN ?_ _))) hgI1 (by intro j hj; simp [Value.ownBlock] at hj; omega))
            | ((refine step_appS (by rfl) (.tmp 55) (.tmp 60) 29 26 5 40 _ (by rfl) Tryz.underlying29 infoCu rfl (by decide) v1.heap.size (.slice A1 D.length c1) D.length _ (by rfl) (by first | exact hoI1 | exact hoI1.alloc _ | exact own_drew (hoI1.alloc _)) _ 1 _ (encCu x) (by rfl) rfl (news1 (by first | exact heap_new1 _ _ | exact (hgI1.block _ (by simp <;> omega) (by simp [Value.ownBlock] <;> omega)).trans (heap_new2 _ _ _) | exact (hgI1.block _ (by simp <;> omega) (by simp [Value.ownBlock] <;> omega)).trans (heap_old2 _ _ _)) rfl) (encCu_one x) (D.length + 1) rfl _ rfl (by omega) (by decide) (Below.size (B := v1.heap.size) (by repeat (first | exact bref _ | exact hbI1 | exact hbI2 | exact hbI3 | (refine balloc ?_ _) | (refine bdrew ?_) | (refine bdrewN ?_ _)))) ?_); intro A2 c2 w2 hoI2 hgI2 hlI2; have hbI2 : Below v1.heap.size v1 w2 := bgrown (by repeat (first | exact bref _ | exact hbI1 | exact hbI2 | exact hbI3 | (refine balloc ?_ _) | (refine bdrew ?_) | (refine bdrewN ?_ _))) hgI2 (row_mine hoI1))
            | ((refine step_appS (by rfl) (.tmp 61) (.tmp 64) 29 26 5 40 _ (by rfl) Tryz.underlying29 infoCu rfl (by decide) v1.heap.size (.slice A2 (D.length + 1) c2) (D.length + 1) _ (by rfl) (by first | exact hoI2 | exact own_drew hoI2) _ _ _ [] (by rfl) (by simp) (fun j u hj => by simp at hj) (fun u hu => by simp at hu) ((D.length + 1)) (by first | exact HN.out | (simp; done) | (have := HN.out; simpa using this)) _ HY.out (by have := HN.out; omega) (by decide) (Below.size (B := v1.heap.size) (by repeat (first | exact bref _ | exact hbI1 | exact hbI2 | exact hbI3 | (refine balloc ?_ _) | (refine bdrew ?_) | (refine bdrewN ?_ _)))) ?_); intro A3 c3 w3 hoI3 hgI3 hlI3; have hbI3 : Below v1.heap.size v1 w3 := bgrown (by repeat (first | exact bref _ | exact hbI1 | exact hbI2 | exact hbI3 | (refine balloc ?_ _) | (refine bdrew ?_) | (refine bdrewN ?_ _))) hgI3 (row_mine hoI2))
            | fail)
                    all_goals
                      obtain ⟨g3, rfl⟩ : ∃ g3, A3 = some ⟨g3, 0, none⟩ := by
                        rcases own_form hoI3 with ⟨_, h0, _⟩ | h
                        · omega
                        · exact h
                      go_wp2_with fail
                      go_roundw
                      case rel => exact ⟨i + 1, D.take D.length ++ [x] ++ D.drop D.length, g3, c3, by omega, by go_num, by rw [HLN.out], by rw [HLN.out]; have := HDl.out; omega, Lib.hid (HINS.out HCO.out), bstep (bstep (bstep hbr hbk) hb1) hbI3, bstep (bstep (bstep hb2 hbk) hb1) hbI3, Lib.hid (by rw [HLN.out]; exact own_base hoI3 (Nat.le_trans hbr.size (Nat.le_trans hbk.size hb1.size)))⟩
                      case measure => simp [intOf]; omega
              · have HBF2 := Lib.hid (fun W => by have := HBF.out W; rw [hlt2] at this; exact this)
                have HU2 := Lib.hid (show ∀ j y, k - 1 ≤ j → D[j]? = some y → ltC x y = true from fun j y' h1 h => by
                  by_cases e : j = k - 1
                  · subst e; rw [hy] at h; cases h; exact hlt2
                  · exact HU.out j y' (by omega) h)
                have hkc : ((k - 1 : Nat) : Int) = (k : Int) - 1 := by omega
                have HKC := Lib.hid hkc
                clear HBF hy hkc
                go_wp2_with fail
                (refine wp_region_calm (by kernel_rfl) (by kernel_rfl) ?_; (repeat (go_big_quiet_step (((go_at_call 36; with_reducible exact calm_of (HBF2.out _)))))); refine wpQuiet_nil ?_; intro xw; have hb1 := xw.is; generalize xw.w = v1 at hb1 ⊢; clear xw)
                clear p0 p1 p2 p3 p4
                go_wp2_with fail
                go_roundw
                case rel => exact ⟨k - 1, by omega, by rw [HKC.out], HU2, bstep hbk hb1⟩
                case measure => simp [intOf]; omega
            · have hg1 : ¬ (0 : Int) < (k : Int) := by omega
              have HCO := Lib.hid (show ∀ y, 0 < k → D[k - 1]? = some y → ltC x y = false from fun y' h _ => absurd h hk0)
              go_wp2_with fail
              (refine wp_region_calm (by kernel_rfl) (by kernel_rfl) ?_; (repeat (go_big_quiet_step ((fail)))); refine wpQuiet_nil ?_; intro xw; have hb1 := xw.is; generalize xw.w = v1 at hb1 ⊢; clear xw)
              go_wp2_with fail
              clear hg1 hk0
              by_cases hkd : k < D.length
              · have HRv := Lib.hid (HRD.out.below (bstep hbk hb1))
                have HR := HRv
                have HZ := Lib.hid (Nat.lt_of_lt_of_le hbL2 hb1.size)
                have HX2 := Lib.hid (HQ.out v1 (bstep hbk hb1))
                have k1 : (k : Int) ≤ (c' : Int) := by omega
                have k2 : (k : Int) ≤ (D.length : Int) := by omega
                have k3 : (D.length : Int) ≤ (c' : Int) := by omega
                have k4 : ¬ c' = k := by omega
                have HK := Lib.hid (show ((D.take k).flatMap encCu).length = k * 5 by rw [flat_len encCu_len, List.length_take, Nat.min_eq_left hk])
                have HN := Lib.hid (show k + 1 + (D.length - k) = D.length + 1 by omega)
                have HY := Lib.hid (show (D.take k).flatMap encCu ++ encCu x ++ (D.drop k).flatMap encCu = (D.take k ++ [x] ++ D.drop k).flatMap encCu by simp)
                have HK2 := Lib.hid (show ((D.drop k).flatMap encCu).length = (D.length - k) * 5 by rw [flat_len encCu_len, List.length_drop])
                have hlen' : (D.take k ++ [x] ++ D.drop k).length = D.length + 1 := by simp; omega
                have HLN := Lib.hid hlen'
                have HRDK := Lib.hid (show RowAt 5 encCu v1 (some ⟨g, k * 5, none⟩) (D.drop k) by have h := HR.out.drop k; rwa [Nat.zero_add] at h)
                clear hlen' q0 q1 q2 q3 q4
                have s2 := HZ.out
                obtain ⟨q0, q1, q2, q3, q4⟩ := HX2.out
                go_wp2_with fail
                go_region_held3 (fun w' => w'.cell? ⟨bL, oL + i * 5, none⟩ = some (.int .i64 x.ws) ∧ w'.cell? ⟨bL, oL + i * 5 + 1, none⟩ = some (.int .i64 x.so) ∧ w'.cell? ⟨bL, oL + i * 5 + 2, none⟩ = some (.int .i64 x.sd) ∧ w'.cell? ⟨bL, oL + i * 5 + 3, none⟩ = some (.int .i64 x.fr) ∧ w'.cell? ⟨bL, oL + i * 5 + 4, none⟩ = some (.int .i64 x.to_)) (exact cellCuO HZ.out HX2.out (by repeat (first | exact bref _ | exact hbI1 | exact hbI2 | exact hbI3 | (refine balloc ?_ _) | (refine bdrew ?_) | (refine bdrewN ?_ _)))) (first
            | ((refine step_appS (by rfl) (.tmp 51) (.tmp 54) 29 26 5 40 _ (by rfl) Tryz.underlying29 infoCu rfl (by decide) v1.heap.size _ 0 [] (by rfl) (own_empty (by first | exact heap_new1 _ _ | exact heap_new2 _ _ _ | exact heap_old2 _ _ _) (by first | exact Nat.le_refl _ | (simp; done))) _ _ _ ((D.take k).flatMap encCu) (by rfl) HK.out ((RowAt.below (HR.out.takeR k) (by repeat (first | exact bref _ | exact hbI1 | exact hbI2 | exact hbI3 | (refine balloc ?_ _) | (refine bdrew ?_) | (refine bdrewN ?_ _)))).news encCu_len) (cellsCu_one _) k (Nat.zero_add _) _ (List.nil_append _) (by omega) (by decide) (Below.size (B := v1.heap.size) (by repeat (first | exact bref _ | exact hbI1 | exact hbI2 | exact hbI3 | (refine balloc ?_ _) | (refine bdrew ?_) | (refine bdrewN ?_ _)))) ?_); intro A1 c1 w1 hoI1 hgI1 hlI1; have hbI1 : Below v1.heap.size v1 w1 := bgrown (by repeat (first | exact bref _ | exact hbI1 | exact hbI2 | exact hbI3 | (refine balloc ?_ _) | (refine bdrew ?_) | (refine bdrewN ?_ _))) hgI1 (by intro j hj; simp [Value.ownBlock] at hj; omega))
            | ((refine step_appS (by rfl) (.tmp 55) (.tmp 60) 29 26 5 40 _ (by rfl) Tryz.underlying29 infoCu rfl (by decide) v1.heap.size (.slice A1 k c1) k _ (by rfl) (by first | exact hoI1 | exact hoI1.alloc _ | exact own_drew (hoI1.alloc _)) _ 1 _ (encCu x) (by rfl) rfl (news1 (by first | exact heap_new1 _ _ | exact (hgI1.block _ (by simp <;> omega) (by simp [Value.ownBlock] <;> omega)).trans (heap_new2 _ _ _) | exact (hgI1.block _ (by simp <;> omega) (by simp [Value.ownBlock] <;> omega)).trans (heap_old2 _ _ _)) rfl) (encCu_one x) (k + 1) rfl _ rfl (by omega) (by decide) (Below.size (B := v1.heap.size) (by repeat (first | exact bref _ | exact hbI1 | exact hbI2 | exact hbI3 | (refine balloc ?_ _) | (refine bdrew ?_) | (refine bdrewN ?_ _)))) ?_); intro A2 c2 w2 hoI2 hgI2 hlI2; have hbI2 : Below v1.heap.size v1 w2 := bgrown (by repeat (first | exact bref _ | exact hbI1 | exact hbI2 | exact hbI3 | (refine balloc ?_ _) | (refine bdrew ?_) | (refine bdrewN ?_ _))) hgI2 (row_mine hoI1))
            | ((refine step_appS (by rfl) (.tmp 61) (.tmp 64) 29 26 5 40 _ (by rfl) Tryz.underlying29 infoCu rfl (by decide) v1.heap.size (.slice A2 (k + 1) c2) (k + 1) _ (by rfl) (by first | exact hoI2 | exact own_drew hoI2) _ _ _ ((D.drop k).flatMap encCu) (by rfl) HK2.out ((RowAt.below (HRDK.out) (by repeat (first | exact bref _ | exact hbI1 | exact hbI2 | exact hbI3 | (refine balloc ?_ _) | (refine bdrew ?_) | (refine bdrewN ?_ _)))).news encCu_len) (cellsCu_one _) ((D.length + 1)) HN.out _ HY.out (by have := HN.out; omega) (by decide) (Below.size (B := v1.heap.size) (by repeat (first | exact bref _ | exact hbI1 | exact hbI2 | exact hbI3 | (refine balloc ?_ _) | (refine bdrew ?_) | (refine bdrewN ?_ _)))) ?_); intro A3 c3 w3 hoI3 hgI3 hlI3; have hbI3 : Below v1.heap.size v1 w3 := bgrown (by repeat (first | exact bref _ | exact hbI1 | exact hbI2 | exact hbI3 | (refine balloc ?_ _) | (refine bdrew ?_) | (refine bdrewN ?_ _))) hgI3 (row_mine hoI2))
            | fail)
                all_goals
                  obtain ⟨g3, rfl⟩ : ∃ g3, A3 = some ⟨g3, 0, none⟩ := by
                    rcases own_form hoI3 with ⟨_, h0, _⟩ | h
                    · omega
                    · exact h
                  go_wp2_with fail
                  go_roundw
                  case rel => exact ⟨i + 1, D.take k ++ [x] ++ D.drop k, g3, c3, by omega, by go_num, by rw [HLN.out], by rw [HLN.out]; have := HDl.out; omega, Lib.hid (HINS.out HCO.out), bstep (bstep (bstep hbr hbk) hb1) hbI3, bstep (bstep (bstep hb2 hbk) hb1) hbI3, Lib.hid (by rw [HLN.out]; exact own_base hoI3 (Nat.le_trans hbr.size (Nat.le_trans hbk.size hb1.size)))⟩
                  case measure => simp [intOf]; omega
              · obtain rfl : k = D.length := by omega
                have HRv := Lib.hid (HRD.out.below (bstep hbk hb1))
                have HR := HRv
                have HZ := Lib.hid (Nat.lt_of_lt_of_le hbL2 hb1.size)
                have HX2 := Lib.hid (HQ.out v1 (bstep hbk hb1))
                have k1 : (D.length : Int) ≤ (c' : Int) := by omega
                have HK := Lib.hid (show (D.flatMap encCu).length = D.length * 5 by rw [flat_len encCu_len])
                have HN := Lib.hid (show D.length + 1 + 0 = D.length + 1 from rfl)
                have HY := Lib.hid (show D.flatMap encCu ++ encCu x ++ [] = (D.take D.length ++ [x] ++ D.drop D.length).flatMap encCu by simp)
                have hlen' : (D.take D.length ++ [x] ++ D.drop D.length).length = D.length + 1 := by simp
                have HLN := Lib.hid hlen'
                clear hlen' q0 q1 q2 q3 q4
                have s2 := HZ.out
                obtain ⟨q0, q1, q2, q3, q4⟩ := HX2.out
                by_cases hck : c' = D.length
                all_goals
                  go_wp2_with fail
                  go_region_held3 (fun w' => w'.cell? ⟨bL, oL + i * 5, none⟩ = some (.int .i64 x.ws) ∧ w'.cell? ⟨bL, oL + i * 5 + 1, none⟩ = some (.int .i64 x.so) ∧ w'.cell? ⟨bL, oL + i * 5 + 2, none⟩ = some (.int .i64 x.sd) ∧ w'.cell? ⟨bL, oL + i * 5 + 3, none⟩ = some (.int .i64 x.fr) ∧ w'.cell? ⟨bL, oL + i * 5 + 4, none⟩ = some (.int .i64 x.to_)) (exact cellCuO HZ.out HX2.out (by repeat (first | exact bref _ | exact hbI1 | exact hbI2 | exact hbI3 | (refine balloc ?_ _) | (refine bdrew ?_) | (refine bdrewN ?_ _)))) (first
            | ((refine step_appS (by rfl) (.tmp 51) (.tmp 54) 29 26 5 40 _ (by rfl) Tryz.underlying29 infoCu rfl (by decide) v1.heap.size _ 0 [] (by rfl) (own_empty (by first | exact heap_new1 _ _ | exact heap_new2 _ _ _ | exact heap_old2 _ _ _) (by first | exact Nat.le_refl _ | (simp; done))) _ _ _ (D.flatMap encCu) (by rfl) HK.out ((RowAt.below HR.out (by repeat (first | exact bref _ | exact hbI1 | exact hbI2 | exact hbI3 | (refine balloc ?_ _) | (refine bdrew ?_) | (refine bdrewN ?_ _)))).news encCu_len) (cellsCu_one _) D.length (Nat.zero_add _) _ (List.nil_append _) (by omega) (by decide) (Below.size (B := v1.heap.size) (by repeat (first | exact bref _ | exact hbI1 | exact hbI2 | exact hbI3 | (refine balloc ?_ _) | (refine bdrew ?_) | (refine bdrewN ?_ _)))) ?_); intro A1 c1 w1 hoI1 hgI1 hlI1; have hbI1 : Below v1.heap.size v1 w1 := bgrown (by repeat (first | exact bref _ | exact hbI1 | exact hbI2 | exact hbI3 | (refine balloc ?_ _) | (refine bdrew ?_) | (refine bdrewN ?_ _))) hgI1 (by intro j hj; simp [Value.ownBlock] at hj; omega))
            | ((refine step_appS (by rfl) (.tmp 55) (.tmp 60) 29 26 5 40 _ (by rfl) Tryz.underlying29 infoCu rfl (by decide) v1.heap.size (.slice A1 D.length c1) D.length _ (by rfl) (by first | exact hoI1 | exact hoI1.alloc _ | exact own_drew (hoI1.alloc _)) _ 1 _ (encCu x) (by rfl) rfl (news1 (by first | exact heap_new1 _ _ | exact (hgI1.block _ (by simp <;> omega) (by simp [Value.ownBlock] <;> omega)).trans (heap_new2 _ _ _) | exact (hgI1.block _ (by simp <;> omega) (by simp [Value.ownBlock] <;> omega)).trans (heap_old2 _ _ _)) rfl) (encCu_one x) (D.length + 1) rfl _ rfl (by omega) (by decide) (Below.size (B := v1.heap.size) (by repeat (first | exact bref _ | exact hbI1 | exact hbI2 | exact hbI3 | (refine balloc ?_ _) | (refine bdrew ?_) | (refine bdrewN ?_ _)))) ?_); intro A2 c2 w2 hoI2 hgI2 hlI2; have hbI2 : Below v1.heap.size v1 w2 := bgrown (by repeat (first | exact bref _ | exact hbI1 | exact hbI2 | exact hbI3 | (refine balloc ?_ _) | (refine bdrew ?_) | (refine bdrewN ?_ _))) hgI2 (row_mine hoI1))
            | ((refine step_appS (by rfl) (.tmp 61) (.tmp 64) 29 26 5 40 _ (by rfl) Tryz.underlying29 infoCu rfl (by decide) v1.heap.size (.slice A2 (D.length + 1) c2) (D.length + 1) _ (by rfl) (by first | exact hoI2 | exact own_drew hoI2) _ _ _ [] (by rfl) (by simp) (fun j u hj => by simp at hj) (fun u hu => by simp at hu) ((D.length + 1)) (by first | exact HN.out | (simp; done) | (have := HN.out; simpa using this)) _ HY.out (by have := HN.out; omega) (by decide) (Below.size (B := v1.heap.size) (by repeat (first | exact bref _ | exact hbI1 | exact hbI2 | exact hbI3 | (refine balloc ?_ _) | (refine bdrew ?_) | (refine bdrewN ?_ _)))) ?_); intro A3 c3 w3 hoI3 hgI3 hlI3; have hbI3 : Below v1.heap.size v1 w3 := bgrown (by repeat (first | exact bref _ | exact hbI1 | exact hbI2 | exact hbI3 | (refine balloc ?_ _) | (refine bdrew ?_) | (refine bdrewN ?_ _))) hgI3 (row_mine hoI2))
            | fail)
                  all_goals
                    obtain ⟨g3, rfl⟩ : ∃ g3, A3 = some ⟨g3, 0, none⟩ := by
                      rcases own_form hoI3 with ⟨_, h0, _⟩ | h
                      · omega
                      · exact h
                    go_wp2_with fail
                    go_roundw
                    case rel => exact ⟨i + 1, D.take D.length ++ [x] ++ D.drop D.length, g3, c3, by omega, by go_num, by rw [HLN.out], by rw [HLN.out]; have := HDl.out; omega, Lib.hid (HINS.out HCO.out), bstep (bstep (bstep hbr hbk) hb1) hbI3, bstep (bstep (bstep hb2 hbk) hb1) hbI3, Lib.hid (by rw [HLN.out]; exact own_base hoI3 (Nat.le_trans hbr.size (Nat.le_trans hbk.size hb1.size)))⟩
                    case measure => simp [intOf]; omega
        · obtain rfl : i = L.length := by omega
          rw [List.take_length] at HD
          have HF := Lib.hid (HE.out.trans (srt_law HD.out.2 HD.out.1 HTIE.out).symm)
          go_wp2_with fail
          go_ret2
          rw [HF.out, HK.out]
          exact ⟨some ⟨g, 0, none⟩, c', rfl, HO.out, hbr⟩
    · have hgt := HBP.out.2 (by omega)
      have hk : lcOK l m side = false := by rw [HOK.out]; simp; omega
      have HE := Lib.hid (HNO.out hk)
      have HK := Lib.hid hk
      clear hk HBP HOK HY HNO
      generalize specC l side 10 m = L at HALL HLEN hgt
      have h64' : (64 : Int) < (L.length : Int) := by omega
      go_enter Tryz.func7, Tryz.ntmps7
      go_wp2_with (first | (go_at_call 34; (with_reducible refine (l12Asked_any l m side _ _ _ (HR.out.below (balloc (balloc (bref _) _) _)) hlen).mono ?_); rw [h1]; rintro e w1 ⟨rfl, hb1⟩; obtain ⟨c0, c1, c2, c3, c4⟩ := cellCu (by simp) HB0.out (bstep (balloc (bref _) _) hb1)) | (go_at_call 35; (with_reducible refine (HALL.out _ (HR.out.below (bstep (balloc (balloc (bref _) _) _) hb1))).mono ?_); rintro e w2 ⟨A2, c2', rfl, ho2, hb2⟩))
      go_ret2
      rw [HE.out, HK.out]
      exact ⟨some ⟨w.heap.size + 1, 0, none⟩, 0, rfl, own_below (own_below (by have h := own_made (E := 26) (K := 5) (n := 0) (cur := #[]) (w := w.alloc (.cells #[.int .i64 m.ws, .int .i64 m.so, .int .i64 m.sd, .int .i64 m.fr, .int .i64 m.to_] 26)) rfl (Nat.zero_le _); simp only [World.size_alloc] at h; exact own_base h (by omega)) hb1) hb2, bstep (bstep (balloc (balloc (bref _) _) _) hb1) hb2⟩
end Go.Proofs.YtaobbkiepggafaaGreat
