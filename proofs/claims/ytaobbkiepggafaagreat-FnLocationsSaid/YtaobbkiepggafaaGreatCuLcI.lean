/-
  impl.LocateIn and ProvesNone.
-/
import Derived.Test.YtaobbkiepggafaaGreatCuLcS
import Derived.Test.YtaobbkiepggafaaGreatCuLocI
namespace Go.Proofs.YtaobbkiepggafaaGreat
set_option linter.unusedVariables false
set_option linter.unusedSimpArgs false
set_option linter.unnecessarySimpa false
open Go.RowKit
attribute [local go_sem] ext_cell ext_frozen

theorem locD_nil (l : List Ar) (side : Int) (m : Cu) : locD l side 10 m [] = (allC l side 10 m).take 65 := by simp [locD]
set_option maxRecDepth 100000 in
set_option maxHeartbeats 4000000 in
theorem iLc_any (l : List Ar) (m : Cu) (side : Int) (A : Option Addr) (c : Nat) (w : World) (hr : RowAt 5 encAr w A l) (hlen : l.length ≤ 2097152) :
    Calls Tryz.prog 6 #[.slice A l.length c, .agg #[.int .i64 m.ws, .int .i64 m.so, .int .i64 m.sd, .int .i64 m.fr, .int .i64 m.to_], .int .i64 side] w (MkS2 26 5 (lcL l m side).length ((lcL l m side).flatMap encCu) (lcOK l m side) w) := by
  have HR := Lib.hid hr
  have HB0 := Lib.hid (boxCu w 26 m)
  cases h1 : locB l
  · have hk : lcOK l m side = false := by simp [lcOK, askB, h1]
    have HE := Lib.hid (lcL_no hk)
    have HK := Lib.hid hk
    clear hk hr
    go_enter Tryz.func6, Tryz.ntmps6
    go_wp2_with (go_at_call 27; (with_reducible refine (iLoc_any l _ _ _ (HR.out.below (balloc (bref _) _)) hlen).mono ?_); rw [h1]; rintro e w1 ⟨rfl, hb1⟩)
    go_ret2
    rw [HE.out, HK.out]
    exact ⟨none, 0, rfl, World.ownsRow_nil _ _ _ _, bstep (balloc (bref _) _) hb1⟩
  cases h2 : cubeB m
  · have hk : lcOK l m side = false := by simp [lcOK, askB, h2]
    have HE := Lib.hid (lcL_no hk)
    have HK := Lib.hid hk
    clear hk hr
    go_enter Tryz.func6, Tryz.ntmps6
    go_wp2_with (first | (go_at_call 27; (with_reducible refine (iLoc_any l _ _ _ (HR.out.below (balloc (bref _) _)) hlen).mono ?_); rw [h1]; rintro e w1 ⟨rfl, hb1⟩; obtain ⟨c0, c1, c2, c3, c4⟩ := cellCu (by simp) HB0.out hb1) | (go_at_call 9; (with_reducible refine (isCube_any m _).mono ?_); rw [h2]; rintro e w2 ⟨rfl, hb2⟩; obtain ⟨c0, c1, c2, c3, c4⟩ := cellCu (by simp) HB0.out (bstep hb1 hb2)))
    go_ret2
    rw [HE.out, HK.out]
    exact ⟨none, 0, rfl, World.ownsRow_nil _ _ _ _, bstep (bstep (balloc (bref _) _) hb1) hb2⟩
  cases h3 : sideB side
  · have hk : lcOK l m side = false := by simp [lcOK, askB, h3]
    have HE := Lib.hid (lcL_no hk)
    have HK := Lib.hid hk
    clear hk hr
    go_enter Tryz.func6, Tryz.ntmps6
    go_wp2_with (first | (go_at_call 27; (with_reducible refine (iLoc_any l _ _ _ (HR.out.below (balloc (bref _) _)) hlen).mono ?_); rw [h1]; rintro e w1 ⟨rfl, hb1⟩; obtain ⟨c0, c1, c2, c3, c4⟩ := cellCu (by simp) HB0.out hb1) | (go_at_call 9; (with_reducible refine (isCube_any m _).mono ?_); rw [h2]; rintro e w2 ⟨rfl, hb2⟩; obtain ⟨c0, c1, c2, c3, c4⟩ := cellCu (by simp) HB0.out (bstep hb1 hb2)) | (go_at_call 28; (with_reducible refine (isSide_any _ _).mono ?_); rintro e w' ⟨rfl, rfl⟩))
    go_ret2
    rw [HE.out, HK.out]
    exact ⟨none, 0, rfl, World.ownsRow_nil _ _ _ _, bstep (bstep (balloc (bref _) _) hb1) hb2⟩
  by_cases h4 : side ≤ m.sd
  case neg =>
    have hk : lcOK l m side = false := by simp [lcOK, askB, h4]
    have HE := Lib.hid (lcL_no hk)
    have HK := Lib.hid hk
    have h4' : m.sd < side := by omega
    clear hk hr
    go_enter Tryz.func6, Tryz.ntmps6
    go_wp2_with (first | (go_at_call 27; (with_reducible refine (iLoc_any l _ _ _ (HR.out.below (balloc (bref _) _)) hlen).mono ?_); rw [h1]; rintro e w1 ⟨rfl, hb1⟩; obtain ⟨c0, c1, c2, c3, c4⟩ := cellCu (by simp) HB0.out hb1) | (go_at_call 9; (with_reducible refine (isCube_any m _).mono ?_); rw [h2]; rintro e w2 ⟨rfl, hb2⟩; obtain ⟨c0, c1, c2, c3, c4⟩ := cellCu (by simp) HB0.out (bstep hb1 hb2)) | (go_at_call 28; (with_reducible refine (isSide_any _ _).mono ?_); rintro e w' ⟨rfl, rfl⟩))
    go_ret2
    rw [HE.out, HK.out]
    exact ⟨none, 0, rfl, World.ownsRow_nil _ _ _ _, bstep (bstep (balloc (bref _) _) hb1) hb2⟩
  case pos =>
    have ha : askB l m side = true := by simp [askB, h1, h2, h3, h4]
    have hs := sideB_bd h3
    have HG := goodAr_all (l := l) (by unfold locB at h1; rw [Bool.and_eq_true] at h1; exact h1.1)
    have HTIE := Lib.hid (tie_all (l := l) (d := 10) hs.1 h2 h4 h3)
    have HOK := Lib.hid (show lcOK l m side = decide ((allC l side 10 m).length ≤ 64) by simp [lcOK, ha])
    have HY := Lib.hid (fun h : lcOK l m side = true => lcL_yes h)
    have HNO := Lib.hid (fun h : lcOK l m side = false => lcL_no h)
    have h4' : ¬ m.sd < side := by omega
    have HLOC := Lib.hid (fun (c3 : Nat) (A3 : Option Addr) (W : World) (hW : Below w.heap.size w W) (ho : W.ownsRow w.heap.size 26 5 (.slice A3 0 c3) 0 []) => locate_any l A c side w hr hlen HG h3 10 m [] A3 c3 W (Nat.le_refl _) h2 h4 (sd_fuel h2) (by simp) hW ho)
    have HLD := Lib.hid (locD_nil l side m)
    clear hr ha HG
    generalize allC l side 10 m = L at HTIE HOK HY HLD
    generalize locD l side 10 m [] = E at HLOC HLD
    by_cases h64 : L.length ≤ 64
    · rw [List.take_of_length_le (by omega)] at HLD
      have hE := HLD.out
      subst hE
      have hk : lcOK l m side = true := by rw [HOK.out]; simp [h64]
      have HE := Lib.hid (HY.out hk)
      have HK := Lib.hid hk
      clear hk HOK HY HNO HLD
      have hEn : ¬ (64 : Int) < (E.length : Int) := by omega
      have h64d : decide ((64 : Int) < (E.length : Int)) = false := by simp; omega
      go_enter Tryz.func6, Tryz.ntmps6
      go_wp2_with (first | (go_at_call 27; (with_reducible refine (iLoc_any l _ _ _ (HR.out.below (balloc (bref _) _)) hlen).mono ?_); rw [h1]; rintro e w1 ⟨rfl, hb1⟩; obtain ⟨c0, c1, c2, c3, c4⟩ := cellCu (by simp) HB0.out hb1) | (go_at_call 9; (with_reducible refine (isCube_any m _).mono ?_); rw [h2]; rintro e w2 ⟨rfl, hb2⟩; obtain ⟨c0, c1, c2, c3, c4⟩ := cellCu (by simp) HB0.out (bstep hb1 hb2)) | (go_at_call 28; (with_reducible refine (isSide_any _ _).mono ?_); rintro e w' ⟨rfl, rfl⟩) | (go_at_call 29; refine (HLOC.out _ _ _ (balloc (bstep (bstep (balloc (bref _) _) hb1) hb2) _) (own_base (own_made (cur := #[]) rfl (Nat.zero_le _)) (bstep (bstep (balloc (bref w) _) hb1) hb2).size)).mono ?_; rintro e w3 ⟨A3, c3, rfl, ho3, hg3, hq3, hn3⟩))
      have hb3 : Below w.heap.size w w3 := bgrown (balloc (bstep (bstep (balloc (bref w) (.cells #[.int .i64 m.ws, .int .i64 m.so, .int .i64 m.sd, .int .i64 m.fr, .int .i64 m.to_] 26)) hb1) hb2) (.cells #[] 26)) hg3 (by
        intro k hk
        have := (bstep (bstep (balloc (bref w) (.cells #[.int .i64 m.ws, .int .i64 m.so, .int .i64 m.sd, .int .i64 m.fr, .int .i64 m.to_] 26)) hb1) hb2).size
        simp [Value.ownBlock] at hk
        omega)
      obtain ⟨g3, rfl⟩ : ∃ g3, A3 = some ⟨g3, 0, none⟩ := by
        rcases own_form ho3 with ⟨rfl, _, _⟩ | h
        · exact absurd rfl (hn3 (by simp [Value.ownBlock]))
        · exact h
      have HS := Lib.hid (sortC_any E g3 c3 w.heap.size w3 ho3 (by omega))
      have HO3 := Lib.hid ho3
      clear ho3 hg3 hq3 hn3 hb1 hb2
      go_wp2_with fail
      refine HS.out.mono ?_; rintro e w8 ⟨rfl, S, hp, hsr, hSl, ho8, hg8⟩
      have b8 := bgrown hb3 hg8 (fun k hk => row_mine HO3.out k hk)
      have HF := Lib.hid (HE.out.trans (srt_law hp hsr (fun x hx y hy => HTIE.out x hx y hy)).symm)
      have HO8 := Lib.hid ho8
      have HSL := Lib.hid hSl
      clear ho8 hp hsr hSl hg8 HS
      go_wp2_with fail
      go_ret2
      rw [HF.out, HK.out, HSL.out]
      exact ⟨some ⟨g3, 0, none⟩, c3, rfl, HO8.out, b8⟩
    · have hEl : E.length = 65 := by rw [HLD.out]; simp; omega
      have hk : lcOK l m side = false := by rw [HOK.out]; simp; omega
      have HE := Lib.hid (HNO.out hk)
      have HK := Lib.hid hk
      clear hk HOK HY HNO HLD
      have HELH := Lib.hid hEl
      have hEn : (64 : Int) < (E.length : Int) := by omega
      clear hEl
      go_enter Tryz.func6, Tryz.ntmps6
      go_wp2_with (first | (go_at_call 27; (with_reducible refine (iLoc_any l _ _ _ (HR.out.below (balloc (bref _) _)) hlen).mono ?_); rw [h1]; rintro e w1 ⟨rfl, hb1⟩; obtain ⟨c0, c1, c2, c3, c4⟩ := cellCu (by simp) HB0.out hb1) | (go_at_call 9; (with_reducible refine (isCube_any m _).mono ?_); rw [h2]; rintro e w2 ⟨rfl, hb2⟩; obtain ⟨c0, c1, c2, c3, c4⟩ := cellCu (by simp) HB0.out (bstep hb1 hb2)) | (go_at_call 28; (with_reducible refine (isSide_any _ _).mono ?_); rintro e w' ⟨rfl, rfl⟩) | (go_at_call 29; refine (HLOC.out _ _ _ (balloc (bstep (bstep (balloc (bref _) _) hb1) hb2) _) (own_base (own_made (cur := #[]) rfl (Nat.zero_le _)) (bstep (bstep (balloc (bref w) _) hb1) hb2).size)).mono ?_; rintro e w3 ⟨A3, c3, rfl, ho3, hg3, hq3, hn3⟩))
      go_ret2
      rw [HE.out, HK.out]
      exact ⟨none, 0, rfl, World.ownsRow_nil _ _ _ _, bgrown (balloc (bstep (bstep (balloc (bref w) (.cells #[.int .i64 m.ws, .int .i64 m.so, .int .i64 m.sd, .int .i64 m.fr, .int .i64 m.to_] 26)) hb1) hb2) (.cells #[] 26)) hg3 (by
        intro k hk
        have := (bstep (bstep (balloc (bref w) (.cells #[.int .i64 m.ws, .int .i64 m.so, .int .i64 m.sd, .int .i64 m.fr, .int .i64 m.to_] 26)) hb1) hb2).size
        simp [Value.ownBlock] at hk
        omega)⟩
def prvR (l : List Ar) (m : Cu) (side : Int) : Bool × Bool := (lcOK l m side && decide ((lcL l m side).length = 0), lcOK l m side)
set_option maxRecDepth 100000 in
set_option maxHeartbeats 2000000 in
theorem iPrv_any (l : List Ar) (m : Cu) (side : Int) (A : Option Addr) (c : Nat) (w : World) (hr : RowAt 5 encAr w A l) (hlen : l.length ≤ 2097152) :
    Calls Tryz.prog 11 #[.slice A l.length c, .agg #[.int .i64 m.ws, .int .i64 m.so, .int .i64 m.sd, .int .i64 m.fr, .int .i64 m.to_], .int .i64 side] w fun e w' => e = .returned (.tuple #[.bool (prvR l m side).1, .bool (prvR l m side).2]) ∧ Below w.heap.size w w' := by
  have HR := Lib.hid hr
  have HL := Lib.hid (fun W h => iLc_any l m side A c W h hlen)
  clear hr
  cases hk : lcOK l m side
  all_goals
    have HF := Lib.hid (show prvR l m side = (lcOK l m side && decide ((lcL l m side).length = 0), lcOK l m side) from rfl)
    rw [hk] at HF HL
    have hll := lcL_le l m side
    generalize lcL l m side = E at HF HL hll
    go_enter Tryz.func11, Tryz.ntmps11
    go_wp2_with (go_at_call 6; (with_reducible refine (HL.out _ (HR.out.below (balloc (bref _) _))).mono ?_); rintro e w1 ⟨A1, c1, rfl, ho1, hb1⟩; clear ho1)
    go_ret2
    exact ⟨ret_bb (HF.out.trans (by first | (congr 1; done) | (congr 1; rw [Bool.eq_iff_iff]; simp; done) | (congr 1; rw [Bool.eq_iff_iff]; simp; omega))), bstep (balloc (bref _) _) hb1⟩
set_option maxRecDepth 100000 in
set_option maxHeartbeats 2000000 in
theorem sPrv_any (l : List Ar) (m : Cu) (side : Int) (A : Option Addr) (c : Nat) (w : World) (hr : RowAt 5 encAr w A l) (hlen : l.length ≤ 2097152) :
    Calls Tryz.prog 12 #[.slice A l.length c, .agg #[.int .i64 m.ws, .int .i64 m.so, .int .i64 m.sd, .int .i64 m.fr, .int .i64 m.to_], .int .i64 side] w fun e w' => e = .returned (.tuple #[.bool (prvR l m side).1, .bool (prvR l m side).2]) ∧ Below w.heap.size w w' := by
  have HR := Lib.hid hr
  have HL := Lib.hid (fun W h => sLc_any l m side A c W h hlen)
  clear hr
  cases hk : lcOK l m side
  all_goals
    have HF := Lib.hid (show prvR l m side = (lcOK l m side && decide ((lcL l m side).length = 0), lcOK l m side) from rfl)
    rw [hk] at HF HL
    have hll := lcL_le l m side
    generalize lcL l m side = E at HF HL hll
    go_enter Tryz.func12, Tryz.ntmps12
    go_wp2_with (go_at_call 7; (with_reducible refine (HL.out _ (HR.out.below (balloc (bref _) _))).mono ?_); rintro e w1 ⟨A1, c1, rfl, ho1, hb1⟩; clear ho1)
    go_ret2
    exact ⟨ret_bb (HF.out.trans (by first | (congr 1; done) | (congr 1; rw [Bool.eq_iff_iff]; simp; done) | (congr 1; rw [Bool.eq_iff_iff]; simp; omega))), bstep (balloc (bref _) _) hb1⟩
end Go.Proofs.YtaobbkiepggafaaGreat
