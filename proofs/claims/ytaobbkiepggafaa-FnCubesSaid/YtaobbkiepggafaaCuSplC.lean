/-
  SplitCube and ReachOf: impl and spec compute one thing.
-/
import Derived.Test.YtaobbkiepggafaaCuSpI
import Derived.Test.YtaobbkiepggafaaCuLoc
import Derived.Test.YtaobbkiepggafaaCuRch
namespace Go.Proofs.Ytaobbkiepggafaa
set_option linter.unusedVariables false
set_option linter.unusedSimpArgs false
set_option linter.unnecessarySimpa false
open Go.RowKit
attribute [local go_sem] ext_cell ext_frozen

def splOK (m : Cu) : Bool := cubeB m && !(m.sd == 1)
def splL (m : Cu) : List Cu := if splOK m then chC m else []
theorem splL_le (m : Cu) : (splL m).length ≤ 4 := by
  unfold splL
  split
  · unfold chC chN
    exact Nat.le_trans (List.length_filter_le _ _) (by simp)
  · simp
set_option maxRecDepth 100000 in
set_option maxHeartbeats 2000000 in
theorem iSpl_any (m : Cu) (w : World) :
    Calls Try.prog 22 #[.agg #[.int .i64 m.ws, .int .i64 m.so, .int .i64 m.sd, .int .i64 m.fr, .int .i64 m.to_]] w (MkS2 37 5 (splL m).length ((splL m).flatMap encCu) (splOK m) w) := by
  have HB0 := Lib.hid (boxCu w 37 m)
  cases hc : cubeB m
  case false =>
    have e1 : splOK m = false := by simp [splOK, hc]
    have e2 : splL m = [] := by simp [splL, e1]
    rw [e1, e2]
    clear e1 e2
    obtain ⟨c0, c1, c2, c3, c4⟩ := HB0.out
    go_enter Try.func22, Try.ntmps22
    go_wp2_with (go_at_call 26; (with_reducible refine (isCube_any m _).mono ?_); rw [hc]; rintro e w1 ⟨rfl, hb1⟩)
    go_ret2
    exact ⟨none, 0, rfl, World.ownsRow_nil _ _ _ _, bstep (balloc (bref w) _) hb1⟩
  case true =>
    by_cases h1 : m.sd = 1
    · have e1 : splOK m = false := by simp [splOK, h1]
      have e2 : splL m = [] := by simp [splL, e1]
      rw [e1, e2]
      clear e1 e2
      have h1b : (m.sd == 1) = true := by simpa using h1
      clear h1
      obtain ⟨c0, c1, c2, c3, c4⟩ := HB0.out
      go_enter Try.func22, Try.ntmps22
      go_wp2_with fail
      refine (isCube_any m _).mono ?_; rw [hc]; rintro e w1 ⟨rfl, hb1⟩
      obtain ⟨d0, d1, d2, d3, d4⟩ := cellCu (by simp) HB0.out hb1
      go_wp2_with fail
      go_ret2
      exact ⟨none, 0, rfl, World.ownsRow_nil _ _ _ _, bstep (balloc (bref w) _) hb1⟩
    · have e1 : splOK m = true := by simp [splOK, hc, h1]
      have e2 : splL m = chC m := by simp [splL, e1]
      rw [e1, e2]
      clear e1 e2
      have hb := cubeB_bounds hc
      have h1b : (m.sd == 1) = false := by simpa using h1
      have HC := Lib.hid hc
      have h2 : 2 ≤ m.sd := by omega
      clear h1
      obtain ⟨c0, c1, c2, c3, c4⟩ := HB0.out
      go_enter Try.func22, Try.ntmps22
      go_wp2_with fail
      refine (isCube_any m _).mono ?_; rw [hc]; rintro e w1 ⟨rfl, hb1⟩
      obtain ⟨d0, d1, d2, d3, d4⟩ := cellCu (by simp) HB0.out hb1
      clear hc
      go_wp2_with fail
      refine (split_any m _ HC.out h2).mono ?_; rintro e w2 ⟨A2, c5, rfl, ho2, hb2⟩
      have HO := Lib.hid ho2
      clear ho2
      go_wp2_with fail
      go_ret2
      exact ⟨A2, c5, rfl, own_base HO.out (bstep (balloc (bref w) _) hb1).size, bstep (bstep (balloc (bref w) _) hb1) hb2⟩
set_option maxRecDepth 100000 in
set_option maxHeartbeats 2000000 in
theorem sSpl_any (m : Cu) (w : World) :
    Calls Try.prog 23 #[.agg #[.int .i64 m.ws, .int .i64 m.so, .int .i64 m.sd, .int .i64 m.fr, .int .i64 m.to_]] w (MkS2 37 5 (splL m).length ((splL m).flatMap encCu) (splOK m) w) := by
  have HB0 := Lib.hid (boxCu w 37 m)
  cases hc : cubeB m
  case false =>
    have e1 : splOK m = false := by simp [splOK, hc]
    have e2 : splL m = [] := by simp [splL, e1]
    rw [e1, e2]
    clear e1 e2
    obtain ⟨c0, c1, c2, c3, c4⟩ := HB0.out
    go_enter Try.func23, Try.ntmps23
    go_wp2_with (go_at_call 49; (with_reducible refine (l12Good_any m _).mono ?_); rw [hc]; rintro e w1 ⟨rfl, hb1⟩)
    go_ret2
    exact ⟨some ⟨w1.heap.size, 0, none⟩, 0, rfl, own_base (own_made (cur := #[]) rfl (Nat.zero_le _)) (bstep (balloc (bref w) _) hb1).size, balloc (bstep (balloc (bref w) _) hb1) _⟩
  case true =>
    by_cases h1 : m.sd = 1
    · have e1 : splOK m = false := by simp [splOK, h1]
      have e2 : splL m = [] := by simp [splL, e1]
      rw [e1, e2]
      clear e1 e2
      have h1b : (m.sd == 1) = true := by simpa using h1
      clear h1
      obtain ⟨c0, c1, c2, c3, c4⟩ := HB0.out
      go_enter Try.func23, Try.ntmps23
      go_wp2_with fail
      refine (l12Good_any m _).mono ?_; rw [hc]; rintro e w1 ⟨rfl, hb1⟩
      obtain ⟨d0, d1, d2, d3, d4⟩ := cellCu (by simp) HB0.out hb1
      go_wp2_with fail
      go_ret2
      exact ⟨some ⟨w1.heap.size, 0, none⟩, 0, rfl, own_base (own_made (cur := #[]) rfl (Nat.zero_le _)) (bstep (balloc (bref w) _) hb1).size, balloc (bstep (balloc (bref w) _) hb1) _⟩
    · have e1 : splOK m = true := by simp [splOK, hc, h1]
      have e2 : splL m = chC m := by simp [splL, e1]
      rw [e1, e2]
      clear e1 e2
      have hb := cubeB_bounds hc
      have h1b : (m.sd == 1) = false := by simpa using h1
      have HC := Lib.hid hc
      have h2 : 2 ≤ m.sd := by omega
      clear h1
      obtain ⟨c0, c1, c2, c3, c4⟩ := HB0.out
      go_enter Try.func23, Try.ntmps23
      go_wp2_with fail
      refine (l12Good_any m _).mono ?_; rw [hc]; rintro e w1 ⟨rfl, hb1⟩
      obtain ⟨d0, d1, d2, d3, d4⟩ := cellCu (by simp) HB0.out hb1
      clear hc
      go_wp2_with fail
      refine (l12Split_any m _ HC.out h2).mono ?_; rintro e w2 ⟨A2, c5, rfl, ho2, hb2⟩
      have HO := Lib.hid ho2
      clear ho2
      go_wp2_with fail
      go_ret2
      exact ⟨A2, c5, rfl, own_base HO.out (bstep (balloc (bref w) _) hb1).size, bstep (bstep (balloc (bref w) _) hb1) hb2⟩
def rchO (m : Cu) (x y : Int) : Int × Int × Bool := if cubeB m && placeB x y then ((rchR m x y).1, (rchR m x y).2, true) else (0, 0, false)
set_option maxRecDepth 100000 in
set_option maxHeartbeats 2000000 in
theorem iRch_any (m : Cu) (x y : Int) (w : World) :
    Calls Try.prog 25 #[.agg #[.int .i64 m.ws, .int .i64 m.so, .int .i64 m.sd, .int .i64 m.fr, .int .i64 m.to_], .int .i64 x, .int .i64 y] w fun e w' => e = .returned (.tuple #[.int .i64 (rchO m x y).1, .int .i64 (rchO m x y).2.1, .bool (rchO m x y).2.2]) ∧ Below w.heap.size w w' := by
  have HB0 := Lib.hid (boxCu w 37 m)
  cases hc : cubeB m <;> cases hp : placeB x y
  case true.true =>
    have e1 : rchO m x y = ((rchR m x y).1, (rchR m x y).2, true) := by simp [rchO, hc, hp]
    rw [e1]
    clear e1
    have HC := Lib.hid hc
    have hxy : (0 ≤ x ∧ x ≤ 999) ∧ (0 ≤ y ∧ y ≤ 999) := by
      unfold placeB at hp
      rw [Bool.and_eq_true] at hp
      exact ⟨inB_true hp.1, inB_true hp.2⟩
    obtain ⟨c0, c1, c2, c3, c4⟩ := HB0.out
    go_enter Try.func25, Try.ntmps25
    go_wp2_with fail
    refine (isCube_any m _).mono ?_; rw [hc]; rintro e w1 ⟨rfl, hb1⟩
    obtain ⟨d0, d1, d2, d3, d4⟩ := cellCu (by simp) HB0.out hb1
    clear hc
    go_wp2_with fail
    refine (isPlace_any _ _ _).mono ?_; rw [hp]; rintro e w' ⟨rfl, rfl⟩
    clear hp
    go_wp2_with fail
    refine (reach_any m x y _ HC.out hxy.1 hxy.2).mono ?_; rintro e w2 ⟨rfl, hb2⟩
    go_wp2_with fail
    go_ret3
    exact ⟨rfl, bstep (bstep (balloc (bref w) _) hb1) hb2⟩
  all_goals
    have e1 : rchO m x y = (0, 0, false) := by simp [rchO, hc, hp]
    rw [e1]
    clear e1
    obtain ⟨c0, c1, c2, c3, c4⟩ := HB0.out
    go_enter Try.func25, Try.ntmps25
    go_wp2_with (first | (go_at_call 26; (with_reducible refine (isCube_any m _).mono ?_); rw [hc]; rintro e w1 ⟨rfl, hb1⟩) | (go_at_call 54; (with_reducible refine (isPlace_any _ _ _).mono ?_); rw [hp]; rintro e w' ⟨rfl, rfl⟩))
    go_ret3
    exact ⟨rfl, bstep (balloc (bref w) _) hb1⟩
set_option maxRecDepth 100000 in
set_option maxHeartbeats 2000000 in
theorem sRch_any (m : Cu) (x y : Int) (w : World) :
    Calls Try.prog 29 #[.agg #[.int .i64 m.ws, .int .i64 m.so, .int .i64 m.sd, .int .i64 m.fr, .int .i64 m.to_], .int .i64 x, .int .i64 y] w fun e w' => e = .returned (.tuple #[.int .i64 (rchO m x y).1, .int .i64 (rchO m x y).2.1, .bool (rchO m x y).2.2]) ∧ Below w.heap.size w w' := by
  have HB0 := Lib.hid (boxCu w 37 m)
  cases hc : cubeB m <;> cases hp : placeB x y
  case true.true =>
    have e1 : rchO m x y = ((rchR m x y).1, (rchR m x y).2, true) := by simp [rchO, hc, hp]
    rw [e1]
    clear e1
    have HC := Lib.hid hc
    have hxy : (0 ≤ x ∧ x ≤ 999) ∧ (0 ≤ y ∧ y ≤ 999) := by
      unfold placeB at hp
      rw [Bool.and_eq_true] at hp
      exact ⟨inB_true hp.1, inB_true hp.2⟩
    obtain ⟨c0, c1, c2, c3, c4⟩ := HB0.out
    go_enter Try.func29, Try.ntmps29
    go_wp2_with fail
    refine (l12Good_any m _).mono ?_; rw [hc]; rintro e w1 ⟨rfl, hb1⟩
    obtain ⟨d0, d1, d2, d3, d4⟩ := cellCu (by simp) HB0.out hb1
    clear hc
    go_wp2_with fail
    refine (l2Place_any _ _ _).mono ?_; rw [hp]; rintro e w' ⟨rfl, rfl⟩
    clear hp
    go_wp2_with fail
    refine (l12Reach_any m x y _ HC.out hxy.1 hxy.2).mono ?_; rintro e w2 ⟨rfl, hb2⟩
    go_wp2_with fail
    go_ret3
    exact ⟨rfl, bstep (bstep (balloc (bref w) _) hb1) hb2⟩
  all_goals
    have e1 : rchO m x y = (0, 0, false) := by simp [rchO, hc, hp]
    rw [e1]
    clear e1
    obtain ⟨c0, c1, c2, c3, c4⟩ := HB0.out
    go_enter Try.func29, Try.ntmps29
    go_wp2_with (first | (go_at_call 49; (with_reducible refine (l12Good_any m _).mono ?_); rw [hc]; rintro e w1 ⟨rfl, hb1⟩) | (go_at_call 66; (with_reducible refine (l2Place_any _ _ _).mono ?_); rw [hp]; rintro e w' ⟨rfl, rfl⟩))
    go_ret3
    exact ⟨rfl, bstep (balloc (bref w) _) hb1⟩
end Go.Proofs.Ytaobbkiepggafaa
