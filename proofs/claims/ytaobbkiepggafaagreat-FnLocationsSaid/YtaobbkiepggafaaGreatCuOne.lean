/-
  One cube: spec's and impl's test answer alike.
-/
import Derived.Test.YtaobbkiepggafaaGreatArOne
import Derived.Test.YtaobbkiepggafaaGreatCu0
namespace Go.Proofs.YtaobbkiepggafaaGreat
set_option linter.unusedVariables false
set_option linter.unusedSimpArgs false
set_option linter.unnecessarySimpa false
open Go.RowKit
attribute [local go_sem] ext_cell ext_frozen

def sideB (s : Int) : Bool := decide (s = 1 ∨ s = 2 ∨ s = 4 ∨ s = 8 ∨ s = 16 ∨ s = 32 ∨ s = 64 ∨ s = 128 ∨ s = 256 ∨ s = 512)
theorem sideB_iff {s : Int} : sideB s = true ↔ (s = 1 ∨ s = 2 ∨ s = 4 ∨ s = 8 ∨ s = 16 ∨ s = 32 ∨ s = 64 ∨ s = 128 ∨ s = 256 ∨ s = 512) := by simp only [sideB, decide_eq_true_eq]
theorem sideB_bd {s : Int} (h : sideB s = true) : 1 ≤ s ∧ s ≤ 512 := by rw [sideB_iff] at h; omega
theorem and_tab : (List.range 513).all (fun n => n == 0 || (bits BinOp.and IntKind.i64 (n : Int) ((n : Int) - 1) == 0) == sideB (n : Int)) = true := by decide +kernel
theorem and_side {s : Int} (h : inB s 1 512 = true) : (bits BinOp.and IntKind.i64 s (s - 1) == 0) = sideB s := by
  have hb := inB_true h
  have h1 := List.all_eq_true.1 and_tab s.toNat (by simp; omega)
  have e : ((s.toNat : Nat) : Int) = s := by omega
  have h2 : (s.toNat == 0) = false := by simp; omega
  simp only [h2, Bool.false_or, e] at h1
  exact eq_of_beq h1
theorem sideB_in {s : Int} (h : inB s 1 512 = false) : sideB s = false := by
  cases e : sideB s
  · rfl
  · have := sideB_bd e
    rw [show inB s 1 512 = true by unfold inB; simp; omega] at h
    cases h
theorem sideB_pow {s : Int} (h : sideB s = false) : s ≠ 1 ∧ s ≠ 2 ∧ s ≠ 4 ∧ s ≠ 8 ∧ s ≠ 16 ∧ s ≠ 32 ∧ s ≠ 64 ∧ s ≠ 128 ∧ s ≠ 256 ∧ s ≠ 512 := by
  have : ¬ sideB s = true := by rw [h]; simp
  rw [sideB_iff] at this
  omega

set_option maxHeartbeats 1000000 in
theorem isSide_any (s : Int) (w : World) :
    Calls Tryz.prog 28 #[.int .i64 s] w fun e w' => e = .returned (.bool (sideB s)) ∧ w = w' := by
  cases h : inB s 1 512
  · have HF := Lib.hid (sideB_in h)
    go_enter Tryz.func28, Tryz.ntmps28
    go_wp2_with (go_at_call 59; (with_reducible refine (in_any _ _ _ _).mono ?_); rintro e w' ⟨rfl, rfl⟩)
    go_ret
    exact ⟨ret_bool HF.out.symm, rfl⟩
  · have hb := inB_true h
    have hw : IntKind.i64.wrap (s - 1) = s - 1 := by rw [IntKind.wrap_i64]; omega
    have HF := Lib.hid (and_side h)
    go_enter Tryz.func28, Tryz.ntmps28
    go_wp2_with (go_at_call 59; (with_reducible refine (in_any _ _ _ _).mono ?_); rintro e w' ⟨rfl, rfl⟩)
    go_ret
    exact ⟨ret_bool HF.out, rfl⟩
set_option maxHeartbeats 2000000 in
theorem l12Side_any (s : Int) (w : World) :
    Calls Tryz.prog 64 #[.int .i64 s] w fun e w' => e = .returned (.bool (sideB s)) ∧ w = w' := by
  cases h : sideB s
  · have hs := sideB_pow h
    go_enter Tryz.func64, Tryz.ntmps64
    go_wp2_with fail
    go_loopw [3] (fun i wr => wr = w ∧ (i = .int .i64 1 ∨ i = .int .i64 2 ∨ i = .int .i64 4 ∨ i = .int .i64 8 ∨ i = .int .i64 16 ∨ i = .int .i64 32 ∨ i = .int .i64 64 ∨ i = .int .i64 128 ∨ i = .int .i64 256 ∨ i = .int .i64 512 ∨ i = .int .i64 1024)) (fun i _ => 1024 - (intOf i).toNat)
    case atStart => exact ⟨rfl, .inl rfl⟩
    case round =>
      obtain ⟨rfl, rfl | rfl | rfl | rfl | rfl | rfl | rfl | rfl | rfl | rfl | rfl⟩ := hrel
      all_goals
        go_wp2
        first
          | (go_ret; exact ⟨rfl, rfl⟩)
          | (go_roundw
             case rel => exact ⟨by trivial, by simp⟩
             case measure => simp [intOf])
  · have hs := sideB_iff.1 h
    go_enter Tryz.func64, Tryz.ntmps64
    go_wp2_with fail
    go_loopw [3] (fun i wr => wr = w ∧ ((i = .int .i64 1) ∨ (i = .int .i64 2 ∧ s ≠ 1) ∨ (i = .int .i64 4 ∧ s ≠ 1 ∧ s ≠ 2) ∨ (i = .int .i64 8 ∧ s ≠ 1 ∧ s ≠ 2 ∧ s ≠ 4) ∨ (i = .int .i64 16 ∧ s ≠ 1 ∧ s ≠ 2 ∧ s ≠ 4 ∧ s ≠ 8) ∨ (i = .int .i64 32 ∧ s ≠ 1 ∧ s ≠ 2 ∧ s ≠ 4 ∧ s ≠ 8 ∧ s ≠ 16) ∨ (i = .int .i64 64 ∧ 32 < s) ∨ (i = .int .i64 128 ∧ 64 < s) ∨ (i = .int .i64 256 ∧ 128 < s) ∨ (i = .int .i64 512 ∧ 256 < s))) (fun i _ => 1024 - (intOf i).toNat)
    case atStart => exact ⟨rfl, .inl rfl⟩
    case round =>
      obtain ⟨rfl, rfl | ⟨rfl, h1⟩ | ⟨rfl, h1⟩ | ⟨rfl, h1⟩ | ⟨rfl, h1⟩ | ⟨rfl, h1⟩ | ⟨rfl, h1⟩ | ⟨rfl, h1⟩ | ⟨rfl, h1⟩ | ⟨rfl, h1⟩⟩ := hrel
      case inr.inr.inr.inr.inr.inr.inr.inr.inr =>
        obtain rfl : s = 512 := by omega
        go_wp2
        go_ret
        exact ⟨rfl, rfl⟩
      all_goals
        go_wp2
        all_goals first
          | (go_ret; exact ⟨rfl, rfl⟩)
          | (go_roundw
             case rel => exact ⟨by trivial, by simp only [beq_eq_false_iff_ne, ne_eq] at *; simp; omega⟩
             case measure => simp [intOf])

def cubeB (m : Cu) : Bool := sideB m.sd && placeB m.ws m.so && decide (m.ws % m.sd = 0) && decide (m.so % m.sd = 0) && inB m.fr 0 1000000 && inB m.to_ 0 1000000 && decide (m.fr ≤ m.to_)
theorem emod_w {a s : Int} (hs : 1 ≤ s ∧ s ≤ 512) : 0 ≤ a % s ∧ a % s ≤ 511 := by
  have h1 := Int.emod_nonneg a (show s ≠ 0 by omega)
  have h2 := Int.emod_lt_of_pos a (show 0 < s by omega)
  omega
set_option maxRecDepth 100000 in
set_option maxHeartbeats 2000000 in
theorem isCube_any (m : Cu) (w : World) :
    Calls Tryz.prog 9 #[.agg #[.int .i64 m.ws, .int .i64 m.so, .int .i64 m.sd, .int .i64 m.fr, .int .i64 m.to_]] w fun e w' => e = .returned (.bool (cubeB m)) ∧ Below w.heap.size w w' := by
  cases h1 : sideB m.sd
  · have HF := Lib.hid (show cubeB m = false by simp [cubeB, h1])
    go_enter Tryz.func9, Tryz.ntmps9
    go_wp2_with (go_at_call 28; (with_reducible refine (isSide_any _ _).mono ?_); rintro e w' ⟨rfl, rfl⟩)
    go_ret
    exact ⟨ret_bool HF.out.symm, (by repeat (first | exact bref _ | (refine balloc ?_ _) | (refine bdrew ?_) | (refine bdrewN ?_ _) | (refine bstep ?_ (by assumption))))⟩
  have hs := sideB_bd h1
  cases h2 : placeB m.ws m.so
  · have HF := Lib.hid (show cubeB m = false by simp [cubeB, h2])
    go_enter Tryz.func9, Tryz.ntmps9
    go_wp2_with (first | (go_at_call 28; (with_reducible refine (isSide_any _ _).mono ?_); rintro e w' ⟨rfl, rfl⟩) | (go_at_call 37; (with_reducible refine (isPlace_any _ _ _).mono ?_); rintro e w' ⟨rfl, rfl⟩))
    go_ret
    exact ⟨ret_bool HF.out.symm, (by repeat (first | exact bref _ | (refine balloc ?_ _) | (refine bdrew ?_) | (refine bdrewN ?_ _) | (refine bstep ?_ (by assumption))))⟩
  obtain ⟨hp1, hp2⟩ := placeB_true h2
  have hm1 := emod_w (a := m.ws) hs
  have hm2 := emod_w (a := m.so) hs
  have hsz : m.sd ≠ 0 := by omega
  by_cases h3 : m.ws % m.sd = 0
  · by_cases h4 : m.so % m.sd = 0
    · cases h5 : inB m.fr 0 1000000 <;> cases h6 : inB m.to_ 0 1000000
      all_goals
        have HF := Lib.hid (show cubeB m = (inB m.fr 0 1000000 && inB m.to_ 0 1000000 && decide (m.fr ≤ m.to_)) by simp [cubeB, h1, h2, h3, h4])
        rw [h5, h6] at HF
        go_enter Tryz.func9, Tryz.ntmps9
        go_wp2_with (first | (go_at_call 28; (with_reducible refine (isSide_any _ _).mono ?_); rintro e w' ⟨rfl, rfl⟩) | (go_at_call 37; (with_reducible refine (isPlace_any _ _ _).mono ?_); rintro e w' ⟨rfl, rfl⟩) | (go_at_call 38; (with_reducible refine (isTick_any _ _).mono ?_); rintro e w' ⟨rfl, rfl⟩))
        go_ret
        exact ⟨ret_bool (by rw [HF.out]; simp), (by repeat (first | exact bref _ | (refine balloc ?_ _) | (refine bdrew ?_) | (refine bdrewN ?_ _) | (refine bstep ?_ (by assumption))))⟩
    · have hd4 : (m.so % m.sd != 0) = true := by simp [h4]
      have hd5 : (m.so % m.sd == 0) = false := by simp [h4]
      have HF := Lib.hid (show cubeB m = false by simp [cubeB, h4])
      go_enter Tryz.func9, Tryz.ntmps9
      go_wp2_with (first | (go_at_call 28; (with_reducible refine (isSide_any _ _).mono ?_); rintro e w' ⟨rfl, rfl⟩) | (go_at_call 37; (with_reducible refine (isPlace_any _ _ _).mono ?_); rintro e w' ⟨rfl, rfl⟩))
      go_ret
      exact ⟨ret_bool HF.out.symm, (by repeat (first | exact bref _ | (refine balloc ?_ _) | (refine bdrew ?_) | (refine bdrewN ?_ _) | (refine bstep ?_ (by assumption))))⟩
  · have hd4 : (m.ws % m.sd != 0) = true := by simp [h3]
    have hd5 : (m.ws % m.sd == 0) = false := by simp [h3]
    have HF := Lib.hid (show cubeB m = false by simp [cubeB, h3])
    go_enter Tryz.func9, Tryz.ntmps9
    go_wp2_with (first | (go_at_call 28; (with_reducible refine (isSide_any _ _).mono ?_); rintro e w' ⟨rfl, rfl⟩) | (go_at_call 37; (with_reducible refine (isPlace_any _ _ _).mono ?_); rintro e w' ⟨rfl, rfl⟩))
    go_ret
    exact ⟨ret_bool HF.out.symm, (by repeat (first | exact bref _ | (refine balloc ?_ _) | (refine bdrew ?_) | (refine bdrewN ?_ _) | (refine bstep ?_ (by assumption))))⟩
set_option maxRecDepth 100000 in
set_option maxHeartbeats 2000000 in
theorem l12Good_any (m : Cu) (w : World) :
    Calls Tryz.prog 39 #[.agg #[.int .i64 m.ws, .int .i64 m.so, .int .i64 m.sd, .int .i64 m.fr, .int .i64 m.to_]] w fun e w' => e = .returned (.bool (cubeB m)) ∧ Below w.heap.size w w' := by
  cases h1 : sideB m.sd
  · have HF := Lib.hid (show cubeB m = false by simp [cubeB, h1])
    go_enter Tryz.func39, Tryz.ntmps39
    go_wp2_with (go_at_call 64; (with_reducible refine (l12Side_any _ _).mono ?_); rintro e w' ⟨rfl, rfl⟩)
    go_ret
    exact ⟨ret_bool HF.out.symm, (by repeat (first | exact bref _ | (refine balloc ?_ _) | (refine bdrew ?_) | (refine bdrewN ?_ _) | (refine bstep ?_ (by assumption))))⟩
  have hs := sideB_bd h1
  cases h2 : placeB m.ws m.so
  · have HF := Lib.hid (show cubeB m = false by simp [cubeB, h2])
    go_enter Tryz.func39, Tryz.ntmps39
    go_wp2_with (first | (go_at_call 64; (with_reducible refine (l12Side_any _ _).mono ?_); rintro e w' ⟨rfl, rfl⟩) | (go_at_call 67; (with_reducible refine (l2Place_any _ _ _).mono ?_); rintro e w' ⟨rfl, rfl⟩))
    go_ret
    exact ⟨ret_bool HF.out.symm, (by repeat (first | exact bref _ | (refine balloc ?_ _) | (refine bdrew ?_) | (refine bdrewN ?_ _) | (refine bstep ?_ (by assumption))))⟩
  obtain ⟨hp1, hp2⟩ := placeB_true h2
  have hm1 := emod_w (a := m.ws) hs
  have hm2 := emod_w (a := m.so) hs
  have hsz : m.sd ≠ 0 := by omega
  by_cases h3 : m.ws % m.sd = 0
  · by_cases h4 : m.so % m.sd = 0
    · cases h5 : inB m.fr 0 1000000 <;> cases h6 : inB m.to_ 0 1000000
      all_goals
        have HF := Lib.hid (show cubeB m = (inB m.fr 0 1000000 && inB m.to_ 0 1000000 && decide (m.fr ≤ m.to_)) by simp [cubeB, h1, h2, h3, h4])
        rw [h5, h6] at HF
        go_enter Tryz.func39, Tryz.ntmps39
        go_wp2_with (first | (go_at_call 64; (with_reducible refine (l12Side_any _ _).mono ?_); rintro e w' ⟨rfl, rfl⟩) | (go_at_call 67; (with_reducible refine (l2Place_any _ _ _).mono ?_); rintro e w' ⟨rfl, rfl⟩) | (go_at_call 68; (with_reducible refine (l2Tick_any _ _).mono ?_); rintro e w' ⟨rfl, rfl⟩))
        go_ret
        exact ⟨ret_bool (by rw [HF.out]; simp), (by repeat (first | exact bref _ | (refine balloc ?_ _) | (refine bdrew ?_) | (refine bdrewN ?_ _) | (refine bstep ?_ (by assumption))))⟩
    · have hd4 : (m.so % m.sd != 0) = true := by simp [h4]
      have hd5 : (m.so % m.sd == 0) = false := by simp [h4]
      have HF := Lib.hid (show cubeB m = false by simp [cubeB, h4])
      go_enter Tryz.func39, Tryz.ntmps39
      go_wp2_with (first | (go_at_call 64; (with_reducible refine (l12Side_any _ _).mono ?_); rintro e w' ⟨rfl, rfl⟩) | (go_at_call 67; (with_reducible refine (l2Place_any _ _ _).mono ?_); rintro e w' ⟨rfl, rfl⟩))
      go_ret
      exact ⟨ret_bool HF.out.symm, (by repeat (first | exact bref _ | (refine balloc ?_ _) | (refine bdrew ?_) | (refine bdrewN ?_ _) | (refine bstep ?_ (by assumption))))⟩
  · have hd4 : (m.ws % m.sd != 0) = true := by simp [h3]
    have hd5 : (m.ws % m.sd == 0) = false := by simp [h3]
    have HF := Lib.hid (show cubeB m = false by simp [cubeB, h3])
    go_enter Tryz.func39, Tryz.ntmps39
    go_wp2_with (first | (go_at_call 64; (with_reducible refine (l12Side_any _ _).mono ?_); rintro e w' ⟨rfl, rfl⟩) | (go_at_call 67; (with_reducible refine (l2Place_any _ _ _).mono ?_); rintro e w' ⟨rfl, rfl⟩))
    go_ret
    exact ⟨ret_bool HF.out.symm, (by repeat (first | exact bref _ | (refine balloc ?_ _) | (refine bdrew ?_) | (refine bdrewN ?_ _) | (refine bstep ?_ (by assumption))))⟩
theorem cubeB_bounds {m : Cu} (h : cubeB m = true) : (1 ≤ m.sd ∧ m.sd ≤ 512) ∧ (0 ≤ m.ws ∧ m.ws ≤ 999) ∧ (0 ≤ m.so ∧ m.so ≤ 999) ∧ (0 ≤ m.fr ∧ m.fr ≤ 1000000) ∧ (0 ≤ m.to_ ∧ m.to_ ≤ 1000000) := by
  unfold cubeB at h
  simp only [Bool.and_eq_true] at h
  obtain ⟨⟨⟨⟨⟨⟨h1, h2⟩, _⟩, _⟩, h5⟩, h6⟩, _⟩ := h
  exact ⟨sideB_bd h1, (placeB_true h2).1, (placeB_true h2).2, inB_true h5, inB_true h6⟩
end Go.Proofs.YtaobbkiepggafaaGreat
