/-
  Cubes: what the law asks of the parts. Plain words; no program is named.
-/
import Derived.Test.YtaobbkiepggafaaGreatCuPl
import Derived.Test.YtaobbkiepggafaaGreatCuSplC
import Derived.Test.YtaobbkiepggafaaGreatCuHold
namespace Go.Proofs.YtaobbkiepggafaaGreat
set_option linter.unusedVariables false
set_option linter.unusedSimpArgs false
set_option linter.unnecessarySimpa false
open Go.RowKit

theorem spl_true {m : Cu} (h : splOK m = true) : cubeB m = true ∧ 2 ≤ m.sd ∧ splL m = chC m := by
  have h2 := h
  unfold splOK at h2
  rw [Bool.and_eq_true] at h2
  have hb := cubeB_bounds h2.1
  have hne : m.sd ≠ 1 := by
    intro e
    rw [e] at h2
    simp at h2
  exact ⟨h2.1, by omega, by simp [splL, h]⟩
theorem ch_part {m c : Cu} (hm : cubeB m = true) (h2 : 2 ≤ m.sd) (hc : c ∈ chC m) : cubeB c = true ∧ c.sd * 2 = m.sd := by
  have hb := cubeB_bounds hm
  obtain ⟨h, _, _⟩ := ch_ready (side := 1) (d := 10) hm (by decide) (by omega) (by omega) (Nat.lt_of_lt_of_le (sd_fuel hm) (by decide)) hc
  refine ⟨h, ?_⟩
  have hs := half_side (cube_side hm) h2
  unfold chC chN at hc
  obtain ⟨hc1, _⟩ := List.mem_filter.1 hc
  obtain ⟨k, hk, rfl⟩ := List.mem_map.1 hc1
  have e : (subC m k).sd = m.sd / 2 := rfl
  rw [e]
  omega
theorem rchO_of {m : Cu} (hm : cubeB m = true) {x y : Int} (hp : placeB x y = true) : rchO m x y = (rLo m x y, rHi m x y, true) := by
  simp [rchO, hm, hp, rchR]
/-- What the law asks of a cube's parts. -/
theorem parts_all {m : Cu} (h : splOK m = true) : cubeB m = true ∧ (1 ≤ (splL m).length ∧ (splL m).length ≤ 4) ∧ (∀ c ∈ splL m, cubeB c = true ∧ c.sd * 2 = m.sd ∧ rLo m 100 400 ≤ rLo c 100 400 ∧ rHi c 100 400 ≤ rHi m 100 400) ∧ (holR (splL m) ⟨m.ws, m.so, m.to_⟩).2 = true := by
  obtain ⟨hm, h2, e⟩ := spl_true h
  have hb := cubeB_bounds hm
  have hf : m.fr ≤ m.to_ := by
    have h9 := hm
    unfold cubeB at h9
    simp only [Bool.and_eq_true, decide_eq_true_eq] at h9
    exact h9.2
  have ho : origB ⟨m.ws, m.so, m.to_⟩ = true := by
    unfold origB
    rw [Bool.and_eq_true]
    exact ⟨cube_place hm, by simp [inB]; omega⟩
  obtain ⟨c, hc, hh⟩ := part_has hm h2 ho (holdB_of (by dsimp only; omega) (by dsimp only; omega) (by dsimp only; omega))
  refine ⟨hm, ⟨?_, splL_le m⟩, fun c hc => ?_, ?_⟩
  · rw [e]
    exact List.length_pos_of_mem hc
  · rw [e] at hc
    obtain ⟨h3, h4⟩ := ch_part hm h2 hc
    obtain ⟨h5, h6⟩ := part_reach hm h2 hc 100 400
    exact ⟨h3, h4, h5, h6⟩
  · have hok : holOK (splL m) ⟨m.ws, m.so, m.to_⟩ = true := by
      have hall : (splL m).all cubeB = true := List.all_eq_true.2 fun x hx => by
        rw [e] at hx
        exact (ch_part hm h2 hx).1
      have hle := splL_le m
      unfold holOK
      rw [hall, ho, decide_eq_true (show (splL m).length ≤ 64 by omega)]
      rfl
    have hany : (splL m).any (fun x => holdB x ⟨m.ws, m.so, m.to_⟩) = true := by
      rw [e]
      exact List.any_eq_true.2 ⟨c, hc, hh⟩
    unfold holR
    rw [hok, hany]
    rfl
theorem rch_le {m : Cu} {x y : Int} (h : (rchO m x y).2.2 = true) : (rchO m x y).1 ≤ (rchO m x y).2.1 := by
  by_cases hm : (cubeB m && placeB x y) = true
  · rw [Bool.and_eq_true] at hm
    rw [rchO_of hm.1 hm.2]
    exact reach_le x y (by have := cubeB_bounds hm.1; omega)
  · have e : rchO m x y = (0, 0, false) := by unfold rchO; rw [if_neg hm]
    rw [e] at h
    cases h
end Go.Proofs.YtaobbkiepggafaaGreat
