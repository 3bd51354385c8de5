/-
  Cubes: what the law asks of the cubes that are found, of the count of consistent origins, and of one origin. Plain words; no program is named.
-/
import Derived.Test.YtaobbkiepggafaaGreatCuPl2
import Derived.Test.YtaobbkiepggafaaGreatCuCntI
import Derived.Test.YtaobbkiepggafaaGreatCuLcI
namespace Go.Proofs.YtaobbkiepggafaaGreat
set_option linter.unusedVariables false
set_option linter.unusedSimpArgs false
set_option linter.unnecessarySimpa false
open Go.RowKit

theorem mem_srtC {L : List Cu} {x : Cu} : x ∈ srtC L ↔ x ∈ L := by
  have h := (srtC_spec L [] List.Pairwise.nil).2
  rw [List.nil_append] at h
  exact h.mem_iff
theorem lc_ask {l : List Ar} {m : Cu} {side : Int} (h : lcOK l m side = true) : (locB l = true ∧ cubeB m = true ∧ sideB side = true ∧ side ≤ m.sd) ∧ (allC l side 10 m).length ≤ 64 := by
  unfold lcOK at h
  rw [Bool.and_eq_true] at h
  exact ⟨askB_true h.1, by simpa using h.2⟩
theorem loc_one {l : List Ar} (h : locB l = true) : ∀ a ∈ l, oneArM a = true := fun a ha => by
  unfold locB at h
  rw [Bool.and_eq_true] at h
  obtain ⟨k, hk⟩ := List.mem_iff_getElem?.1 ha
  exact goodAr_one h.1 hk
/-- Every cube that is found is possible and has the side that was asked. -/
theorem locs_good {l : List Ar} {m : Cu} {side : Int} (h : lcOK l m side = true) : ∀ c ∈ lcL l m side, cubeB c = true ∧ c.sd = side ∧ possR l c = (true, true) := fun c hc => by
  obtain ⟨⟨h1, h2, h3, h4⟩, _⟩ := lc_ask h
  rw [lcL_yes h, mem_srtC] at hc
  obtain ⟨c1, c2, c3⟩ := all_good h3 10 m h2 h4 (sd_fuel h2) c hc
  exact ⟨c1, c2, by simp [possR, h1, c1, c3]⟩
theorem cons_fit {l : List Ar} {o : Og} (h : consR l o = (true, true)) : locB l = true ∧ origB o = true ∧ ∀ a ∈ l, fitB a o = true := by
  unfold consR at h
  by_cases hg : (locB l && origB o) = true
  · rw [if_pos hg] at h
    rw [Bool.and_eq_true] at hg
    have h2 : (l.filter fun a => fitB a o).length = l.length := by simpa using (Prod.mk.inj h).1
    exact ⟨hg.1, hg.2, List.length_filter_eq_length_iff.1 h2⟩
  · rw [if_neg hg] at h
    simp at h
/-- A consistent origin inside the cube is in one of the cubes that are found. -/
theorem locs_has {l : List Ar} {m : Cu} {side : Int} {o : Og} (h : lcOK l m side = true) (hc : consR l o = (true, true)) (hh : holdB m o = true) : (holR (lcL l m side) o).2 = true := by
  obtain ⟨⟨h1, h2, h3, h4⟩, _⟩ := lc_ask h
  obtain ⟨_, ho, hf⟩ := cons_fit hc
  obtain ⟨c, hcm, hcb⟩ := all_has (loc_one h1) ho hf h3 10 m h2 h4 (sd_fuel h2) hh
  have hok : holOK (lcL l m side) o = true := by
    have hall : (lcL l m side).all cubeB = true := List.all_eq_true.2 fun x hx => (locs_good h x hx).1
    have hle := lcL_le l m side
    unfold holOK
    rw [hall, ho, decide_eq_true hle]
    rfl
  have hany : (lcL l m side).any (fun x => holdB x o) = true := by
    rw [lcL_yes h]
    exact List.any_eq_true.2 ⟨c, mem_srtC.2 hcm, hcb⟩
  unfold holR
  rw [hok, hany]
  rfl
theorem spF_le {x y : Int} : ∀ (l : List Ar) (s : Int × Int), s.1 ≤ (l.foldl (spS x y) s).1 ∧ (l.foldl (spS x y) s).2 ≤ s.2 ∧ ∀ a ∈ l, loT a x y ≤ (l.foldl (spS x y) s).1 ∧ (l.foldl (spS x y) s).2 ≤ hiT a x y
  | [], s => ⟨Int.le_refl _, Int.le_refl _, fun a h => by simp at h⟩
  | b :: l, s => by
    obtain ⟨h1, h2, h3⟩ := spF_le (x := x) (y := y) l (spS x y s b)
    have e1 := maxI_ge s.1 (loT b x y)
    have e2 : minI s.2 (hiT b x y) ≤ s.2 ∧ minI s.2 (hiT b x y) ≤ hiT b x y := by unfold minI; split <;> omega
    have e3 : (spS x y s b).1 = maxI s.1 (loT b x y) := rfl
    have e4 : (spS x y s b).2 = minI s.2 (hiT b x y) := rfl
    rw [List.foldl_cons]
    refine ⟨by omega, by omega, fun a ha => ?_⟩
    rcases List.mem_cons.1 ha with rfl | ha
    · exact ⟨by omega, by omega⟩
    · exact h3 a ha
theorem row_pos {l : List Ar} {m : Cu} {x : Int} : ∀ {j : Nat}, 0 < rowC l m x j → ∃ i : Nat, i < j ∧ okC l m x (m.so + (i : Int)) = true
  | 0, h => by simp [rowC] at h
  | j + 1, h => by
    by_cases hk : okC l m x (m.so + (j : Int)) = true
    · exact ⟨j, by omega, hk⟩
    · simp only [rowC, hk] at h
      obtain ⟨i, hi, he⟩ := row_pos (j := j) (by simpa using h)
      exact ⟨i, by omega, he⟩
theorem cnt_pos {l : List Ar} {m : Cu} : ∀ {i : Nat}, 0 < cntC l m i → ∃ k : Nat, k < i ∧ 0 < rowC l m (m.ws + (k : Int)) m.sd.toNat
  | 0, h => by simp [cntC] at h
  | i + 1, h => by
    by_cases hk : 0 < rowC l m (m.ws + (i : Int)) m.sd.toNat
    · exact ⟨i, by omega, hk⟩
    · have hb := rowC_bd l m (m.ws + (i : Int)) m.sd.toNat
      simp only [cntC] at h
      obtain ⟨k, hi, he⟩ := cnt_pos (l := l) (m := m) (i := i) (by omega)
      exact ⟨k, by omega, he⟩
theorem cnt_sq {l : List Ar} {m : Cu} : ∀ i : Nat, cntC l m i ≤ (i : Int) * (m.sd.toNat : Int)
  | 0 => by simp [cntC]
  | i + 1 => by
    have ih := cnt_sq (l := l) (m := m) i
    have hb := rowC_bd l m (m.ws + (i : Int)) m.sd.toNat
    simp only [cntC]
    rw [show ((i + 1 : Nat) : Int) * (m.sd.toNat : Int) = (i : Int) * (m.sd.toNat : Int) + (m.sd.toNat : Int) by push_cast; rw [Int.add_mul, Int.one_mul]]
    omega
theorem cnt_true {l : List Ar} {m : Cu} (h : (cntR l m).2 = true) : locB l = true ∧ cubeB m = true ∧ m.sd ≤ 16 ∧ (cntR l m).1 = cntC l m m.sd.toNat := by
  unfold cntR at h ⊢
  by_cases hg : (locB l && cubeB m && decide (m.sd ≤ 16)) = true
  · rw [if_pos hg]
    simp only [Bool.and_eq_true, decide_eq_true_eq] at hg
    exact ⟨hg.1.1, hg.1.2, hg.2, rfl⟩
  · rw [if_neg hg] at h
    simp at h
/-- Where some origins are consistent, the cube is possible, and they are no more than its places. -/
theorem cnt_all {l : List Ar} {m : Cu} (h : (cntR l m).2 = true) (hp : 0 < (cntR l m).1) : possR l m = (true, true) ∧ (cntR l m).1 ≤ m.sd * m.sd ∧ 1 ≤ m.sd ∧ m.sd ≤ 16 := by
  obtain ⟨h1, h2, h3, e⟩ := cnt_true h
  have hb := cubeB_bounds h2
  rw [e] at hp ⊢
  refine ⟨?_, ?_, hb.1.1, h3⟩
  · obtain ⟨k, hk, hr⟩ := cnt_pos hp
    obtain ⟨i, hi, ho⟩ := row_pos hr
    unfold okC at ho
    rw [Bool.and_eq_true] at ho
    obtain ⟨hpl, hat⟩ := ho
    unfold atB at hat
    rw [decide_eq_true_eq] at hat
    unfold spT at hat
    rw [List.take_length] at hat
    obtain ⟨s1, s2, s3⟩ := spF_le (x := m.ws + (k : Int)) (y := m.so + (i : Int)) l (m.fr, m.to_)
    generalize hS : l.foldl (spS (m.ws + (k : Int)) (m.so + (i : Int))) (m.fr, m.to_) = S at hat s1 s2 s3
    dsimp only at s1 s2
    have hho : holdB m ⟨m.ws + (k : Int), m.so + (i : Int), S.1⟩ = true := holdB_of (by dsimp only; omega) (by dsimp only; omega) (by dsimp only; omega)
    have hor : origB ⟨m.ws + (k : Int), m.so + (i : Int), S.1⟩ = true := by
      unfold origB
      rw [Bool.and_eq_true]
      exact ⟨hpl, by simp [inB]; omega⟩
    have hall : l.all (canA m) = true := List.all_eq_true.2 fun a ha => by
      obtain ⟨a1, a2⟩ := s3 a ha
      exact fit_can (loc_one h1 a ha) hor hho (by simp [fitB, inB]; omega)
    simp [possR, h1, h2, hall]
  · have h4 := cnt_sq (l := l) (m := m) m.sd.toNat
    rw [Int.toNat_of_nonneg (by omega)] at h4
    exact h4
end Go.Proofs.YtaobbkiepggafaaGreat
