/-
  Cubes: parts have all of a cube, their reaches lie within its reach, and a consistent origin is in one of the cubes that are found. Plain words; no program is named.
-/
import Derived.Test.YtaobbkiepggafaaGreatCuSpl
import Derived.Test.YtaobbkiepggafaaGreatCuLcS
import Derived.Test.YtaobbkiepggafaaGreatCuCan
import Derived.Test.YtaobbkiepggafaaGreatArTks
import Derived.Test.YtaobbkiepggafaaGreatArCons
namespace Go.Proofs.YtaobbkiepggafaaGreat
set_option linter.unusedVariables false
set_option linter.unusedSimpArgs false
set_option linter.unnecessarySimpa false
open Go.RowKit

def holdB (m : Cu) (o : Og) : Bool := inB o.x m.ws (m.ws + m.sd - 1) && inB o.y m.so (m.so + m.sd - 1) && inB o.tk m.fr m.to_
theorem holdB_true {m : Cu} {o : Og} (h : holdB m o = true) : (m.ws ≤ o.x ∧ o.x ≤ m.ws + m.sd - 1) ∧ (m.so ≤ o.y ∧ o.y ≤ m.so + m.sd - 1) ∧ (m.fr ≤ o.tk ∧ o.tk ≤ m.to_) := by
  unfold holdB at h
  simp only [Bool.and_eq_true] at h
  exact ⟨inB_true h.1.1, inB_true h.1.2, inB_true h.2⟩
theorem holdB_of {m : Cu} {o : Og} (h1 : m.ws ≤ o.x ∧ o.x ≤ m.ws + m.sd - 1) (h2 : m.so ≤ o.y ∧ o.y ≤ m.so + m.sd - 1) (h3 : m.fr ≤ o.tk ∧ o.tk ≤ m.to_) : holdB m o = true := by
  unfold holdB
  simp only [Bool.and_eq_true]
  exact ⟨⟨by simp [inB, h1], by simp [inB, h2]⟩, by simp [inB, h3]⟩
theorem maxI_ge (a b : Int) : a ≤ maxI a b ∧ b ≤ maxI a b ∧ (maxI a b = a ∨ maxI a b = b) := by
  unfold maxI
  split <;> omega
theorem nearI_le {p low sd q : Int} (h : low ≤ q ∧ q ≤ low + sd - 1) : 0 ≤ nearI p low sd ∧ (nearI p low sd ≤ p - q ∨ nearI p low sd ≤ q - p ∨ nearI p low sd = 0) := by
  unfold nearI
  have h1 := maxI_ge 0 (maxI (low - p) (p - (low + sd - 1)))
  have h2 := maxI_ge (low - p) (p - (low + sd - 1))
  omega
theorem farI_ge {p low sd q : Int} (h : low ≤ q ∧ q ≤ low + sd - 1) : 0 ≤ farI p low sd ∧ p - q ≤ farI p low sd ∧ q - p ≤ farI p low sd := by
  unfold farI
  have h1 := maxI_ge (low + sd - 1 - p) (p - low)
  omega
theorem sq_abs {a b : Int} (h0 : 0 ≤ a) (h : a ≤ b ∨ a ≤ -b ∨ a = 0) : a * a ≤ b * b := by
  have hb : b * b = (-b) * (-b) := by rw [Int.neg_mul_neg]
  rcases h with h | h | h
  · exact Int.mul_le_mul h h h0 (by omega)
  · rw [hb]
    exact Int.mul_le_mul h h h0 (by omega)
  · subst h
    have : 0 ≤ b * b := by
      rcases Int.le_total 0 b with h | h
      · exact Int.mul_nonneg h h
      · rw [hb]; exact Int.mul_nonneg (by omega) (by omega)
    omega
theorem sq_abs2 {a b : Int} (h1 : a ≤ b) (h2 : -a ≤ b) : a * a ≤ b * b := by
  have ha : a * a = (-a) * (-a) := by rw [Int.neg_mul_neg]
  rcases Int.le_total 0 a with h | h
  · exact Int.mul_le_mul h1 h1 h (by omega)
  · rw [ha]
    exact Int.mul_le_mul h2 h2 (by omega) (by omega)
/-- A place in a cube is not nearer than the smallest square, nor farther than the greatest. -/
theorem reach_in {m : Cu} {a : Ar} {x y : Int} (h1 : m.ws ≤ x ∧ x ≤ m.ws + m.sd - 1) (h2 : m.so ≤ y ∧ y ≤ m.so + m.sd - 1) : rLo m a.x a.y ≤ sqT a x y ∧ sqT a x y ≤ rHi m a.x a.y := by
  obtain ⟨n1, n2⟩ := nearI_le (p := a.x) h1
  obtain ⟨n3, n4⟩ := nearI_le (p := a.y) h2
  obtain ⟨f1, f2, f3⟩ := farI_ge (p := a.x) h1
  obtain ⟨f4, f5, f6⟩ := farI_ge (p := a.y) h2
  have s1 := sq_abs (b := a.x - x) n1 (by omega)
  have s2 := sq_abs (b := a.y - y) n3 (by omega)
  have s3 := sq_abs2 (a := a.x - x) f2 (by omega)
  have s4 := sq_abs2 (a := a.y - y) f5 (by omega)
  unfold rLo rHi sqT
  omega
theorem reach_le {m : Cu} (x y : Int) (hs : 1 ≤ m.sd) : rLo m x y ≤ rHi m x y := by
  have e : rLo m x y = rLo m (⟨0, x, y, 0, 0⟩ : Ar).x (⟨0, x, y, 0, 0⟩ : Ar).y := rfl
  have h := reach_in (m := m) (a := ⟨0, x, y, 0, 0⟩) (x := m.ws) (y := m.so) (by omega) (by omega)
  exact Int.le_trans h.1 h.2
theorem near_sub {p low sd l2 s2 : Int} (h1 : low ≤ l2) (h2 : l2 + s2 ≤ low + sd) : 0 ≤ nearI p low sd ∧ nearI p low sd ≤ nearI p l2 s2 := by
  unfold nearI
  have a1 := maxI_ge 0 (maxI (low - p) (p - (low + sd - 1)))
  have a2 := maxI_ge (low - p) (p - (low + sd - 1))
  have b1 := maxI_ge 0 (maxI (l2 - p) (p - (l2 + s2 - 1)))
  have b2 := maxI_ge (l2 - p) (p - (l2 + s2 - 1))
  omega
theorem far_sub {p low sd l2 s2 : Int} (h0 : 1 ≤ s2) (h1 : low ≤ l2) (h2 : l2 + s2 ≤ low + sd) : 0 ≤ farI p l2 s2 ∧ farI p l2 s2 ≤ farI p low sd := by
  unfold farI
  have a1 := maxI_ge (low + sd - 1 - p) (p - low)
  have b1 := maxI_ge (l2 + s2 - 1 - p) (p - l2)
  omega
theorem sub_in {m : Cu} (k : Nat) (hk : k < 4) (he : 2 * (m.sd / 2) = m.sd) (h0 : 0 ≤ m.sd) : (m.ws ≤ (subC m k).ws ∧ (subC m k).ws + (subC m k).sd ≤ m.ws + m.sd) ∧ (m.so ≤ (subC m k).so ∧ (subC m k).so + (subC m k).sd ≤ m.so + m.sd) := by
  have h1 : k = 0 ∨ k = 1 ∨ k = 2 ∨ k = 3 := by omega
  rcases h1 with rfl | rfl | rfl | rfl
  · rw [subC_0]; simp only; omega
  · rw [subC_1]; simp only; omega
  · rw [subC_2]; simp only; omega
  · rw [subC_3]; simp only; omega
/-- The reach of a part lies within the cube's. -/
theorem part_reach {m c : Cu} (hm : cubeB m = true) (h2 : 2 ≤ m.sd) (hc : c ∈ chC m) (x y : Int) : rLo m x y ≤ rLo c x y ∧ rHi c x y ≤ rHi m x y := by
  unfold chC chN at hc
  obtain ⟨hc1, _⟩ := List.mem_filter.1 hc
  obtain ⟨k, hk, rfl⟩ := List.mem_map.1 hc1
  have hs := half_side (cube_side hm) h2
  have hsd := sideB_bd hs.1
  obtain ⟨⟨b1, b2⟩, b3, b4⟩ := sub_in (m := m) k (List.mem_range.1 hk) hs.2 (by omega)
  have e : (subC m k).sd = m.sd / 2 := rfl
  obtain ⟨n1, n2⟩ := near_sub (p := x) b1 b2
  obtain ⟨n3, n4⟩ := near_sub (p := y) b3 b4
  obtain ⟨f1, f2⟩ := far_sub (p := x) (by rw [e]; omega) b1 b2
  obtain ⟨f3, f4⟩ := far_sub (p := y) (by rw [e]; omega) b3 b4
  have s1 := Int.mul_le_mul n2 n2 n1 (by omega)
  have s2 := Int.mul_le_mul n4 n4 n3 (by omega)
  have s3 := Int.mul_le_mul f2 f2 f1 (by omega)
  have s4 := Int.mul_le_mul f4 f4 f3 (by omega)
  unfold rLo rHi
  omega
theorem cube_place {m : Cu} (h : cubeB m = true) : placeB m.ws m.so = true := by
  unfold cubeB at h
  simp only [Bool.and_eq_true] at h
  exact h.1.1.1.1.1.2
theorem sub_mem {m : Cu} {k : Nat} (hk : k < 4) (hp : placeB (subC m k).ws (subC m k).so = true) : subC m k ∈ chC m := by
  unfold chC chN
  exact List.mem_filter.2 ⟨List.mem_map.2 ⟨k, List.mem_range.2 hk, rfl⟩, hp⟩
/-- An origin in a cube is in one of its parts. -/
theorem part_has {m : Cu} {o : Og} (hm : cubeB m = true) (h2 : 2 ≤ m.sd) (ho : origB o = true) (h : holdB m o = true) : ∃ c ∈ chC m, holdB c o = true := by
  obtain ⟨o1, o2, o3⟩ := origB_true ho
  obtain ⟨⟨a1, a2⟩, ⟨a3, a4⟩, a5⟩ := holdB_true h
  obtain ⟨_, w1, w2, _⟩ := cubeB_bounds hm
  have hs := half_side (cube_side hm) h2
  have he := hs.2
  obtain ⟨i, hi, hx⟩ : ∃ i : Nat, i < 2 ∧ m.ws + (i : Int) * (m.sd / 2) ≤ o.x ∧ o.x ≤ m.ws + (i : Int) * (m.sd / 2) + m.sd / 2 - 1 := by
    by_cases hc : o.x < m.ws + m.sd / 2
    · exact ⟨0, by omega, by simp; omega⟩
    · exact ⟨1, by omega, by simp; omega⟩
  obtain ⟨j, hj, hy⟩ : ∃ j : Nat, j < 2 ∧ m.so + (j : Int) * (m.sd / 2) ≤ o.y ∧ o.y ≤ m.so + (j : Int) * (m.sd / 2) + m.sd / 2 - 1 := by
    by_cases hc : o.y < m.so + m.sd / 2
    · exact ⟨0, by omega, by simp; omega⟩
    · exact ⟨1, by omega, by simp; omega⟩
  have e : subC m (2 * i + j) = ⟨m.ws + (i : Int) * (m.sd / 2), m.so + (j : Int) * (m.sd / 2), m.sd / 2, m.fr, m.to_⟩ := by
    unfold subC
    rw [show (2 * i + j) / 2 = i by omega, show (2 * i + j) % 2 = j by omega]
  have hsd := sideB_bd hs.1
  have hix : 0 ≤ (i : Int) * (m.sd / 2) := Int.mul_nonneg (by omega) (by omega)
  have hjx : 0 ≤ (j : Int) * (m.sd / 2) := Int.mul_nonneg (by omega) (by omega)
  have hp : placeB (subC m (2 * i + j)).ws (subC m (2 * i + j)).so = true := by
    rw [e]
    unfold placeB
    simp only [Bool.and_eq_true]
    refine ⟨?_, ?_⟩
    · simp [inB]; omega
    · simp [inB]; omega
  refine ⟨subC m (2 * i + j), sub_mem (by omega) hp, ?_⟩
  rw [e]
  exact holdB_of hx hy a5
/-- An origin that fits an arrival and is in a cube: the cube is possible. -/
theorem fit_can {m : Cu} {o : Og} {a : Ar} (ha : oneArM a = true) (ho : origB o = true) (h : holdB m o = true) (hf : fitB a o = true) : canA m a = true := by
  obtain ⟨o1, o2, o3⟩ := origB_true ho
  obtain ⟨h1, h2, h3⟩ := holdB_true h
  rw [fit_law ha (by omega) (by omega) o3] at hf
  obtain ⟨r1, r2⟩ := reach_in (a := a) h1 h2
  simp only [Bool.and_eq_true, Bool.or_eq_true, decide_eq_true_eq] at hf
  obtain ⟨⟨f1, f2⟩, f3⟩ := hf
  unfold canA
  simp only [Bool.and_eq_true, Bool.or_eq_true, decide_eq_true_eq]
  refine ⟨⟨by omega, ?_⟩, ?_⟩
  · have := Int.mul_le_mul (show a.tk + a.er - o.tk ≤ a.tk + a.er - m.fr by omega) (show a.tk + a.er - o.tk ≤ a.tk + a.er - m.fr by omega) f1 (by omega)
    omega
  · by_cases hl : a.tk - a.er - m.to_ ≤ 0
    · exact .inl hl
    · right
      rcases f3 with f3 | f3
      · omega
      · have := Int.mul_le_mul (show a.tk - a.er - m.to_ ≤ a.tk - a.er - o.tk by omega) (show a.tk - a.er - m.to_ ≤ a.tk - a.er - o.tk by omega) (by omega) (by omega)
        omega
theorem all_has {l : List Ar} {side : Int} {o : Og} (hg : ∀ a ∈ l, oneArM a = true) (ho : origB o = true) (hf : ∀ a ∈ l, fitB a o = true) (hsb : sideB side = true) : ∀ (d : Nat) (m : Cu), cubeB m = true → side ≤ m.sd → m.sd.toNat < 2 ^ d → holdB m o = true → ∃ c ∈ allC l side d m, holdB c o = true
  | 0, m, hm, hle, hd, _ => by
    have := sideB_bd (cube_side hm)
    simp at hd
    omega
  | d + 1, m, hm, hle, hd, h => by
    have hcan : l.all (canA m) = true := List.all_eq_true.2 fun a ha => fit_can (hg a ha) ho h (hf a ha)
    have hs1 := sideB_bd hsb
    by_cases he : m.sd = side
    · rw [allC_one hcan he]
      exact ⟨m, by simp, h⟩
    · rw [allC_ch hcan he]
      obtain ⟨c, hc, hh⟩ := part_has hm (by omega) ho h
      obtain ⟨c1, c2, c3⟩ := ch_ready hm hsb hle he hd hc
      obtain ⟨q, hq, hq2⟩ := all_has hg ho hf hsb d c c1 c2 c3 hh
      exact ⟨q, List.mem_flatMap.2 ⟨c, hc, hq⟩, hq2⟩
theorem all_good {l : List Ar} {side : Int} (hsb : sideB side = true) : ∀ (d : Nat) (m : Cu), cubeB m = true → side ≤ m.sd → m.sd.toNat < 2 ^ d → ∀ c ∈ allC l side d m, cubeB c = true ∧ c.sd = side ∧ l.all (canA c) = true
  | 0, m, hm, hle, hd, c, hc => by
    have := sideB_bd (cube_side hm)
    simp at hd
    omega
  | d + 1, m, hm, hle, hd, c, hc => by
    by_cases hcan : l.all (canA m) = true
    · by_cases he : m.sd = side
      · rw [allC_one hcan he] at hc
        rw [List.mem_singleton.1 hc]
        exact ⟨hm, he, hcan⟩
      · rw [allC_ch hcan he] at hc
        obtain ⟨q, hq, hc⟩ := List.mem_flatMap.1 hc
        obtain ⟨c1, c2, c3⟩ := ch_ready hm hsb hle he hd hq
        exact all_good hsb d q c1 c2 c3 c hc
    · rw [allC_no (by simpa using hcan)] at hc
      simp at hc
end Go.Proofs.YtaobbkiepggafaaGreat
