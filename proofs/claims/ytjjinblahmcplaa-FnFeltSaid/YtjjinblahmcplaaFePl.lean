/-
  Felt reports: no level is greater than the strongest one, centers lie within the reports, a merged list stays when it is merged again, the radius holds all who felt it, counts have all people. Plain words; no program is named.
-/
import Derived.Test.YtjjinblahmcplaaFeMax
import Derived.Test.YtjjinblahmcplaaFeCen
import Derived.Test.YtjjinblahmcplaaFeRad
import Derived.Test.YtjjinblahmcplaaFeCnt
import Derived.Test.YtjjinblahmcplaaFeMrgP
import Derived.Test.YtjjinblahmcplaaFeMrgS
namespace Go.Proofs.Ytjjinblahmcplaa
open Go.RowKit

theorem bestF_all : ∀ (ys : List Fe) (x : Fe), bestF x ys ∈ x :: ys ∧ ∀ y ∈ x :: ys, y.lv ≤ (bestF x ys).lv
  | [], x => by simp [bestF]
  | y :: ys, x => by
    obtain ⟨h1, h2⟩ := bestF_all ys (if gtS y x then y else x)
    simp only [bestF]
    have h0 := h2 _ (List.mem_cons_self)
    refine ⟨?_, fun z hz => ?_⟩
    · rcases List.mem_cons.1 h1 with h | h
      · rw [h]; split <;> simp
      · simp [h]
    · by_cases hc : gtS y x = true
      · rw [if_pos hc] at h0 h2 ⊢
        have := (gtS_iff y x).1 hc
        rcases List.mem_cons.1 hz with rfl | hz
        · omega
        · exact h2 z hz
      · rw [if_neg hc] at h0 h2 ⊢
        have : ¬ (x.lv < y.lv ∨ (y.lv = x.lv ∧ x.pp < y.pp)) := fun h => hc ((gtS_iff y x).2 h)
        rcases List.mem_cons.1 hz with rfl | hz
        · exact h0
        · rcases List.mem_cons.1 hz with rfl | hz
          · omega
          · exact h2 z (List.mem_cons_of_mem _ hz)
/-- What the law asks of the strongest place. -/
theorem strong_all {l : List Fe} (h : (strongL l).2 = true) : ∀ m ∈ l, m.id = (strongL l).1 → ∀ g ∈ l, g.lv ≤ m.lv := by
  cases l with
  | nil => simp [strongL] at h
  | cons x ys =>
    unfold strongL at h ⊢
    by_cases hg : goodFe (x :: ys) = true
    · simp only [if_pos hg]
      obtain ⟨h1, h2⟩ := bestF_all ys x
      intro m hm he g hgm
      obtain ⟨i, hi⟩ := List.mem_iff_getElem?.1 hm
      obtain ⟨j, hj⟩ := List.mem_iff_getElem?.1 h1
      have hij : i = j := by
        rcases Nat.lt_trichotomy i j with r | r | r
        · have := goodFe_lt hg hi hj r; omega
        · exact r
        · have := goodFe_lt hg hj hi r; omega
      subst hij
      rw [hi] at hj
      cases hj
      exact h2 g hgm
    · simp [hg] at h
theorem cen_lo {least c : Int} : ∀ (l : List Fe) (s : Int × Int × Int), (∀ m ∈ l, 0 ≤ m.pp) → (∀ m ∈ l, least ≤ m.lv → c ≤ m.x) → c * (l.foldl (cenS least) s).2.2 - (l.foldl (cenS least) s).1 ≤ c * s.2.2 - s.1
  | [], s, _, _ => Int.le_refl _
  | m :: l, s, hp, h => by
    have ih := cen_lo (c := c) l (cenS least s m) (fun x hx => hp x (List.mem_cons_of_mem _ hx)) (fun x hx => h x (List.mem_cons_of_mem _ hx))
    simp only [List.foldl_cons]
    refine Int.le_trans ih ?_
    unfold cenS
    split
    · rename_i hl
      have h1 := h m (List.mem_cons_self) hl
      have h2 := Int.mul_le_mul_of_nonneg_right h1 (hp m (List.mem_cons_self))
      simp only [Int.mul_add]
      omega
    · exact Int.le_refl _
theorem cen_hi {least c : Int} : ∀ (l : List Fe) (s : Int × Int × Int), (∀ m ∈ l, 0 ≤ m.pp) → (∀ m ∈ l, least ≤ m.lv → m.x ≤ c) → (l.foldl (cenS least) s).1 - c * (l.foldl (cenS least) s).2.2 ≤ s.1 - c * s.2.2
  | [], s, _, _ => Int.le_refl _
  | m :: l, s, hp, h => by
    have ih := cen_hi (c := c) l (cenS least s m) (fun x hx => hp x (List.mem_cons_of_mem _ hx)) (fun x hx => h x (List.mem_cons_of_mem _ hx))
    simp only [List.foldl_cons]
    refine Int.le_trans ih ?_
    unfold cenS
    split
    · rename_i hl
      have h1 := h m (List.mem_cons_self) hl
      have h2 := Int.mul_le_mul_of_nonneg_right h1 (hp m (List.mem_cons_self))
      simp only [Int.mul_add]
      omega
    · exact Int.le_refl _
/-- What the law asks of the center. -/
theorem center_all {least : Int} {l : List Fe} (h : (centerL least l).2.2 = true) : (l.any fun m => decide (least ≤ m.lv) && decide (m.x ≤ (centerL least l).1)) = true ∧ (l.any fun m => decide (least ≤ m.lv) && decide ((centerL least l).1 ≤ m.x)) = true := by
  cases hb : goodFe l && inB least 1 12
  · rw [centerL_bad hb] at h; cases h
  · rw [Bool.and_eq_true] at hb
    have e := centerL_good hb.1 hb.2
    by_cases h0 : (cenL least l l.length).2.2 = 0
    · rw [e, if_pos h0] at h; cases h
    · rw [if_neg h0] at e
      have hT := (cenL_bd (least := least) hb.1 l.length (Nat.le_refl _)).2.2.1
      have hpp : ∀ m ∈ l, 0 ≤ m.pp := fun m hm => by
        have := oneFe_bounds (goodFe_all hb.1 m hm)
        omega
      have ec : cenL least l l.length = l.foldl (cenS least) (0, 0, 0) := by unfold cenL; rw [List.take_length]
      rw [e]
      simp only
      rw [ec] at h0 hT ⊢
      have lo := fun c h => cen_lo (least := least) (c := c) l (0, 0, 0) hpp h
      have hi := fun c h => cen_hi (least := least) (c := c) l (0, 0, 0) hpp h
      generalize l.foldl (cenS least) (0, 0, 0) = t at h0 hT lo hi ⊢
      obtain ⟨S, Y, T⟩ := t
      simp only at h0 hT lo hi ⊢
      have hd1 := Int.mul_ediv_add_emod S T
      have hd2 := Int.emod_nonneg S h0
      have hd3 := Int.emod_lt_of_pos S (show 0 < T by omega)
      generalize S / T = q at hd1 lo hi ⊢
      generalize S % T = r at hd1 hd2 hd3
      constructor
      · rw [← Bool.not_eq_false, List.any_eq_false]
        intro hn
        have := lo (q + 1) (fun m hm hl => by
          have := hn m hm
          simp [hl] at this
          omega)
        simp only [Int.add_mul, Int.one_mul, Int.mul_zero, Int.sub_zero] at this
        rw [Int.mul_comm q T] at this
        omega
      · rw [← Bool.not_eq_false, List.any_eq_false]
        intro hn
        have := hi (q - 1) (fun m hm hl => by
          have := hn m hm
          simp [hl] at this
          omega)
        simp only [Int.sub_mul, Int.one_mul, Int.mul_zero, Int.sub_zero] at this
        rw [Int.mul_comm q T] at this
        omega
/-- What the law asks of a merged list: merged again with the second one, it stays. -/
theorem mer_again {a b : List Fe} (h : merOK a b = true) : merOK (merL a b) b = true ∧ merL (merL a b) b = merL a b := by
  have h2 := h
  unfold merOK at h2
  simp only [Bool.and_eq_true] at h2
  obtain ⟨⟨ha, hb⟩, hm⟩ := h2
  have e : merL a b = mergeL a b := by unfold merL; rw [if_pos h]
  obtain ⟨s1, s2⟩ := mergeL_spec b a (goodFe_asc ha) (goodFe_asc hb)
  obtain ⟨t1, t2⟩ := mergeL_spec b (mergeL a b) s1 (goodFe_asc hb)
  have em : mergeL (mergeL a b) b = mergeL a b := by
    refine ascF_ext t1 s1 (fun z => ?_)
    rw [t2, s2]
    constructor
    · rintro (h | ⟨h | h, _⟩)
      · exact .inl h
      · exact .inl h
      · exact .inr h
    · rintro (h | h)
      · exact .inl h
      · exact .inr ⟨.inr h, h.2⟩
  rw [e]
  have hk : merOK (mergeL a b) b = true := by
    unfold merOK
    rw [em, hm, hb]
    rfl
  exact ⟨hk, by unfold merL; rw [if_pos hk, em]⟩
theorem up_ge {sq : Int} (hs : sq ≤ 1996002) : ∀ (n : Nat) (r : Int), 0 ≤ r → (1413 : Int) ≤ r + n → r ≤ up sq n r ∧ sq ≤ up sq n r * up sq n r
  | 0, r, h0, hn => by
    refine ⟨Int.le_refl _, ?_⟩
    unfold up
    rcases Int.lt_or_le (r * r) sq with h | h
    · have := r_lt h hs h0
      omega
    · exact h
  | n + 1, r, h0, hn => by
    unfold up
    split
    · have := up_ge hs n (r + 1) (by omega) (by omega)
      exact ⟨by omega, this.2⟩
    · rename_i h
      exact ⟨Int.le_refl _, by omega⟩
theorem sqFe_bd {x y : Int} {m : Fe} (hm : oneFe m.id m.x m.y m.lv m.pp = true) (hp : placeB x y = true) : sqFe x y m ≤ 1996002 := by
  obtain ⟨_, b1, b2, _, _⟩ := oneFe_bounds hm
  unfold placeB at hp
  rw [Bool.and_eq_true] at hp
  have p1 := inB_true hp.1
  have p2 := inB_true hp.2
  have q1 := sq_bd (d := m.x - x) (by omega)
  have q2 := sq_bd (d := m.y - y) (by omega)
  unfold sqFe
  omega
theorem radL_all {x y : Int} {l : List Fe} (hg : goodFe l = true) (hp : placeB x y = true) : ∀ k, k ≤ l.length → 0 ≤ radL x y l k ∧ ∀ i m, i < k → l[i]? = some m → 2 ≤ m.lv → sqFe x y m ≤ radL x y l k * radL x y l k
  | 0, _ => ⟨by simp [radL], fun i m h => by omega⟩
  | k + 1, hk => by
    obtain ⟨h0, h1⟩ := radL_all hg hp k (by omega)
    obtain ⟨q, hq⟩ := some_get (show k < l.length by omega)
    rw [radL_succ hq]
    unfold radS
    by_cases h2 : 2 ≤ q.lv
    · rw [if_pos h2]
      have hb := sqFe_bd (x := x) (y := y) (goodFe_all hg q (List.mem_of_getElem? hq)) hp
      obtain ⟨u1, u2⟩ := up_ge hb 2000 (radL x y l k) h0 (by omega)
      refine ⟨by omega, fun i m hi hm hl => ?_⟩
      by_cases hik : i = k
      · subst hik
        rw [hq] at hm
        cases hm
        exact u2
      · have h3 := h1 i m (by omega) hm hl
        have h4 := Int.mul_le_mul u1 u1 h0 (by omega)
        omega
    · rw [if_neg h2]
      refine ⟨h0, fun i m hi hm hl => ?_⟩
      by_cases hik : i = k
      · subst hik
        rw [hq] at hm
        cases hm
        omega
      · exact h1 i m (by omega) hm hl
/-- What the law asks of the radius. -/
theorem radius_all {x y : Int} {l : List Fe} (h : (radiusL x y l).2 = true) : goodFe l = true ∧ placeB x y = true ∧ ∀ m ∈ l, 2 ≤ m.lv → sqFe x y m ≤ (radiusL x y l).1 * (radiusL x y l).1 := by
  unfold radiusL at h ⊢
  split at h
  · rename_i hb
    rw [if_pos hb]
    rw [Bool.and_eq_true] at hb
    refine ⟨hb.1, hb.2, fun m hm hl => ?_⟩
    obtain ⟨i, hi⟩ := List.mem_iff_getElem?.1 hm
    exact (radL_all hb.1 hb.2 l.length (Nat.le_refl _)).2 i m (List.getElem?_eq_some_iff.1 hi).1 hi hl
  · cases h
def peopleL (l : List Fe) : Int := (l.map Fe.pp).sum
theorem cntL_go (j : Nat) : ∀ (l : List Fe) (s : Int), l.foldl (fun s f => if f.lv = (j : Int) + 1 then s + f.pp else s) s = s + l.foldl (fun s f => if f.lv = (j : Int) + 1 then s + f.pp else s) 0
  | [], s => by simp
  | m :: l, s => by
    simp only [List.foldl_cons]
    rw [cntL_go j l (if m.lv = (j : Int) + 1 then s + m.pp else s), cntL_go j l (if m.lv = (j : Int) + 1 then 0 + m.pp else 0)]
    split <;> omega
theorem cntL_cons (m : Fe) (l : List Fe) (j : Nat) : cntL (m :: l) j = (if m.lv = (j : Int) + 1 then m.pp else 0) + cntL l j := by
  unfold cntL
  simp only [List.foldl_cons]
  rw [cntL_go j l (if m.lv = (j : Int) + 1 then 0 + m.pp else 0)]
  split <;> omega
def sumC (l : List Fe) : Nat → Int
  | 0 => 0
  | k + 1 => sumC l k + cntL l k
theorem sumC_nil : ∀ k, sumC [] k = 0
  | 0 => rfl
  | k + 1 => by simp [sumC, sumC_nil k, cntL]
theorem sumC_cons (m : Fe) (l : List Fe) : ∀ k : Nat, sumC (m :: l) k = (if 1 ≤ m.lv ∧ m.lv ≤ k then m.pp else 0) + sumC l k
  | 0 => by
    rw [if_neg (by omega)]
    simp [sumC]
  | k + 1 => by
    simp only [sumC]
    rw [sumC_cons m l k, cntL_cons]
    by_cases h1 : m.lv = (k : Int) + 1
    · rw [if_pos h1, if_neg (by omega), if_pos (by omega)]
      omega
    · rw [if_neg h1]
      by_cases h2 : 1 ≤ m.lv ∧ m.lv ≤ (k : Int)
      · rw [if_pos h2, if_pos (by omega)]
        omega
      · rw [if_neg h2, if_neg (by omega)]
        omega
theorem sumC_people : ∀ {l : List Fe}, (∀ m ∈ l, oneFe m.id m.x m.y m.lv m.pp = true) → sumC l 12 = peopleL l
  | [], _ => by rw [sumC_nil]; rfl
  | m :: l, h => by
    have hb := oneFe_bounds (h m (List.mem_cons_self))
    rw [sumC_cons, sumC_people (fun x hx => h x (List.mem_cons_of_mem _ hx)), if_pos (by omega)]
    simp [peopleL]
theorem people_succ {l : List Fe} {k : Nat} {m : Fe} (h : l[k]? = some m) : peopleL (l.take (k + 1)) = peopleL (l.take k) + m.pp := by
  unfold peopleL
  rw [List.take_add_one, h]
  simp
end Go.Proofs.Ytjjinblahmcplaa
