/-
  Felt reports: each cell has the level that is asked for, the radius is small, all counts together have all people. Plain words; no program is named.
-/
import Derived.Test.YtjjinblahmcplaaFePl
import Derived.Test.YtjjinblahmcplaaFeLev
import Derived.Test.YtjjinblahmcplaaFeCelP
import Derived.Test.YtjjinblahmcplaaSs
namespace Go.Proofs.Ytjjinblahmcplaa
open Go.RowKit

theorem up_bd {sq : Int} (hs : sq ≤ 1996002) : ∀ (n : Nat) (r : Int), 0 ≤ r → r ≤ 1413 → 0 ≤ up sq n r ∧ up sq n r ≤ 1413
  | 0, r, h0, h1 => by unfold up; exact ⟨h0, h1⟩
  | n + 1, r, h0, h1 => by
    unfold up
    split
    · rename_i h
      have := r_lt h hs h0
      exact up_bd hs n (r + 1) (by omega) (by omega)
    · exact ⟨h0, h1⟩
theorem radL_bd {x y : Int} {l : List Fe} (hg : goodFe l = true) (hp : placeB x y = true) : ∀ k, k ≤ l.length → 0 ≤ radL x y l k ∧ radL x y l k ≤ 1413
  | 0, _ => by simp [radL]
  | k + 1, hk => by
    obtain ⟨h0, h1⟩ := radL_bd hg hp k (by omega)
    obtain ⟨q, hq⟩ := some_get (show k < l.length by omega)
    rw [radL_succ hq]
    unfold radS
    split
    · exact up_bd (sqFe_bd (goodFe_all hg q (List.mem_of_getElem? hq)) hp) 2000 _ h0 h1
    · exact ⟨h0, h1⟩
/-- What the law asks of the radius, with its bounds. -/
theorem radius_all2 {x y : Int} {l : List Fe} (h : (radiusL x y l).2 = true) : (0 ≤ (radiusL x y l).1 ∧ (radiusL x y l).1 ≤ 1413) ∧ ((0 ≤ x ∧ x ≤ 999) ∧ 0 ≤ y ∧ y ≤ 999) ∧ ∀ m ∈ l, ((0 ≤ m.x ∧ m.x ≤ 999) ∧ 0 ≤ m.y ∧ m.y ≤ 999) ∧ (2 ≤ m.lv → (m.x - x) * (m.x - x) + (m.y - y) * (m.y - y) ≤ (radiusL x y l).1 * (radiusL x y l).1) := by
  obtain ⟨hg, hp, ha⟩ := radius_all h
  refine ⟨?_, ?_, fun m hm => ⟨?_, ha m hm⟩⟩
  · have e : radiusL x y l = (radL x y l l.length, true) := by simp [radiusL, hg, hp]
    rw [e]
    exact radL_bd hg hp l.length (Nat.le_refl _)
  · unfold placeB at hp
    rw [Bool.and_eq_true] at hp
    exact ⟨inB_true hp.1, inB_true hp.2⟩
  · obtain ⟨_, b1, b2, _, _⟩ := oneFe_bounds (goodFe_all hg m hm)
    exact ⟨b1, b2⟩
/-- Each cell of the table: its level is what is asked for. -/
theorem cell_level {s : Int} {l : List Fe} {L : List Rw} (h : L.map Rw.l = cellsL s l) {k : Nat} {r : Rw} (hr : L[k]? = some r) :
    ∃ a b v f : Int, r.l = [a, b, v] ∧ levelOfL s a b l = (v, f, true) := by
  have e : (cellsL s l)[k]? = some r.l := by rw [← h, List.getElem?_map, hr]; rfl
  unfold cellsL at e
  split at e
  · rename_i hok
    rw [List.getElem?_map] at e
    cases hp : (celL s l)[k]? with
    | none => rw [hp] at e; cases e
    | some p =>
      rw [hp] at e
      simp only [Option.map_some, Option.some.injEq] at e
      obtain ⟨m, hm, hmp⟩ := celL_mem.1 (List.mem_of_getElem? hp)
      have hne : cellsW s p.1 p.2 l ≠ [] := by
        intro h0
        have h1 : m ∈ cellsW s p.1 p.2 l := List.mem_filter.2 ⟨hm, by rw [← hmp]; simp [inCell, celP]⟩
        rw [h0] at h1
        cases h1
      unfold cellsOK at hok
      rw [Bool.and_eq_true] at hok
      refine ⟨p.1, p.2, levelL (cellsW s p.1 p.2 l), sumI ((countsL (cellsW s p.1 p.2 l)).drop 1), e.symm, ?_⟩
      simp only [levelOfL, hok.1, hok.2, Bool.and_self, if_true, if_neg hne]
  · cases e
theorem sumI_counts (l : List Fe) : sumI (countsL l) = sumC l 12 := by
  simp [sumI, countsL, sumC, List.range, List.range.loop]
def peopleR (l : List Fe) : Int := if goodFe l then peopleL l else 0
theorem sumI_lcnt (l : List Fe) : sumI (lcntL l) = peopleR l := by
  unfold lcntL peopleR
  split
  · rename_i h
    rw [sumI_counts, sumC_people (goodFe_all h)]
  · rfl
theorem lcnt_sum {l : List Fe} : ∀ k, k ≤ (lcntL l).length → -1000000000000 ≤ sumI ((lcntL l).take k) ∧ sumI ((lcntL l).take k) ≤ 1000000000000 := fun k hk => by
  have h1 : ∀ x ∈ lcntL l, (0 : Int) ≤ x ∧ x ≤ 12000 := fun x hx => by
    unfold lcntL at hx
    split at hx
    · rename_i h
      obtain ⟨j, _, rfl⟩ := List.mem_map.1 hx
      exact cnt_bd (goodFe_all h) (goodFe_len h) j
    · cases hx
  have h2 := sumI_bd (by decide) h1 k hk
  have h3 := lcntL_le l
  omega
theorem people_bd {l : List Fe} (hg : ∀ m ∈ l, oneFe m.id m.x m.y m.lv m.pp = true) : ∀ k, k ≤ l.length → 0 ≤ peopleL (l.take k) ∧ peopleL (l.take k) ≤ 1000 * k
  | 0, _ => by simp [peopleL]
  | k + 1, hk => by
    obtain ⟨q, hq⟩ := some_get (show k < l.length by omega)
    have := people_bd hg k (by omega)
    have hb := oneFe_bounds (hg q (List.mem_of_getElem? hq))
    rw [people_succ hq]
    omega
end Go.Proofs.Ytjjinblahmcplaa
