/-
  spec.l1Put: a number put into an ascending list in its place, if it is not there.
-/
import Derived.Test.YtifkakpiipoadaaApp
import Derived.Test.YtifkakpiipoadaaAsc
import Derived.Test.YtifkakpiipoadaaInts1
import Derived.Test.YtifkakpiipoadaaListed
import Derived.Test.YtifkakpiipoadaaKit
import Derived.Deep.RegionHeld3
namespace Go.Proofs.Ytifkakpiipoadaa
set_option linter.unusedVariables false
set_option linter.unusedSimpArgs false
set_option linter.unnecessarySimpa false
open Go.RowKit
attribute [local go_sem] ext_cell ext_frozen

theorem putI_take {x : Int} : ∀ (l : List Int) (k : Nat), k ≤ l.length → (∀ i, i < k → ∀ y, l[i]? = some y → y < x) → putI x l = l.take k ++ putI x (l.drop k)
  | l, 0, _, _ => by simp
  | [], k + 1, h, _ => by simp at h
  | y :: ys, k + 1, h, hy => by
    have h0 := hy 0 (by omega) y rfl
    have ih := putI_take ys k (by simpa using h) (fun i hi z hz => hy (i + 1) (by omega) z (by simpa using hz))
    simp only [putI, h0, if_true, List.take_succ_cons, List.drop_succ_cons, List.cons_append]
    rw [← ih]
theorem putI_end {x : Int} {l : List Int} (h : ∀ i, i < l.length → ∀ y, l[i]? = some y → y < x) : putI x l = l ++ [x] := by
  have := putI_take l l.length (Nat.le_refl _) h
  simpa [putI] using this
theorem putI_mid {x m : Int} {l : List Int} {k : Nat} (hm : l[k]? = some m) (h : ∀ i, i < k → ∀ y, l[i]? = some y → y < x) (h1 : x < m) : putI x l = l.take k ++ [x] ++ l.drop k := by
  have hk : k < l.length := (List.getElem?_eq_some_iff.1 hm).1
  rw [putI_take l k (by omega) h, drop_cons hm]
  have h2 : ¬ m < x := by omega
  have h3 : ¬ m = x := by omega
  simp [putI, h2, h3]
theorem putI_old {x : Int} {l : List Int} {k : Nat} (hm : l[k]? = some x) (h : ∀ i, i < k → ∀ y, l[i]? = some y → y < x) : putI x l = l := by
  have hk : k < l.length := (List.getElem?_eq_some_iff.1 hm).1
  rw [putI_take l k (by omega) h]
  conv => rhs; rw [← List.take_append_drop k l]
  rw [drop_cons hm]
  simp [putI]

set_option maxRecDepth 100000 in
set_option maxHeartbeats 4000000 in
theorem l1Put_any (l : List Int) (x : Int) (A : Option Addr) (c base : Nat) (w : World) (hown : w.ownsRow base 3 1 (.slice A l.length c) l.length (l.flatMap encI)) (hlen : l.length ≤ 2097152) (hbase : base ≤ w.heap.size) :
    Calls Try.prog 101 #[.slice A l.length c, .int .i64 x] w fun e w' => ∃ A' c', e = .returned (.slice A' (putI x l).length c') ∧ w'.ownsRow base 3 1 (.slice A' (putI x l).length c') (putI x l).length ((putI x l).flatMap encI) ∧ Below w.heap.size w w' := by
  have HR := Lib.hid (RowAt.of_own hown encI_len (by omega))
  have hcap := own_cap hown
  have HW := Lib.hid hown
  have HB := Lib.hid hbase
  clear hown hbase
  go_enter Try.func101, Try.ntmps101
  go_wp2_with fail
  go_loop [5] (fun i => ∃ k : Nat, k ≤ l.length ∧ i = .int .i64 k ∧ Hid (∀ i, i < k → ∀ y, l[i]? = some y → y < x)) (fun i => l.length - (intOf i).toNat)
  case atStart => exact ⟨0, Nat.zero_le _, rfl, Lib.hid (fun i h => absurd h (by omega))⟩
  case round =>
    obtain ⟨k, hk, rfl, HU⟩ := hrel
    by_cases hlt : k < l.length
    · obtain ⟨m, hm⟩ := some_get hlt
      have i0 := ib0 k
      have i1 := ib1 hlt
      obtain ⟨b, off, rfl, hb, q0⟩ := HR.out.i hm
      have HM := Lib.hid hm
      clear hm
      by_cases hmx : m < x
      · go_wp2
        go_round
        case rel => exact ⟨k + 1, by omega, by go_num, Lib.hid (fun i hi y hy => by
            rcases Nat.lt_or_ge i k with h | h
            · exact HU.out i h y hy
            · obtain rfl : i = k := by omega
              rw [HM.out] at hy
              cases hy
              exact hmx)⟩
        case measure => simp [intOf]; omega
      · by_cases he : m = x
        · subst he
          have HF := Lib.hid (putI_old HM.out HU.out)
          go_wp2
          go_ret
          rw [HF.out]
          exact ⟨_, _, rfl, HW.out, bref _⟩
        · have hq : (m == x) = false := by simpa using he
          have HF := Lib.hid (putI_mid HM.out HU.out (by omega))
          clear he
          have k1 : (k : Int) ≤ (c : Int) := by omega
          have k2 : (k : Int) ≤ (l.length : Int) := by omega
          have k3 : (l.length : Int) ≤ (c : Int) := by omega
          have k4 : ¬ c = k := by omega
          have HK := Lib.hid (show ((l.take k).flatMap encI).length = k * 1 by rw [flat_len encI_len, List.length_take, Nat.min_eq_left hk])
          have HN := Lib.hid (show k + 1 + (l.length - k) = (putI x l).length by rw [HF.out]; simp; omega)
          have HY := Lib.hid (show (l.take k).flatMap encI ++ encI x ++ (l.drop k).flatMap encI = (putI x l).flatMap encI by rw [HF.out]; simp)
          have HK2 := Lib.hid (show ((l.drop k).flatMap encI).length = (l.length - k) * 1 by rw [flat_len encI_len, List.length_drop])
          go_wp2_with fail
          go_region_held3 (fun _ => True) (trivial) (first
            | ((refine step_appS (by rfl) (.tmp 33) (.tmp 36) 29 3 1 8 _ (by rfl) Try.underlying29 infoI rfl (by decide) w.heap.size _ 0 [] (by rfl) (own_empty (by first | exact heap_new1 _ _ | exact heap_new2 _ _ _ | exact heap_old2 _ _ _) (by first | exact Nat.le_refl _ | (simp; done))) _ _ _ ((l.take k).flatMap encI) (by rfl) HK.out ((RowAt.below (HR.out.takeR k) (by repeat (first | exact bref _ | exact hbI1 | exact hbI2 | exact hbI3 | (refine balloc ?_ _) | (refine bdrew ?_) | (refine bdrewN ?_ _)))).news encI_len) (cellsI_one _) k (Nat.zero_add _) _ (List.nil_append _) (by omega) (by decide) (Below.size (B := w.heap.size) (by repeat (first | exact bref _ | exact hbI1 | exact hbI2 | exact hbI3 | (refine balloc ?_ _) | (refine bdrew ?_) | (refine bdrewN ?_ _)))) ?_); intro A1 c1 w1 hoI1 hgI1 hlI1; have hbI1 : Below w.heap.size w w1 := bgrown (by repeat (first | exact bref _ | exact hbI1 | exact hbI2 | exact hbI3 | (refine balloc ?_ _) | (refine bdrew ?_) | (refine bdrewN ?_ _))) hgI1 (by intro j hj; simp [Value.ownBlock] at hj; omega))
            | ((refine step_appS (by rfl) (.tmp 37) (.tmp 39) 29 3 1 8 _ (by rfl) Try.underlying29 infoI rfl (by decide) w.heap.size (.slice A1 k c1) k _ (by rfl) (by first | exact hoI1 | exact hoI1.alloc _ | exact own_drew (hoI1.alloc _)) _ 1 _ (encI x) (by rfl) rfl (news1 (by first | exact heap_new1 _ _ | exact (hgI1.block _ (by simp <;> omega) (by simp [Value.ownBlock] <;> omega)).trans (heap_new2 _ _ _) | exact (hgI1.block _ (by simp <;> omega) (by simp [Value.ownBlock] <;> omega)).trans (heap_old2 _ _ _)) rfl) (encI_one x) (k + 1) rfl _ rfl (by omega) (by decide) (Below.size (B := w.heap.size) (by repeat (first | exact bref _ | exact hbI1 | exact hbI2 | exact hbI3 | (refine balloc ?_ _) | (refine bdrew ?_) | (refine bdrewN ?_ _)))) ?_); intro A2 c2 w2 hoI2 hgI2 hlI2; have hbI2 : Below w.heap.size w w2 := bgrown (by repeat (first | exact bref _ | exact hbI1 | exact hbI2 | exact hbI3 | (refine balloc ?_ _) | (refine bdrew ?_) | (refine bdrewN ?_ _))) hgI2 (row_mine hoI1))
            | ((refine step_appS (by rfl) (.tmp 40) (.tmp 43) 29 3 1 8 _ (by rfl) Try.underlying29 infoI rfl (by decide) w.heap.size (.slice A2 (k + 1) c2) (k + 1) _ (by rfl) (by first | exact hoI2 | exact own_drew hoI2) _ _ _ ((l.drop k).flatMap encI) (by rfl) HK2.out ((RowAt.below (HR.out.drop1 k) (by repeat (first | exact bref _ | exact hbI1 | exact hbI2 | exact hbI3 | (refine balloc ?_ _) | (refine bdrew ?_) | (refine bdrewN ?_ _)))).news encI_len) (cellsI_one _) ((putI x l).length) HN.out _ HY.out (by have := HN.out; omega) (by decide) (Below.size (B := w.heap.size) (by repeat (first | exact bref _ | exact hbI1 | exact hbI2 | exact hbI3 | (refine balloc ?_ _) | (refine bdrew ?_) | (refine bdrewN ?_ _)))) ?_); intro A3 c3 w3 hoI3 hgI3 hlI3; have hbI3 : Below w.heap.size w w3 := bgrown (by repeat (first | exact bref _ | exact hbI1 | exact hbI2 | exact hbI3 | (refine balloc ?_ _) | (refine bdrew ?_) | (refine bdrewN ?_ _))) hgI3 (row_mine hoI2))
            | fail)
          all_goals
            go_wp2
            go_ret
            exact ⟨A3, c3, rfl, own_base hoI3 HB.out, hbI3⟩
    · obtain rfl : k = l.length := by omega
      have HF := Lib.hid (putI_end HU.out)
      rcases own_form HW.out with ⟨rfl, h0, rfl⟩ | ⟨g, rfl⟩
      · obtain rfl : l = [] := List.eq_nil_of_length_eq_zero h0
        have HN := Lib.hid (show 0 + 1 + 0 = (putI x []).length from rfl)
        have HY := Lib.hid (show ([] : List Value) ++ encI x ++ [] = (putI x []).flatMap encI from rfl)
        simp only [List.length_nil]
        go_wp2_with fail
        go_region_held3 (fun _ => True) (trivial) (first
            | ((refine step_appS (by rfl) (.tmp 33) (.tmp 36) 29 3 1 8 _ (by rfl) Try.underlying29 infoI rfl (by decide) w.heap.size _ 0 [] (by rfl) (own_empty (by first | exact heap_new1 _ _ | exact heap_new2 _ _ _ | exact heap_old2 _ _ _) (by first | exact Nat.le_refl _ | (simp; done))) _ _ _ [] (by rfl) rfl (fun j u hj => by simp at hj) (fun u hu => by simp at hu) 0 (by rfl) [] rfl (by omega) (by decide) (Below.size (B := w.heap.size) (by repeat (first | exact bref _ | exact hbI1 | exact hbI2 | exact hbI3 | (refine balloc ?_ _) | (refine bdrew ?_) | (refine bdrewN ?_ _)))) ?_); intro A1 c1 w1 hoI1 hgI1 hlI1; have hbI1 : Below w.heap.size w w1 := bgrown (by repeat (first | exact bref _ | exact hbI1 | exact hbI2 | exact hbI3 | (refine balloc ?_ _) | (refine bdrew ?_) | (refine bdrewN ?_ _))) hgI1 (by intro j hj; simp [Value.ownBlock] at hj; omega))
            | ((refine step_appS (by rfl) (.tmp 37) (.tmp 39) 29 3 1 8 _ (by rfl) Try.underlying29 infoI rfl (by decide) w.heap.size (.slice A1 0 c1) 0 _ (by rfl) (by first | exact hoI1 | exact hoI1.alloc _ | exact own_drew (hoI1.alloc _)) _ 1 _ (encI x) (by rfl) rfl (news1 (by first | exact heap_new1 _ _ | exact (hgI1.block _ (by simp <;> omega) (by simp [Value.ownBlock] <;> omega)).trans (heap_new2 _ _ _) | exact (hgI1.block _ (by simp <;> omega) (by simp [Value.ownBlock] <;> omega)).trans (heap_old2 _ _ _)) rfl) (encI_one x) (0 + 1) rfl _ rfl (by omega) (by decide) (Below.size (B := w.heap.size) (by repeat (first | exact bref _ | exact hbI1 | exact hbI2 | exact hbI3 | (refine balloc ?_ _) | (refine bdrew ?_) | (refine bdrewN ?_ _)))) ?_); intro A2 c2 w2 hoI2 hgI2 hlI2; have hbI2 : Below w.heap.size w w2 := bgrown (by repeat (first | exact bref _ | exact hbI1 | exact hbI2 | exact hbI3 | (refine balloc ?_ _) | (refine bdrew ?_) | (refine bdrewN ?_ _))) hgI2 (row_mine hoI1))
            | ((refine step_appS (by rfl) (.tmp 40) (.tmp 43) 29 3 1 8 _ (by rfl) Try.underlying29 infoI rfl (by decide) w.heap.size (.slice A2 (0 + 1) c2) (0 + 1) _ (by rfl) (by first | exact hoI2 | exact own_drew hoI2) _ _ _ [] (by rfl) (by simp) (fun j u hj => by simp at hj) (fun u hu => by simp at hu) ((putI x []).length) (by first | exact HN.out | (simp; done) | (have := HN.out; simpa using this)) _ HY.out (by have := HN.out; omega) (by decide) (Below.size (B := w.heap.size) (by repeat (first | exact bref _ | exact hbI1 | exact hbI2 | exact hbI3 | (refine balloc ?_ _) | (refine bdrew ?_) | (refine bdrewN ?_ _)))) ?_); intro A3 c3 w3 hoI3 hgI3 hlI3; have hbI3 : Below w.heap.size w w3 := bgrown (by repeat (first | exact bref _ | exact hbI1 | exact hbI2 | exact hbI3 | (refine balloc ?_ _) | (refine bdrew ?_) | (refine bdrewN ?_ _))) hgI3 (row_mine hoI2))
            | fail)
        all_goals
          go_wp2
          go_ret
          exact ⟨A3, c3, rfl, own_base hoI3 HB.out, hbI3⟩
      · have k1 : (l.length : Int) ≤ (c : Int) := by omega
        have HK := Lib.hid (show (l.flatMap encI).length = l.length * 1 by rw [flat_len encI_len])
        have HN := Lib.hid (show l.length + 1 + 0 = (putI x l).length by rw [HF.out]; simp)
        have HY := Lib.hid (show l.flatMap encI ++ encI x ++ [] = (putI x l).flatMap encI by rw [HF.out]; simp)
        by_cases hck : c = l.length
        all_goals
          go_wp2_with fail
          go_region_held3 (fun _ => True) (trivial) (first
            | ((refine step_appS (by rfl) (.tmp 33) (.tmp 36) 29 3 1 8 _ (by rfl) Try.underlying29 infoI rfl (by decide) w.heap.size _ 0 [] (by rfl) (own_empty (by first | exact heap_new1 _ _ | exact heap_new2 _ _ _ | exact heap_old2 _ _ _) (by first | exact Nat.le_refl _ | (simp; done))) _ _ _ (l.flatMap encI) (by rfl) HK.out ((RowAt.below HR.out (by repeat (first | exact bref _ | exact hbI1 | exact hbI2 | exact hbI3 | (refine balloc ?_ _) | (refine bdrew ?_) | (refine bdrewN ?_ _)))).news encI_len) (cellsI_one _) l.length (Nat.zero_add _) _ (List.nil_append _) (by omega) (by decide) (Below.size (B := w.heap.size) (by repeat (first | exact bref _ | exact hbI1 | exact hbI2 | exact hbI3 | (refine balloc ?_ _) | (refine bdrew ?_) | (refine bdrewN ?_ _)))) ?_); intro A1 c1 w1 hoI1 hgI1 hlI1; have hbI1 : Below w.heap.size w w1 := bgrown (by repeat (first | exact bref _ | exact hbI1 | exact hbI2 | exact hbI3 | (refine balloc ?_ _) | (refine bdrew ?_) | (refine bdrewN ?_ _))) hgI1 (by intro j hj; simp [Value.ownBlock] at hj; omega))
            | ((refine step_appS (by rfl) (.tmp 37) (.tmp 39) 29 3 1 8 _ (by rfl) Try.underlying29 infoI rfl (by decide) w.heap.size (.slice A1 l.length c1) l.length _ (by rfl) (by first | exact hoI1 | exact hoI1.alloc _ | exact own_drew (hoI1.alloc _)) _ 1 _ (encI x) (by rfl) rfl (news1 (by first | exact heap_new1 _ _ | exact (hgI1.block _ (by simp <;> omega) (by simp [Value.ownBlock] <;> omega)).trans (heap_new2 _ _ _) | exact (hgI1.block _ (by simp <;> omega) (by simp [Value.ownBlock] <;> omega)).trans (heap_old2 _ _ _)) rfl) (encI_one x) (l.length + 1) rfl _ rfl (by omega) (by decide) (Below.size (B := w.heap.size) (by repeat (first | exact bref _ | exact hbI1 | exact hbI2 | exact hbI3 | (refine balloc ?_ _) | (refine bdrew ?_) | (refine bdrewN ?_ _)))) ?_); intro A2 c2 w2 hoI2 hgI2 hlI2; have hbI2 : Below w.heap.size w w2 := bgrown (by repeat (first | exact bref _ | exact hbI1 | exact hbI2 | exact hbI3 | (refine balloc ?_ _) | (refine bdrew ?_) | (refine bdrewN ?_ _))) hgI2 (row_mine hoI1))
            | ((refine step_appS (by rfl) (.tmp 40) (.tmp 43) 29 3 1 8 _ (by rfl) Try.underlying29 infoI rfl (by decide) w.heap.size (.slice A2 (l.length + 1) c2) (l.length + 1) _ (by rfl) (by first | exact hoI2 | exact own_drew hoI2) _ _ _ [] (by rfl) (by simp) (fun j u hj => by simp at hj) (fun u hu => by simp at hu) ((putI x l).length) (by first | exact HN.out | (simp; done) | (have := HN.out; simpa using this)) _ HY.out (by have := HN.out; omega) (by decide) (Below.size (B := w.heap.size) (by repeat (first | exact bref _ | exact hbI1 | exact hbI2 | exact hbI3 | (refine balloc ?_ _) | (refine bdrew ?_) | (refine bdrewN ?_ _)))) ?_); intro A3 c3 w3 hoI3 hgI3 hlI3; have hbI3 : Below w.heap.size w w3 := bgrown (by repeat (first | exact bref _ | exact hbI1 | exact hbI2 | exact hbI3 | (refine balloc ?_ _) | (refine bdrew ?_) | (refine bdrewN ?_ _))) hgI3 (row_mine hoI2))
            | fail)
          all_goals
            go_wp2
            go_ret
            exact ⟨A3, c3, rfl, own_base hoI3 HB.out, hbI3⟩
end Go.Proofs.Ytifkakpiipoadaa
