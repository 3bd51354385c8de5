/-
  The first lost numbers.
-/
import Derived.Test.YtifkakpiipoadaaPkLost
import Derived.Test.YtifkakpiipoadaaIn
namespace Go.Proofs.Ytifkakpiipoadaa
set_option linter.unusedVariables false
set_option linter.unusedSimpArgs false
set_option linter.unnecessarySimpa false
open Go.RowKit
attribute [local go_sem] ext_cell ext_frozen

def askOK (n : Int) (l : List PP) : Bool := lostOK l && inB n 0 100
def askR (n : Int) (l : List PP) : List Int := if askOK n l then (lostR l).take n.toNat else []
theorem askR_le (n : Int) (l : List PP) : (askR n l).length ≤ 100 := by
  unfold askR; split
  · have := lostR_le l
    rw [List.length_take]; omega
  · simp
theorem flat_take (l : List Int) : ∀ k, (l.flatMap encI).take (k * 1) = (l.take k).flatMap encI := by
  induction l with
  | nil => intro k; simp
  | cons x l ih =>
    intro k
    rcases k with _ | k
    · simp
    · have := ih k
      rw [Nat.mul_one] at this ⊢
      simp [encI, this]
def minI (a b : Int) : Int := if a < b then a else b
set_option maxHeartbeats 400000 in
theorem l1Least_any (a b : Int) (w : World) :
    Calls Try.prog 83 #[.int .i64 a, .int .i64 b] w fun e w' => e = .returned (.int .i64 (minI a b)) ∧ w = w' := by
  by_cases h : a < b
  all_goals
    go_enter Try.func83, Try.ntmps83
    go_wp2
    go_ret
    exact ⟨ret_int (by unfold minI; split <;> omega), rfl⟩

set_option maxRecDepth 100000 in
set_option maxHeartbeats 2000000 in
theorem iAsk_any (l : List Pk) (A : Option Addr) (c : Nat) (n : Int) (w : World) (hr : PkAt w A l) (hlen : tot l ≤ 1048576) :
    Calls Try.prog 42 #[.slice A l.length c, .int .i64 n] w (MkS2 3 1 (askR n (plS l)).length ((askR n (plS l)).flatMap encI) (askOK n (plS l)) w) := by
  have HL := Lib.hid (iLost_any l A c w hr hlen)
  clear hr
  cases hk : lostOK (plS l)
  · have HK := Lib.hid (show askOK n (plS l) = false by simp [askOK, hk])
    have HE := Lib.hid (show askR n (plS l) = [] by simp [askR, HK.out])
    go_enter Try.func42, Try.ntmps42
    go_wp2_with (first | (go_at_call 40; (with_reducible refine (HL.out).mono ?_); rw [hk]; rintro e w1 ⟨A1, c1, rfl, ho1, hb1⟩; clear ho1) | (go_at_call 84; (with_reducible refine (in_any _ _ _ _).mono ?_); rintro e w' ⟨rfl, rfl⟩))
    go_ret2
    rw [HE.out, HK.out]
    exact ⟨none, 0, rfl, World.ownsRow_nil _ _ _ _, hb1⟩
  · cases h2 : inB n 0 100
    · have HK := Lib.hid (show askOK n (plS l) = false by simp [askOK, h2])
      have HE := Lib.hid (show askR n (plS l) = [] by simp [askR, HK.out])
      go_enter Try.func42, Try.ntmps42
      go_wp2_with (first | (go_at_call 40; (with_reducible refine (HL.out).mono ?_); rw [hk]; rintro e w1 ⟨A1, c1, rfl, ho1, hb1⟩; clear ho1) | (go_at_call 84; (with_reducible refine (in_any _ _ _ _).mono ?_); rintro e w' ⟨rfl, rfl⟩))
      go_ret2
      rw [HE.out, HK.out]
      exact ⟨none, 0, rfl, World.ownsRow_nil _ _ _ _, hb1⟩
    · have HK := Lib.hid (show askOK n (plS l) = true by simp [askOK, hk, h2])
      have HE := Lib.hid (show askR n (plS l) = (lostR (plS l)).take n.toNat by simp [askR, HK.out])
      have hb2 := inB_true h2
      have HF := Lib.hid (flat_take (lostR (plS l)))
      go_enter Try.func42, Try.ntmps42
      go_wp2_with (first | (go_at_call 40; (with_reducible refine (HL.out).mono ?_); rw [hk]; rintro e w1 ⟨A1, c1, rfl, ho1, hb1⟩; have hcp := own_cap ho1; have hm0 : (0 : Int) ≤ min n ((lostR (plS l)).length : Int) := (by omega); have hm1 : min n ((lostR (plS l)).length : Int) ≤ (c1 : Int) := (by omega); have HO := Lib.hid ho1; clear ho1) | (go_at_call 84; (with_reducible refine (in_any _ _ _ _).mono ?_); rintro e w' ⟨rfl, rfl⟩) | fail)
      go_ret2
      have hm2 : (min n ((lostR (plS l)).length : Int)).toNat = ((lostR (plS l)).take n.toNat).length := by rw [List.length_take]; omega
      rw [HE.out, HK.out]
      rcases own_form HO.out with ⟨rfl, h0, rfl⟩ | ⟨g, rfl⟩
      · have e0 : lostR (plS l) = [] := List.eq_nil_of_length_eq_zero h0
        refine ⟨none, 0, ?_, ?_, hb1⟩
        · rw [← hm2]; rfl
        · rw [e0]; simp only [List.take_nil]; exact World.ownsRow_nil _ _ _ _
      · refine ⟨some ⟨g, 0, none⟩, c1, ?_, ?_, hb1⟩
        · rw [← hm2]; rfl
        · have h := own_cut HO.out (n' := ((lostR (plS l)).take n.toNat).length) (by rw [List.length_take]; omega)
          have e2 : (lostR (plS l)).take ((lostR (plS l)).take n.toNat).length = (lostR (plS l)).take n.toNat := by rw [List.length_take, List.take_eq_take_iff]; omega
          rw [HF.out, e2] at h
          exact h

set_option maxRecDepth 100000 in
set_option maxHeartbeats 2000000 in
theorem sAsk_any (l : List Pk) (A : Option Addr) (c : Nat) (n : Int) (w : World) (hr : PkAt w A l) (hlen : tot l ≤ 1048576) :
    Calls Try.prog 41 #[.slice A l.length c, .int .i64 n] w (MkS2 3 1 (askR n (plS l)).length ((askR n (plS l)).flatMap encI) (askOK n (plS l)) w) := by
  have HL := Lib.hid (sLost_any l A c w hr hlen)
  clear hr
  cases hk : lostOK (plS l)
  · have HK := Lib.hid (show askOK n (plS l) = false by simp [askOK, hk])
    have HE := Lib.hid (show askR n (plS l) = [] by simp [askR, HK.out])
    go_enter Try.func41, Try.ntmps41
    go_wp2_with (first | (go_at_call 39; (with_reducible refine (HL.out).mono ?_); rw [hk]; rintro e w1 ⟨A1, c1, rfl, ho1, hb1⟩; clear ho1) | (go_at_call 82; (with_reducible refine (l1In_any _ _ _ _).mono ?_); rintro e w' ⟨rfl, rfl⟩))
    go_ret2
    rw [HE.out, HK.out]
    exact ⟨some ⟨w1.heap.size, 0, none⟩, 0, rfl, own_base (own_made (cur := #[]) rfl (Nat.zero_le _)) hb1.size, balloc hb1 _⟩
  · cases h2 : inB n 0 100
    · have HK := Lib.hid (show askOK n (plS l) = false by simp [askOK, h2])
      have HE := Lib.hid (show askR n (plS l) = [] by simp [askR, HK.out])
      go_enter Try.func41, Try.ntmps41
      go_wp2_with (first | (go_at_call 39; (with_reducible refine (HL.out).mono ?_); rw [hk]; rintro e w1 ⟨A1, c1, rfl, ho1, hb1⟩; clear ho1) | (go_at_call 82; (with_reducible refine (l1In_any _ _ _ _).mono ?_); rintro e w' ⟨rfl, rfl⟩))
      go_ret2
      rw [HE.out, HK.out]
      exact ⟨some ⟨w1.heap.size, 0, none⟩, 0, rfl, own_base (own_made (cur := #[]) rfl (Nat.zero_le _)) hb1.size, balloc hb1 _⟩
    · have HK := Lib.hid (show askOK n (plS l) = true by simp [askOK, hk, h2])
      have HE := Lib.hid (show askR n (plS l) = (lostR (plS l)).take n.toNat by simp [askR, HK.out])
      have hb2 := inB_true h2
      have HF := Lib.hid (flat_take (lostR (plS l)))
      go_enter Try.func41, Try.ntmps41
      go_wp2_with (first | (go_at_call 39; (with_reducible refine (HL.out).mono ?_); rw [hk]; rintro e w1 ⟨A1, c1, rfl, ho1, hb1⟩; have hcp := own_cap ho1; have hm0 : (0 : Int) ≤ minI n ((lostR (plS l)).length : Int) := (by unfold minI; split <;> omega); have hm1 : minI n ((lostR (plS l)).length : Int) ≤ (c1 : Int) := (by unfold minI; split <;> omega); have HO := Lib.hid ho1; clear ho1) | (go_at_call 82; (with_reducible refine (l1In_any _ _ _ _).mono ?_); rintro e w' ⟨rfl, rfl⟩) | (go_at_call 83; (with_reducible refine (l1Least_any _ _ _).mono ?_); rintro e w' ⟨rfl, rfl⟩))
      go_ret2
      have hm2 : (minI n ((lostR (plS l)).length : Int)).toNat = ((lostR (plS l)).take n.toNat).length := by rw [List.length_take]; unfold minI; split <;> omega
      rw [HE.out, HK.out]
      rcases own_form HO.out with ⟨rfl, h0, rfl⟩ | ⟨g, rfl⟩
      · have e0 : lostR (plS l) = [] := List.eq_nil_of_length_eq_zero h0
        refine ⟨none, 0, ?_, ?_, hb1⟩
        · rw [← hm2]; rfl
        · rw [e0]; simp only [List.take_nil]; exact World.ownsRow_nil _ _ _ _
      · refine ⟨some ⟨g, 0, none⟩, c1, ?_, ?_, hb1⟩
        · rw [← hm2]; rfl
        · have h := own_cut HO.out (n' := ((lostR (plS l)).take n.toNat).length) (by rw [List.length_take]; omega)
          have e2 : (lostR (plS l)).take ((lostR (plS l)).take n.toNat).length = (lostR (plS l)).take n.toNat := by rw [List.length_take, List.take_eq_take_iff]; omega
          rw [HF.out, e2] at h
          exact h
end Go.Proofs.Ytifkakpiipoadaa
