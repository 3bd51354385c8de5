/-
  Packets: impl's and spec's test answer alike.
-/
import Derived.Test.YtifkakpiipoadaaPkAll
import Derived.Test.YtifkakpiipoadaaIAll
import Derived.Test.YtifkakpiipoadaaIn
import Derived.Test.YtifkakpiipoadaaListed
namespace Go.Proofs.Ytifkakpiipoadaa
set_option linter.unusedVariables false
set_option linter.unusedSimpArgs false
set_option linter.unnecessarySimpa false
open Go.RowKit
attribute [local go_sem] ext_cell ext_frozen

def smp (n : Int) : Bool := inB n (-100000) 100000
def onePk (no : Int) (sm : List Int) : Bool := inB no 0 999 && (inB sm.length 1 6 && sm.all smp)
abbrev PP := Int × List Int
def goodP (l : List PP) : Bool := l.all (fun p => onePk p.1 p.2) && decide (l.length ≤ 10)
def plS (l : List Pk) : List PP := l.map Pk.pl
theorem plS_len (l : List Pk) : (plS l).length = l.length := by simp [plS]
theorem plS_get {l : List Pk} {k : Nat} {m : Pk} (h : l[k]? = some m) : (plS l)[k]? = some (m.no, m.sm) := by simp [plS, h, Pk.pl]
theorem goodP_one {l : List Pk} (h : goodP (plS l) = true) : ∀ m ∈ l, onePk m.no m.sm = true := fun m hm => by
  unfold goodP plS at h
  simp only [Bool.and_eq_true, List.all_eq_true] at h
  exact h.1 m.pl (List.mem_map.2 ⟨m, hm, rfl⟩)
theorem goodP_len {l : List Pk} (h : goodP (plS l) = true) : l.length ≤ 10 := by
  unfold goodP at h
  simp only [Bool.and_eq_true, decide_eq_true_eq, plS_len] at h
  exact h.2
theorem onePk_bounds {no : Int} {sm : List Int} (h : onePk no sm = true) : (0 ≤ no ∧ no ≤ 999) ∧ (1 ≤ sm.length ∧ sm.length ≤ 6) := by
  unfold onePk at h
  simp only [Bool.and_eq_true] at h
  have := inB_true h.2.1
  exact ⟨inB_true h.1, by omega⟩

set_option maxHeartbeats 400000 in
theorem isSample_any (n : Int) (w : World) :
    Calls Try.prog 98 #[.int .i64 n] w fun e w' => e = .returned (.bool (smp n)) ∧ Below w.heap.size w w' := by
  go_enter Try.func98, Try.ntmps98
  go_wp2_with (go_at_call 84; (with_reducible refine (in_any _ _ _ _).mono ?_); rintro e w' ⟨rfl, rfl⟩)
  go_ret
  exact ⟨rfl, (by repeat (first | exact bref _ | (refine balloc ?_ _) | (refine bdrew ?_) | (refine bdrewN ?_ _) | (refine bstep ?_ (by assumption))))⟩
set_option maxHeartbeats 1000000 in
theorem isPacket_any (no : Int) (sm : List Int) (A : Option Addr) (c : Nat) (w : World) (hr : RowAt 1 encI w A sm) (hlen : sm.length ≤ 2097152) :
    Calls Try.prog 63 #[.agg #[.int .i64 no, .slice A sm.length c]] w fun e w' => e = .returned (.bool (onePk no sm)) ∧ Below w.heap.size w w' := by
  have HA := Lib.hid (fun W (hW : Below w.heap.size w W) => allI_any sm A c 98 #[] smp (enters_of Try.func98 (by kernel_rfl) rfl) W (hr.below hW) hlen (fun w1 _ m _ => isSample_any m w1))
  clear hr
  cases h1 : inB no 0 999 <;> cases h2 : inB sm.length 1 6
  case true.true =>
    have HF := Lib.hid (show onePk no sm = sm.all smp by simp [onePk, h1, h2])
    go_enter Try.func63, Try.ntmps63
    go_wp2_with (first | (go_at_call 84; (with_reducible refine (in_any _ _ _ _).mono ?_); rintro e w' ⟨rfl, rfl⟩) | (go_at_call 97; (with_reducible refine (HA.out _ (balloc (bref _) _)).mono ?_); rintro e w1 ⟨rfl, hb1⟩))
    go_ret
    exact ⟨ret_bool HF.out.symm, bstep (balloc (bref _) _) hb1⟩
  all_goals
    have HF := Lib.hid (show onePk no sm = false by simp [onePk, h1, h2])
    go_enter Try.func63, Try.ntmps63
    go_wp2_with (go_at_call 84; (with_reducible refine (in_any _ _ _ _).mono ?_); rintro e w' ⟨rfl, rfl⟩)
    go_ret
    exact ⟨ret_bool HF.out.symm, (by repeat (first | exact bref _ | (refine balloc ?_ _) | (refine bdrew ?_) | (refine bdrewN ?_ _) | (refine bstep ?_ (by assumption))))⟩

set_option maxHeartbeats 1000000 in
theorem l2Samples_any (l : List Int) (A : Option Addr) (c : Nat) (w : World) (hr : RowAt 1 encI w A l) (hlen : l.length ≤ 2097152) :
    Calls Try.prog 94 #[.slice A l.length c] w fun e w' => e = .returned (.bool (l.all smp && decide (l.length ≤ 24))) ∧ w = w' := by
  have HR := Lib.hid hr
  clear hr
  go_enter Try.func94, Try.ntmps94
  go_wp2_with fail
  go_loop [3] (fun i => ∃ k : Nat, k ≤ l.length ∧ i = .int .i64 k ∧ Hid ((l.take k).all smp = true)) (fun i => l.length - (intOf i).toNat)
  case atStart => exact ⟨0, Nat.zero_le _, rfl, Lib.hid (by simp)⟩
  case round =>
    obtain ⟨k, hk, rfl, HU⟩ := hrel
    by_cases hlt : k < l.length
    · obtain ⟨m, hm⟩ := some_get hlt
      have i0 := ib0 k
      have i1 := ib1 hlt
      obtain ⟨b, off, rfl, hb, q0⟩ := HR.out.i hm
      have HM := Lib.hid hm
      clear hm
      cases hs : inB m (-100000) 100000
      · have HF := Lib.hid (show (l.all smp && decide (l.length ≤ 24)) = false by
          rw [show l.all smp = false from by rw [List.all_eq_false]; exact ⟨m, List.mem_of_getElem? HM.out, by simp [smp, hs]⟩]; rfl)
        go_wp2_with (go_at_call 82; (with_reducible refine (l1In_any _ _ _ _).mono ?_); rintro e w' ⟨rfl, rfl⟩)
        go_ret
        exact ⟨ret_bool HF.out.symm, rfl⟩
      · have HN := Lib.hid (show (l.take (k + 1)).all smp = true by rw [List.take_add_one, HM.out, List.all_append, HU.out]; simp [smp, hs])
        go_wp2_with (go_at_call 82; (with_reducible refine (l1In_any _ _ _ _).mono ?_); rintro e w' ⟨rfl, rfl⟩)
        go_round
        case rel => exact ⟨k + 1, by omega, by go_num, HN⟩
        case measure => simp [intOf]; omega
    · obtain rfl : k = l.length := by omega
      have HF := Lib.hid (show (l.all smp && decide (l.length ≤ 24)) = decide (l.length ≤ 24) by have := HU.out; rw [List.take_length] at this; rw [this]; rfl)
      clear HU
      go_wp2
      go_ret
      exact ⟨ret_bool (by rw [HF.out, decide_eq_decide]; omega), rfl⟩

set_option maxHeartbeats 1000000 in
theorem iAreP_any (l : List Pk) (A : Option Addr) (c : Nat) (w : World) (hr : PkAt w A l) (hlen : tot l ≤ 2097152) :
    Calls Try.prog 18 #[.slice A l.length c] w fun e w' => e = .returned (.bool (goodP (plS l))) ∧ Below w.heap.size w w' := by
  have hl : l.length ≤ 2097152 := by unfold tot at hlen; omega
  have HP := Lib.hid (allPk_any l A c 63 #[] (fun p => onePk p.no p.sm) (enters_of Try.func63 (by kernel_rfl) rfl) w hr.1 hl (fun w1 hb1 m hm => isPacket_any m.no m.sm m.A m.c w1 ((hr.2 m hm).below hb1) (by have := totS_mem hm; unfold tot at hlen; omega)))
  have HE := Lib.hid (show goodP (plS l) = (l.all (fun p => onePk p.no p.sm) && decide (l.length ≤ 10)) by unfold goodP plS; rw [List.all_map, List.length_map]; rfl)
  clear hr
  by_cases h10 : l.length ≤ 10
  · have h10' : (l.length : Int) ≤ 10 := by omega
    go_enter Try.func18, Try.ntmps18
    go_wp2_with (go_at_call 62; (with_reducible refine (HP.out).mono ?_); rintro e w1 ⟨rfl, hb1⟩)
    go_ret
    exact ⟨ret_bool (by rw [HE.out]; simp [h10]), hb1⟩
  · have h10' : ¬ (l.length : Int) ≤ 10 := by omega
    go_enter Try.func18, Try.ntmps18
    go_wp2_with fail
    go_ret
    exact ⟨ret_bool (by rw [HE.out]; simp [h10]), (by repeat (first | exact bref _ | (refine balloc ?_ _) | (refine bdrew ?_) | (refine bdrewN ?_ _) | (refine bstep ?_ (by assumption))))⟩

set_option maxRecDepth 100000 in
set_option maxHeartbeats 2000000 in
theorem sgoodP_any (l : List Pk) (A : Option Addr) (c : Nat) (w : World) (hr : PkAt w A l) (hlen : tot l ≤ 2097152) :
    Calls Try.prog 61 #[.slice A l.length c] w fun e w' => e = .returned (.bool (goodP (plS l))) ∧ w = w' := by
  have hl : l.length ≤ 2097152 := by unfold tot at hlen; omega
  have HR := Lib.hid hr
  have HT := Lib.hid hlen
  have HE := Lib.hid (show goodP (plS l) = (l.all (fun p => onePk p.no p.sm) && decide (l.length ≤ 10)) by unfold goodP plS; rw [List.all_map, List.length_map]; rfl)
  clear hr hlen
  go_enter Try.func61, Try.ntmps61
  go_wp2_with fail
  go_loop [3] (fun i => ∃ k : Nat, k ≤ l.length ∧ i = .int .i64 k ∧ Hid ((l.take k).all (fun p => onePk p.no p.sm) = true)) (fun i => l.length - (intOf i).toNat)
  case atStart => exact ⟨0, Nat.zero_le _, rfl, Lib.hid (by simp)⟩
  case round =>
    obtain ⟨k, hk, rfl, HU⟩ := hrel
    by_cases hlt : k < l.length
    · obtain ⟨m, hm⟩ := some_get hlt
      have i0 := ib0 k
      have i1 := ib1 hlt
      obtain ⟨b, off, rfl, hb, q0, q1, hs⟩ := HR.out.pk hm
      have HM := Lib.hid hm
      have hl2 : m.sm.length ≤ 2097152 := by have := totS_mem (List.mem_of_getElem? hm); have := HT.out; unfold tot at this; omega
      have HS := Lib.hid (l2Samples_any m.sm m.A m.c w hs hl2)
      have HN := Lib.hid (show (l.take (k + 1)).all (fun p => onePk p.no p.sm) = onePk m.no m.sm by rw [List.take_add_one, HM.out, List.all_append, HU.out]; simp)
      have HX := Lib.hid (fun (h : onePk m.no m.sm = false) => show goodP (plS l) = false by
        rw [HE.out, show l.all (fun p => onePk p.no p.sm) = false from by rw [List.all_eq_false]; exact ⟨m, List.mem_of_getElem? HM.out, by simp [h]⟩]; rfl)
      clear hm hs hl2
      cases h1 : inB m.no 0 999
      · have HF := Lib.hid (HX.out (by simp [onePk, h1]))
        go_wp2_with (go_at_call 82; (with_reducible refine (l1In_any _ _ _ _).mono ?_); rintro e w' ⟨rfl, rfl⟩)
        go_ret
        exact ⟨ret_bool HF.out.symm, rfl⟩
      · cases h2 : inB m.sm.length 1 6
        · have HF := Lib.hid (HX.out (by simp [onePk, h1, h2]))
          go_wp2_with (go_at_call 82; (with_reducible refine (l1In_any _ _ _ _).mono ?_); rintro e w' ⟨rfl, rfl⟩)
          go_ret
          exact ⟨ret_bool HF.out.symm, rfl⟩
        · have h3 : m.sm.length ≤ 24 := by have := inB_true h2; omega
          have hsq := HS.out
          rw [show (m.sm.all smp && decide (m.sm.length ≤ 24)) = m.sm.all smp by simp [h3]] at hsq
          have HSQ := Lib.hid hsq
          clear hsq h3
          cases h4 : m.sm.all smp
          · have HF := Lib.hid (HX.out (by simp [onePk, h4]))
            go_wp2_with (first | (go_at_call 82; (with_reducible refine (l1In_any _ _ _ _).mono ?_); rintro e w' ⟨rfl, rfl⟩) | (go_at_call 94; (with_reducible refine (HSQ.out).mono ?_); rw [h4]; rintro e w' ⟨rfl, rfl⟩))
            go_ret
            exact ⟨ret_bool HF.out.symm, rfl⟩
          · have HG := Lib.hid (show onePk m.no m.sm = true by simp [onePk, h1, h2, h4])
            go_wp2_with (first | (go_at_call 82; (with_reducible refine (l1In_any _ _ _ _).mono ?_); rintro e w' ⟨rfl, rfl⟩) | (go_at_call 94; (with_reducible refine (HSQ.out).mono ?_); rw [h4]; rintro e w' ⟨rfl, rfl⟩))
            go_round
            case rel => exact ⟨k + 1, by omega, by go_num, Lib.hid (by rw [HN.out, HG.out])⟩
            case measure => simp [intOf]; omega
    · obtain rfl : k = l.length := by omega
      have HF := Lib.hid (show goodP (plS l) = decide (l.length ≤ 10) by have := HU.out; rw [List.take_length] at this; rw [HE.out, this]; rfl)
      clear HU
      go_wp2
      go_ret
      exact ⟨ret_bool (by rw [HF.out, decide_eq_decide]; omega), rfl⟩
set_option maxHeartbeats 400000 in
theorem sAreP_any (l : List Pk) (A : Option Addr) (c : Nat) (w : World) (hr : PkAt w A l) (hlen : tot l ≤ 2097152) :
    Calls Try.prog 16 #[.slice A l.length c] w fun e w' => e = .returned (.bool (goodP (plS l))) ∧ w = w' := by
  have HS := Lib.hid (sgoodP_any l A c w hr hlen)
  clear hr
  go_enter Try.func16, Try.ntmps16
  go_wp2_with (go_at_call 61; (with_reducible refine (HS.out).mono ?_); rintro e w' ⟨rfl, rfl⟩)
  go_ret
  exact ⟨rfl, rfl⟩
end Go.Proofs.Ytifkakpiipoadaa
