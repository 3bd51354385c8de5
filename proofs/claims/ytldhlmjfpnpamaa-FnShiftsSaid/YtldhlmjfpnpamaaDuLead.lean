/-
  The chief who has an hour: impl takes the first of the sorted numbers, spec the least one.
-/
import Derived.Test.YtldhlmjfpnpamaaDuWho
namespace Go.Proofs.Ytldhlmjfpnpamaa
open Go.RowKit
attribute [local go_sem] ext_cell ext_frozen

set_option maxHeartbeats 1000000 in
theorem chiefClos_any (m : Du) (w : World) :
    Calls Try.prog 72 #[.agg #[.int .i64 m.who, .int .i64 m.bg, .int .i64 m.en, .bool m.ch]] w fun e w' => e = .returned (.bool m.ch) ∧ Below w.heap.size w w' := by
  go_enter Try.func72, Try.ntmps72
  go_wp2
  go_ret
  exact ⟨rfl, (by repeat (first | exact bref _ | (refine balloc ?_ _) | (refine bdrew ?_) | (refine bdrewN ?_ _) | (refine bstep ?_ (by assumption))))⟩
def chiefL (h : Int) (l : List Du) : List Int := whoL ((onL h l).filter Du.ch)
def leadL (h : Int) (l : List Du) : Int × Bool :=
  if onOK h l then (match chiefL h l with | [] => (0, false) | x :: _ => (x, true)) else (0, false)
theorem chiefL_no {h : Int} {l : List Du} {k : Nat} {m : Du} (hm : l[k]? = some m) (hp : (m.ch && hasH h m) = false) : chiefL h (l.take (k + 1)) = chiefL h (l.take k) := by
  unfold chiefL
  cases hh : hasH h m
  · rw [onL_miss hm hh]
  · rw [onL_hit hm hh, List.filter_append]
    have : m.ch = false := by simpa [hh] using hp
    simp [this]
theorem chiefL_yes {h : Int} {l : List Du} {k : Nat} {m : Du} (hm : l[k]? = some m) (hp : (m.ch && hasH h m) = true) : chiefL h (l.take (k + 1)) = putI m.who (chiefL h (l.take k)) := by
  unfold chiefL
  rw [Bool.and_eq_true] at hp
  rw [onL_hit hm hp.2, List.filter_append]
  simp only [List.filter_cons, hp.1, if_true, List.filter_nil]
  exact whoL_app _ _
theorem chiefL_pos {h : Int} {l : List Du} (hg : ∀ m ∈ l, duB m = true) : ∀ x ∈ chiefL h l, 1 ≤ x ∧ x ≤ 50 := fun x hx => by
  unfold chiefL whoL at hx
  rw [putAll_mem, List.mem_map] at hx
  obtain ⟨m, hm, rfl⟩ := hx
  have h1 := (List.mem_filter.1 hm).1
  unfold onL at h1
  exact (duB_bounds (hg m (List.mem_filter.1 h1).1)).1

set_option maxRecDepth 100000 in
set_option maxHeartbeats 1000000 in
theorem iLead_any (l : List Du) (A : Option Addr) (c : Nat) (h : Int) (w : World) (hr : RowAt 4 encDu w A l) (hlen : l.length ≤ 2097152) (hcap : l.length ≤ c) :
    Calls Try.prog 36 #[.slice A l.length c, .int .i64 h] w fun e w' => e = .returned (.tuple #[.int .i64 (leadL h l).1, .bool (leadL h l).2]) ∧ Below w.heap.size w w' := by
  have HR := Lib.hid hr
  clear hr
  cases hg : goodDu l <;> cases h2 : inB h 0 9998
  case true.true =>
    have e2 : onOK h l = true := by simp [onOK, hg, h2]
    have HE := Lib.hid (show leadL h l = (match chiefL h l with | [] => (0, false) | x :: _ => (x, true)) by simp only [leadL, e2, if_true])
    clear e2
    have HG := Lib.hid (goodDu_all hg)
    have hle := onL_le h l
    have hle2 : ((onL h l).filter Du.ch).length ≤ (onL h l).length := List.length_filter_le _ _
    have HW := fun (A2 : Option Addr) (c2 : Nat) (w2 : World) (hr2 : RowAt 4 encDu w2 A2 (onL h l)) => filterDu_any (onL h l) A2 c2 72 #[] Du.ch (enters_of Try.func72 (by kernel_rfl) rfl) w2 hr2 (by omega) (fun w3 _ m _ => chiefClos_any m w3)
    have HF := Lib.hid HW
    clear HW
    have hq : chiefL h l = whoL ((onL h l).filter Du.ch) := rfl
    rcases hC : chiefL h l with _ | ⟨x, D⟩
    all_goals
      have HC := Lib.hid (hq.symm.trans hC)
      have HE2 := Lib.hid (HE.out.trans (by rw [hC]))
      have hn : (whoL ((onL h l).filter Du.ch)).length = _ := congrArg List.length HC.out
      clear hC HE hq
      go_enter Try.func36, Try.ntmps36
      go_wp2_with (first | (go_at_call 20; (with_reducible refine (iAreDu_any l _ _ _ HR.out hlen hcap).mono ?_); rintro e w1 ⟨rfl, hb1⟩; obtain ⟨hc_hb1, hf_hb1, hz_hb1⟩ := bcell (B := w.heap.size) (by first | omega | (simp; done) | (simp; omega)) hb1) | (go_at_call 54; (with_reducible refine (in_any _ _ _ _).mono ?_); rintro e w' ⟨rfl, rfl⟩) | (go_at_call 66; (with_reducible refine (onDuty_any l _ _ h _ (HR.out.below hb1) hlen HG.out).mono ?_); rintro e w2 ⟨A2, c2, rfl, ho2, hb2⟩; have HO := Lib.hid (RowAt.of_own ho2 encDu_len (by omega)); clear ho2) | (go_at_call 71; (with_reducible refine (HF.out _ _ _ HO.out).mono ?_); rintro e w3 ⟨A3, c3, rfl, ho3, hb3⟩; have HO3 := Lib.hid (RowAt.of_own ho3 encDu_len (by omega)); clear ho3))
      refine (whos_any ((onL h l).filter Du.ch) _ _ _ HO3.out (by omega)).mono ?_; rintro e w4 ⟨A4, c4, rfl, ho4, hb4⟩
      have HO4 := Lib.hid (RowAt.of_own ho4 encI_len (by omega))
      rw [HC.out] at HO4
      rw [hn]
      have b4 := bstep (bstep (bstep hb1 hb2) hb3) hb4
      clear ho4 hn hc_hb1 hf_hb1
    · simp only [List.length_nil]
      go_wp2
      go_ret2
      exact ⟨ret_ib HE2.out, b4⟩
    · obtain ⟨b, off, rfl, hb, q0⟩ := HO4.out.i (show (x :: D)[0]? = some x from rfl)
      have n1 : ¬ ((x :: D).length : Int) = 0 := by simp <;> omega
      have n2 : (0 : Int) < ((x :: D).length : Int) := by simp <;> omega
      simp only [Nat.add_zero] at q0
      generalize (x :: D).length = N at *
      go_wp2
      go_ret2
      exact ⟨ret_ib HE2.out, b4⟩
  all_goals
    have e2 : onOK h l = false := by simp [onOK, hg, h2]
    have e : leadL h l = (0, false) := by simp [leadL, e2]
    rw [e]
    clear e e2
    go_enter Try.func36, Try.ntmps36
    go_wp2_with (first | (go_at_call 20; (with_reducible refine (iAreDu_any l _ _ _ HR.out hlen hcap).mono ?_); rintro e w1 ⟨rfl, hb1⟩; obtain ⟨hc_hb1, hf_hb1, hz_hb1⟩ := bcell (B := w.heap.size) (by first | omega | (simp; done) | (simp; omega)) hb1) | (go_at_call 54; (with_reducible refine (in_any _ _ _ _).mono ?_); rintro e w' ⟨rfl, rfl⟩))
    go_ret2
    exact ⟨rfl, hb1⟩

theorem head_putI {x : Int} {D : List Int} : (putI x D).headD 0 = if D = [] then x else if x < D.headD 0 then x else D.headD 0 := by
  rcases D with _ | ⟨y, ys⟩
  · rfl
  · simp only [putI]
    split
    · have : ¬ x < y := by omega
      simp [this]
    · split
      · have : ¬ x < y := by omega
        simp [this]
      · have : x < y := by omega
        simp [this]
theorem putI_ne (x : Int) (D : List Int) : putI x D ≠ [] := by
  rcases D with _ | ⟨y, ys⟩
  · simp [putI]
  · simp only [putI]
    split
    · simp
    · split <;> simp
set_option maxRecDepth 100000 in
set_option maxHeartbeats 2000000 in
theorem sLead_any (l : List Du) (A : Option Addr) (c : Nat) (h : Int) (w : World) (hr : RowAt 4 encDu w A l) (hlen : l.length ≤ 2097152) :
    Calls Try.prog 35 #[.slice A l.length c, .int .i64 h] w fun e w' => e = .returned (.tuple #[.int .i64 (leadL h l).1, .bool (leadL h l).2]) ∧ Below w.heap.size w w' := by
  have HR := Lib.hid hr
  clear hr
  cases hg : goodDu l <;> cases h2 : inB h 0 9998
  case true.true =>
    have e2 : onOK h l = true := by simp [onOK, hg, h2]
    have HE := Lib.hid (show leadL h l = ((chiefL h l).headD 0, decide ((chiefL h l).headD 0 > 0)) by
      simp only [leadL, e2, if_true]
      have hp := chiefL_pos (h := h) (goodDu_all hg)
      generalize chiefL h l = L at *
      rcases L with _ | ⟨x, D⟩
      · rfl
      · have := hp x (List.mem_cons_self)
        simp
        omega)
    clear e2
    have HG := Lib.hid (goodDu_all hg)
    go_enter Try.func35, Try.ntmps35
    go_wp2_with (first | (go_at_call 55; (with_reducible refine (sgoodDu_any l _ _ _ HR.out hlen).mono ?_); rintro e w1 ⟨rfl, hb1⟩; obtain ⟨hc_hb1, hf_hb1, hz_hb1⟩ := bcell (B := w.heap.size) (by first | omega | (simp; done) | (simp; omega)) hb1) | (go_at_call 64; (with_reducible refine (l1In_any _ _ _ _).mono ?_); rintro e w' ⟨rfl, rfl⟩))
    clear hc_hb1 hf_hb1 hg h2
    go_loopw [6, 7] (fun v i wr => ∃ (k : Nat) (B : Int) (D : List Int), k ≤ l.length ∧ i = .int .i64 k ∧ v = .int .i64 B ∧ Hid (D = chiefL h (l.take k)) ∧ Hid (B = D.headD 0) ∧ 0 ≤ B ∧ B ≤ 50 ∧ Hid (B = 0 ↔ D = []) ∧ Below w.heap.size w wr) (fun _ i _ => l.length - (intOf i).toNat)
    case atStart => exact ⟨0, 0, [], Nat.zero_le _, rfl, rfl, rfl, rfl, by omega, by omega, Lib.hid (by simp), hb1⟩
    case round =>
      obtain ⟨k, B, D, hk, rfl, rfl, HD, HB, hB0, hB1, HI, hbr⟩ := hrel
      by_cases hlt : k < l.length
      · obtain ⟨m, hm⟩ := some_get hlt
        have i0 := ib0 k
        have i1 := ib1 hlt
        obtain ⟨b, off, rfl, hb, q0, q1, q2, q3⟩ := (HR.out.below hbr).du hm
        have hw := (duB_bounds (HG.out m (List.mem_of_getElem? hm))).1
        have HM := Lib.hid hm
        clear hm
        cases hc : m.ch
        · have HN := Lib.hid (chiefL_no (h := h) HM.out (by rw [hc]; rfl))
          rw [hc] at q3
          go_wp2_with fail
          go_roundw
          case rel => exact ⟨k + 1, B, D, by omega, by go_num, rfl, Lib.hid (by rw [HN.out]; exact HD.out), HB, hB0, hB1, HI, balloc hbr _⟩
          case measure => simp [intOf]; omega
        · cases hh : hasH h m
          · have HN := Lib.hid (chiefL_no (h := h) HM.out (by rw [hc, hh]; rfl))
            have HC := Lib.hid hc
            go_wp2_with (go_at_call 65; (with_reducible refine (l17Has_any ⟨m.who, m.bg, m.en, true⟩ h _).mono ?_); rw [show hasH h ⟨m.who, m.bg, m.en, true⟩ = false from hh]; rintro e w2 ⟨rfl, hb2⟩)
            go_roundw
            case rel => exact ⟨k + 1, B, D, by omega, by go_num, rfl, Lib.hid (by rw [HN.out]; exact HD.out), HB, hB0, hB1, HI, bstep (balloc hbr _) hb2⟩
            case measure => simp [intOf]; omega
          · have HN := Lib.hid (chiefL_yes (h := h) HM.out (by rw [hc, hh]; rfl))
            have HH := Lib.hid (head_putI (x := m.who) (D := D))
            have HP := Lib.hid (putI_ne m.who D)
            have hB2 : B = 0 ∨ (¬ B = 0 ∧ m.who < B) ∨ (¬ B = 0 ∧ ¬ m.who < B) := by omega
            rcases hB2 with hz | ⟨hz, hl⟩ | ⟨hz, hl⟩
            · subst hz
              have hD0 := HI.out.1 rfl
              have HV := Lib.hid (show m.who = (putI m.who D).headD 0 by rw [HH.out, if_pos hD0])
              have HW := Lib.hid (show m.who = 0 ↔ putI m.who D = [] from ⟨fun e => absurd e (by omega), fun e => absurd e HP.out⟩)
              clear hD0
              go_wp2_with (go_at_call 65; (with_reducible refine (l17Has_any ⟨m.who, m.bg, m.en, true⟩ h _).mono ?_); rw [show hasH h ⟨m.who, m.bg, m.en, true⟩ = true from hh]; rintro e w2 ⟨rfl, hb2⟩; obtain ⟨hc_2, _, hz_2⟩ := bcell (B := wr.heap.size + 1) (by simp) hb2)
              go_roundw
              case rel => exact ⟨k + 1, m.who, putI m.who D, by omega, by go_num, rfl, Lib.hid (by rw [HN.out, HD.out]), HV, (by omega), (by omega), HW, bstep (balloc hbr _) hb2⟩
              case measure => simp [intOf]; omega
            · have hD0 : ¬ D = [] := fun e => hz (HI.out.2 e)
              have hzq : (B == 0) = false := by simpa using hz
              have HV := Lib.hid (show m.who = (putI m.who D).headD 0 by rw [HH.out, if_neg hD0, ← HB.out, if_pos hl])
              have HW := Lib.hid (show m.who = 0 ↔ putI m.who D = [] from ⟨fun e => absurd e (by omega), fun e => absurd e HP.out⟩)
              clear hD0
              go_wp2_with (go_at_call 65; (with_reducible refine (l17Has_any ⟨m.who, m.bg, m.en, true⟩ h _).mono ?_); rw [show hasH h ⟨m.who, m.bg, m.en, true⟩ = true from hh]; rintro e w2 ⟨rfl, hb2⟩; obtain ⟨hc_2, _, hz_2⟩ := bcell (B := wr.heap.size + 1) (by simp) hb2)
              go_roundw
              case rel => exact ⟨k + 1, m.who, putI m.who D, by omega, by go_num, rfl, Lib.hid (by rw [HN.out, HD.out]), HV, (by omega), (by omega), HW, bstep (balloc hbr _) hb2⟩
              case measure => simp [intOf]; omega
            · have hD0 : ¬ D = [] := fun e => hz (HI.out.2 e)
              have hzq : (B == 0) = false := by simpa using hz
              have HV := Lib.hid (show B = (putI m.who D).headD 0 by rw [HH.out, if_neg hD0, ← HB.out, if_neg hl])
              have HW := Lib.hid (show B = 0 ↔ putI m.who D = [] from ⟨fun e => absurd e (by omega), fun e => absurd e HP.out⟩)
              clear hD0
              go_wp2_with (go_at_call 65; (with_reducible refine (l17Has_any ⟨m.who, m.bg, m.en, true⟩ h _).mono ?_); rw [show hasH h ⟨m.who, m.bg, m.en, true⟩ = true from hh]; rintro e w2 ⟨rfl, hb2⟩; obtain ⟨hc_2, _, hz_2⟩ := bcell (B := wr.heap.size + 1) (by simp) hb2)
              go_roundw
              case rel => exact ⟨k + 1, B, putI m.who D, by omega, by go_num, rfl, Lib.hid (by rw [HN.out, HD.out]), HV, hB0, hB1, HW, bstep (balloc hbr _) hb2⟩
              case measure => simp [intOf]; omega
      · obtain rfl : k = l.length := by omega
        have HF := Lib.hid (show leadL h l = (B, decide (B > 0)) by rw [HE.out, HB.out, HD.out, List.take_length])
        clear HR
        go_wp2
        go_ret2
        exact ⟨by rw [HF.out]; rfl, hbr⟩
  all_goals
    have e2 : onOK h l = false := by simp [onOK, hg, h2]
    have e : leadL h l = (0, false) := by simp [leadL, e2]
    rw [e]
    clear e e2
    go_enter Try.func35, Try.ntmps35
    go_wp2_with (first | (go_at_call 55; (with_reducible refine (sgoodDu_any l _ _ _ HR.out hlen).mono ?_); rintro e w1 ⟨rfl, hb1⟩; obtain ⟨hc_hb1, hf_hb1, hz_hb1⟩ := bcell (B := w.heap.size) (by first | omega | (simp; done) | (simp; omega)) hb1) | (go_at_call 64; (with_reducible refine (l1In_any _ _ _ _).mono ?_); rintro e w' ⟨rfl, rfl⟩))
    go_ret2
    exact ⟨rfl, hb1⟩
end Go.Proofs.Ytldhlmjfpnpamaa
