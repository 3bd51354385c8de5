/-
  The hours of somebody: impl and spec compute one number.
-/
import Derived.Test.YtldhlmjfpnpamaaDuGood
namespace Go.Proofs.Ytldhlmjfpnpamaa
open Go.RowKit
attribute [local go_sem] ext_cell ext_frozen

def hoursL (who : Int) (l : List Du) : Int := l.foldl (fun s d => if d.who = who then s + (d.en - d.bg) else s) 0
theorem hoursL_succ {who : Int} {l : List Du} {k : Nat} {m : Du} (hm : l[k]? = some m) : hoursL who (l.take (k + 1)) = if m.who = who then hoursL who (l.take k) + (m.en - m.bg) else hoursL who (l.take k) := by
  unfold hoursL
  rw [List.take_add_one, hm]
  simp [List.foldl_append]
theorem hoursL_bd {who : Int} {l : List Du} (hg : goodDu l = true) : ∀ k, k ≤ l.length → 0 ≤ hoursL who (l.take k) ∧ hoursL who (l.take k) ≤ 12 * k
  | 0, _ => by simp [hoursL]
  | k + 1, h => by
    have ih := hoursL_bd (who := who) hg k (by omega)
    obtain ⟨m, hm⟩ := some_get (show k < l.length by omega)
    have hb := (duB_bounds (goodDu_one hg hm)).2.2.2
    rw [hoursL_succ hm]
    split <;> omega
theorem goodDu_len {l : List Du} (h : goodDu l = true) : l.length ≤ 12 := allOK_len h

set_option maxHeartbeats 1000000 in
theorem iHoursOf_any (l : List Du) (A : Option Addr) (c : Nat) (who : Int) (w : World) (hr : RowAt 4 encDu w A l) (hg : goodDu l = true) :
    Calls Try.prog 63 #[.slice A l.length c, .int .i64 who] w fun e w' => e = .returned (.int .i64 (hoursL who l)) ∧ Below w.heap.size w w' := by
  have hl := goodDu_len hg
  have HR := Lib.hid hr
  have HG := Lib.hid hg
  clear hr hg
  go_enter Try.func63, Try.ntmps63
  go_wp2_with fail
  go_loopw [5, 10] (fun tv i wr => ∃ (k : Nat) (T : Int), k ≤ l.length ∧ i = .int .i64 k ∧ tv = .int .i64 T ∧ 0 ≤ T ∧ T ≤ 12 * k ∧ Hid (hoursL who (l.take k) = T) ∧ Below w.heap.size w wr) (fun _ i _ => l.length - (intOf i).toNat)
  case atStart => exact ⟨0, 0, Nat.zero_le _, rfl, rfl, by omega, by omega, rfl, bref _⟩
  case round =>
    obtain ⟨k, T, hk, rfl, rfl, hT0, hT1, HS, hbr⟩ := hrel
    by_cases hlt : k < l.length
    · obtain ⟨m, hm⟩ := some_get hlt
      have i0 := ib0 k
      have i1 := ib1 hlt
      obtain ⟨_, b2, b3, b4⟩ := duB_bounds (goodDu_one HG.out hm)
      obtain ⟨b, off, rfl, hb, q0, q1, q2, q3⟩ := (HR.out.below hbr).du hm
      have HN := Lib.hid (hoursL_succ (who := who) hm)
      clear hm
      cases hw : (m.who == who)
      · have HW := Lib.hid (show ¬ m.who = who by simpa using hw)
        go_wp2
        go_roundw
        case rel => exact ⟨k + 1, T, by omega, by go_num, rfl, by omega, by omega, Lib.hid (by rw [HN.out, if_neg HW.out, HS.out]), balloc hbr _⟩
        case measure => simp [intOf]; omega
      · have HW := Lib.hid (show m.who = who by simpa using hw)
        go_wp2
        go_roundw
        case rel => exact ⟨k + 1, T + (m.en - m.bg), by omega, by go_num, by go_num, by omega, by omega, Lib.hid (by rw [HN.out, if_pos HW.out, HS.out]), balloc hbr _⟩
        case measure => simp [intOf]; omega
    · obtain rfl : k = l.length := by omega
      have HE := Lib.hid (show hoursL who l = T by rw [← HS.out, List.take_length])
      clear HS
      go_wp2
      go_ret
      exact ⟨ret_int HE.out.symm, hbr⟩

set_option maxHeartbeats 1000000 in
theorem sHoursOf_any (l : List Du) (A : Option Addr) (c : Nat) (who : Int) (w : World) (hr : RowAt 4 encDu w A l) (hg : goodDu l = true) :
    Calls Try.prog 62 #[.slice A l.length c, .int .i64 who] w fun e w' => e = .returned (.int .i64 (hoursL who l)) ∧ Below w.heap.size w w' := by
  have hl := goodDu_len hg
  have HR := Lib.hid hr
  have HG := Lib.hid hg
  clear hr hg
  go_enter Try.func62, Try.ntmps62
  go_wp2_with fail
  go_loopw [5, 6] (fun tv i wr => ∃ (k : Nat) (T : Int), k ≤ l.length ∧ i = .int .i64 k ∧ tv = .int .i64 T ∧ 0 ≤ T ∧ T ≤ 12 * k ∧ Hid (hoursL who (l.take k) = T) ∧ Below w.heap.size w wr) (fun _ i _ => l.length - (intOf i).toNat)
  case atStart => exact ⟨0, 0, Nat.zero_le _, rfl, rfl, by omega, by omega, rfl, bref _⟩
  case round =>
    obtain ⟨k, T, hk, rfl, rfl, hT0, hT1, HS, hbr⟩ := hrel
    by_cases hlt : k < l.length
    · obtain ⟨m, hm⟩ := some_get hlt
      have i0 := ib0 k
      have i1 := ib1 hlt
      obtain ⟨_, b2, b3, b4⟩ := duB_bounds (goodDu_one HG.out hm)
      obtain ⟨b, off, rfl, hb, q0, q1, q2, q3⟩ := (HR.out.below hbr).du hm
      have HN := Lib.hid (hoursL_succ (who := who) hm)
      clear hm
      cases hw : (m.who == who)
      · have HW := Lib.hid (show ¬ m.who = who by simpa using hw)
        go_wp2
        go_roundw
        case rel => exact ⟨k + 1, T, by omega, by go_num, rfl, by omega, by omega, Lib.hid (by rw [HN.out, if_neg HW.out, HS.out]), hbr⟩
        case measure => simp [intOf]; omega
      · have HW := Lib.hid (show m.who = who by simpa using hw)
        go_wp2_with fail
        (refine wp_region_calm (by kernel_rfl) (by kernel_rfl) ?_; (repeat (go_big_quiet_step ((fail)))); refine wpQuiet_nil ?_; intro xw; have hb9 := xw.is; generalize xw.w = w9 at hb9 ⊢; clear xw)
        go_wp2
        go_roundw
        case rel => exact ⟨k + 1, T + (m.en - m.bg), by omega, by go_num, by go_num, by omega, by omega, Lib.hid (by rw [HN.out, if_pos HW.out, HS.out]), bstep hbr hb9⟩
        case measure => simp [intOf]; omega
    · obtain rfl : k = l.length := by omega
      have HE := Lib.hid (show hoursL who l = T by rw [← HS.out, List.take_length])
      clear HS
      go_wp2
      go_ret
      exact ⟨ret_int HE.out.symm, hbr⟩

def hoursOfL (who : Int) (l : List Du) : Int × Bool := if goodDu l && inB who 1 50 then (hoursL who l, true) else (0, false)

set_option maxHeartbeats 1000000 in
theorem iHours_any (l : List Du) (A : Option Addr) (c : Nat) (who : Int) (w : World) (hr : RowAt 4 encDu w A l) (hlen : l.length ≤ 2097152) (hcap : l.length ≤ c) :
    Calls Try.prog 23 #[.slice A l.length c, .int .i64 who] w fun e w' => e = .returned (.tuple #[.int .i64 (hoursOfL who l).1, .bool (hoursOfL who l).2]) ∧ Below w.heap.size w w' := by
  have HR := Lib.hid hr
  clear hr
  cases h1 : goodDu l <;> cases h2 : inB who 1 50
  case true.true =>
    have HE := Lib.hid (show hoursOfL who l = (hoursL who l, true) by simp [hoursOfL, h1, h2])
    have HG := Lib.hid h1
    go_enter Try.func23, Try.ntmps23
    go_wp2_with (first | (go_at_call 20; (with_reducible refine (iAreDu_any l _ _ _ HR.out hlen hcap).mono ?_); rintro e w1 ⟨rfl, hb1⟩; obtain ⟨hc_hb1, hf_hb1, hz_hb1⟩ := bcell (B := w.heap.size) (by first | omega | (simp; done) | (simp; omega)) hb1) | (go_at_call 53; (with_reducible refine (isWho_any _ _).mono ?_); rintro e w' ⟨rfl, rfl⟩) | (go_at_call 63; (with_reducible refine (iHoursOf_any l _ _ _ _ (HR.out.below hb1) HG.out).mono ?_); rintro e w2 ⟨rfl, hb2⟩; obtain ⟨hc_hb2, hf_hb2, hz_hb2⟩ := bcell (B := w.heap.size) (by first | omega | (simp; done) | (simp; omega)) hb2))
    go_ret2
    exact ⟨ret_ib HE.out, bstep hb1 hb2⟩
  all_goals
    have HE := Lib.hid (show hoursOfL who l = (0, false) by simp [hoursOfL, h1, h2])
    go_enter Try.func23, Try.ntmps23
    go_wp2_with (first | (go_at_call 20; (with_reducible refine (iAreDu_any l _ _ _ HR.out hlen hcap).mono ?_); rintro e w1 ⟨rfl, hb1⟩; obtain ⟨hc_hb1, hf_hb1, hz_hb1⟩ := bcell (B := w.heap.size) (by first | omega | (simp; done) | (simp; omega)) hb1) | (go_at_call 53; (with_reducible refine (isWho_any _ _).mono ?_); rintro e w' ⟨rfl, rfl⟩))
    go_ret2
    exact ⟨ret_ib HE.out, hb1⟩

set_option maxHeartbeats 1000000 in
theorem sHours_any (l : List Du) (A : Option Addr) (c : Nat) (who : Int) (w : World) (hr : RowAt 4 encDu w A l) (hlen : l.length ≤ 2097152) :
    Calls Try.prog 22 #[.slice A l.length c, .int .i64 who] w fun e w' => e = .returned (.tuple #[.int .i64 (hoursOfL who l).1, .bool (hoursOfL who l).2]) ∧ Below w.heap.size w w' := by
  have HR := Lib.hid hr
  clear hr
  cases h1 : goodDu l <;> cases h2 : inB who 1 50
  case true.true =>
    have HE := Lib.hid (show hoursOfL who l = (hoursL who l, true) by simp [hoursOfL, h1, h2])
    have HG := Lib.hid h1
    go_enter Try.func22, Try.ntmps22
    go_wp2_with (first | (go_at_call 55; (with_reducible refine (sgoodDu_any l _ _ _ HR.out hlen).mono ?_); rintro e w1 ⟨rfl, hb1⟩; obtain ⟨hc_hb1, hf_hb1, hz_hb1⟩ := bcell (B := w.heap.size) (by first | omega | (simp; done) | (simp; omega)) hb1) | (go_at_call 61; (with_reducible refine (l17Who_any _ _).mono ?_); rintro e w' ⟨rfl, rfl⟩) | (go_at_call 62; (with_reducible refine (sHoursOf_any l _ _ _ _ (HR.out.below hb1) HG.out).mono ?_); rintro e w2 ⟨rfl, hb2⟩; obtain ⟨hc_hb2, hf_hb2, hz_hb2⟩ := bcell (B := w.heap.size) (by first | omega | (simp; done) | (simp; omega)) hb2))
    go_ret2
    exact ⟨ret_ib HE.out, bstep hb1 hb2⟩
  all_goals
    have HE := Lib.hid (show hoursOfL who l = (0, false) by simp [hoursOfL, h1, h2])
    go_enter Try.func22, Try.ntmps22
    go_wp2_with (first | (go_at_call 55; (with_reducible refine (sgoodDu_any l _ _ _ HR.out hlen).mono ?_); rintro e w1 ⟨rfl, hb1⟩; obtain ⟨hc_hb1, hf_hb1, hz_hb1⟩ := bcell (B := w.heap.size) (by first | omega | (simp; done) | (simp; omega)) hb1) | (go_at_call 61; (with_reducible refine (l17Who_any _ _).mono ?_); rintro e w' ⟨rfl, rfl⟩))
    go_ret2
    exact ⟨ret_ib HE.out, hb1⟩
end Go.Proofs.Ytldhlmjfpnpamaa
