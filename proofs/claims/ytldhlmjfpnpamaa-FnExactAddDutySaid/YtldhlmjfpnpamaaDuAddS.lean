/-
  spec.AddDuty: a duty put in its place, if all are duties before and behind it.
-/
import Derived.Test.YtldhlmjfpnpamaaDuAddG
import Derived.Test.YtldhlmjfpnpamaaDuIns
import Derived.Test.YtldhlmjfpnpamaaDuHours
namespace Go.Proofs.Ytldhlmjfpnpamaa
open Go.RowKit
attribute [local go_sem] ext_cell ext_frozen

theorem addR_le (l : List Du) (d : Du) : (addR l d).length ≤ 12 := by
  unfold addR
  split
  · rename_i h
    unfold addOK at h
    rw [Bool.and_eq_true] at h
    exact goodDu_len h.2
  · simp
set_option maxRecDepth 100000 in
set_option maxHeartbeats 4000000 in
theorem sAdd_any (l : List Du) (d : Du) (A : Option Addr) (c : Nat) (w : World) (hr : RowAt 4 encDu w A l) (haf : AF A l.length c) (hcap : l.length ≤ c) (hlen : l.length ≤ 1048576) :
    Calls Try.prog 30 #[.slice A l.length c, .agg #[.int .i64 d.who, .int .i64 d.bg, .int .i64 d.en, .bool d.ch]] w (MkS2 25 4 (addR l d).length ((addR l d).flatMap encDu) (addOK l d) w) := by
  have HR := Lib.hid (hr.below (balloc (bref w) (.cells #[.int .i64 d.who, .int .i64 d.bg, .int .i64 d.en, .bool d.ch] 25)))
  have HAF := Lib.hid haf
  have HB := Lib.hid (balloc (bref w) (.cells #[.int .i64 d.who, .int .i64 d.bg, .int .i64 d.en, .bool d.ch] 25))
  have hx : w.heap.size < (w.alloc (.cells #[.int .i64 d.who, .int .i64 d.bg, .int .i64 d.en, .bool d.ch] 25)).heap.size := by simp
  have HX := Lib.hid (box4 w 25 (.int .i64 d.who) (.int .i64 d.bg) (.int .i64 d.en) (.bool d.ch))
  clear hr haf
  cases hg : goodDu l
  · have HK := Lib.hid (show addOK l d = false by simp [addOK, hg])
    have HE := Lib.hid (show addR l d = [] by simp [addR, addOK, hg])
    go_enter Try.func30, Try.ntmps30
    go_wp2_with (go_at_call 55; (with_reducible refine (sgoodDu_any l _ _ _ HR.out (by omega)).mono ?_); rw [hg]; rintro e w2 ⟨rfl, hb2⟩)
    go_ret2
    rw [HE.out, HK.out]
    exact ⟨some ⟨w2.heap.size, 0, none⟩, 0, rfl, own_base (own_made (cur := #[]) rfl (Nat.zero_le _)) (bstep HB.out hb2).size, balloc (bstep HB.out hb2) _⟩
  · cases hp : goodDu (putD d l)
    case false =>
      have HK := Lib.hid (show addOK l d = false by simp [addOK, hp])
      have HE := Lib.hid (show addR l d = [] by simp [addR, addOK, hp])
      have HPL := Lib.hid (putD_len d l)
      go_enter Try.func30, Try.ntmps30
      go_wp2_with fail
      refine (sgoodDu_any l _ _ _ HR.out (by omega)).mono ?_; rw [hg]; rintro e w2 ⟨rfl, hb2⟩
      obtain ⟨x0, x1, x2, x3⟩ := cell4D hx HX.out hb2
      go_wp2_with fail
      refine (l17Put_any l d _ _ _ (HR.out.below hb2) HAF.out hcap (by omega)).mono ?_; rintro e w3 ⟨A3, c3, rfl, ho3, hb3⟩
      have HO3 := Lib.hid ho3
      clear ho3
      go_wp2_with fail
      refine (sgoodDu_any (putD d l) _ _ _ (RowAt.of_own HO3.out encDu_len (by decide)) (by have := HPL.out; omega)).mono ?_; rw [hp]; rintro e w4 ⟨rfl, hb4⟩
      go_wp2_with fail
      go_ret2
      rw [HE.out, HK.out]
      exact ⟨some ⟨w4.heap.size, 0, none⟩, 0, rfl, own_base (own_made (cur := #[]) rfl (Nat.zero_le _)) (bstep (bstep (bstep HB.out hb2) hb3) hb4).size, balloc (bstep (bstep (bstep HB.out hb2) hb3) hb4) _⟩
    case true =>
      have HK := Lib.hid (show addOK l d = true by simp [addOK, hp, hg])
      have HE := Lib.hid (show addR l d = putD d l by simp [addR, addOK, hp, hg])
      have HPL := Lib.hid (putD_len d l)
      go_enter Try.func30, Try.ntmps30
      go_wp2_with fail
      refine (sgoodDu_any l _ _ _ HR.out (by omega)).mono ?_; rw [hg]; rintro e w2 ⟨rfl, hb2⟩
      obtain ⟨x0, x1, x2, x3⟩ := cell4D hx HX.out hb2
      go_wp2_with fail
      refine (l17Put_any l d _ _ _ (HR.out.below hb2) HAF.out hcap (by omega)).mono ?_; rintro e w3 ⟨A3, c3, rfl, ho3, hb3⟩
      have HO3 := Lib.hid ho3
      clear ho3
      go_wp2_with fail
      refine (sgoodDu_any (putD d l) _ _ _ (RowAt.of_own HO3.out encDu_len (by decide)) (by have := HPL.out; omega)).mono ?_; rw [hp]; rintro e w4 ⟨rfl, hb4⟩
      go_wp2_with fail
      go_ret2
      rw [HE.out, HK.out]
      exact ⟨A3, c3, rfl, own_base (own_below HO3.out hb4) (bstep HB.out hb2).size, bstep (bstep (bstep HB.out hb2) hb3) hb4⟩
end Go.Proofs.Ytldhlmjfpnpamaa
