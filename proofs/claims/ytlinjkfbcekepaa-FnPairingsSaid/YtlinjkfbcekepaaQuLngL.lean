/-
  The longest pairing: impl and spec answer alike.
-/
import Derived.Test.YtlinjkfbcekepaaQuLng
namespace Go.Proofs.Ytlinjkfbcekepaa
set_option linter.unusedVariables false
set_option linter.unusedSimpArgs false
set_option linter.unnecessarySimpa false
open Go.RowKit
attribute [local go_sem] ext_cell ext_frozen

def lngL (a b : List Qu) (t f : Int) : List P2 := if bothB a b t f then lpP a b t f 0 0 else []
theorem lngL_le (a b : List Qu) (t f : Int) : (lngL a b t f).length ≤ 10 := by
  unfold lngL
  split
  · rename_i h
    have h2 := lpP_len a b t f 0 0
    have := goodQu_len (bothB_true h).1
    omega
  · simp

set_option maxRecDepth 100000 in
set_option maxHeartbeats 2000000 in
theorem iLng_any (a b : List Qu) (A B : Option Addr) (ca cb : Nat) (t f : Int) (w : World) (ha : RowAt 4 encQu w A a) (hb : RowAt 4 encQu w B b) (hla : a.length ≤ 2097152) (hlb : b.length ≤ 2097152) :
    Calls Try.prog 19 #[.slice A a.length ca, .slice B b.length cb, .int .i64 t, .int .i64 f] w (MkS2 66 2 (lngL a b t f).length ((lngL a b t f).flatMap encP2) (bothB a b t f) w) := by
  have HA := Lib.hid ha
  have HB := Lib.hid hb
  clear ha hb
  cases hg : bothB a b t f
  · have HE := Lib.hid (show lngL a b t f = [] by simp [lngL, hg])
    go_enter Try.func19, Try.ntmps19
    go_wp2_with (go_at_call 64; (with_reducible refine (iBoth_any a b _ _ _ _ t f _ HA.out HB.out hla hlb).mono ?_); rw [hg]; rintro e w1 ⟨rfl, hb1⟩)
    go_ret2
    rw [HE.out]
    exact ⟨none, 0, rfl, World.ownsRow_nil _ _ _ _, hb1⟩
  · obtain ⟨hga, hgb, hw⟩ := bothB_true hg
    have HE := Lib.hid (show lngL a b t f = lpP a b t f 0 0 by simp [lngL, hg])
    have HL := Lib.hid (fun W h1 h2 => longest_any a b A B ca cb t f W h1 h2 (goodQu_len hga) (goodQu_len hgb) (goodQu_all hga) (goodQu_all hgb) hw)
    clear hga hgb hw
    go_enter Try.func19, Try.ntmps19
    go_wp2_with (first | (go_at_call 64; (with_reducible refine (iBoth_any a b _ _ _ _ t f _ HA.out HB.out hla hlb).mono ?_); rw [hg]; rintro e w1 ⟨rfl, hb1⟩) | (go_at_call 65; (with_reducible refine (HL.out _ (HA.out.below hb1) (HB.out.below hb1)).mono ?_); rintro e w2 ⟨A2, c2, rfl, ho2, hb2⟩))
    go_ret2
    rw [HE.out]
    exact ⟨A2, c2, rfl, own_base ho2 hb1.size, bstep hb1 hb2⟩
set_option maxRecDepth 100000 in
set_option maxHeartbeats 2000000 in
theorem sLng_any (a b : List Qu) (A B : Option Addr) (ca cb : Nat) (t f : Int) (w : World) (ha : RowAt 4 encQu w A a) (hb : RowAt 4 encQu w B b) (hla : a.length ≤ 2097152) (hlb : b.length ≤ 2097152) :
    Calls Try.prog 20 #[.slice A a.length ca, .slice B b.length cb, .int .i64 t, .int .i64 f] w (MkS2 66 2 (lngL a b t f).length ((lngL a b t f).flatMap encP2) (bothB a b t f) w) := by
  have HA := Lib.hid ha
  have HB := Lib.hid hb
  clear ha hb
  cases hg : bothB a b t f
  · have HE := Lib.hid (show lngL a b t f = [] by simp [lngL, hg])
    go_enter Try.func20, Try.ntmps20
    go_wp2_with (go_at_call 66; (with_reducible refine (sBoth_any a b _ _ _ _ t f _ HA.out HB.out hla hlb).mono ?_); rw [hg]; rintro e w1 ⟨rfl, hb1⟩)
    go_ret2
    rw [HE.out]
    exact ⟨some ⟨w1.heap.size, 0, none⟩, 0, rfl, own_base (own_made (cur := #[]) rfl (Nat.zero_le _)) hb1.size, balloc hb1 _⟩
  · obtain ⟨hga, hgb, hw⟩ := bothB_true hg
    have HE := Lib.hid (show lngL a b t f = lpP a b t f 0 0 by simp [lngL, hg])
    have HL := Lib.hid (fun W h1 h2 => l16Pairs_any a b A B ca cb t f W h1 h2 (goodQu_len hga) (goodQu_len hgb) (goodQu_all hga) (goodQu_all hgb) hw)
    clear hga hgb hw
    go_enter Try.func20, Try.ntmps20
    go_wp2_with (first | (go_at_call 66; (with_reducible refine (sBoth_any a b _ _ _ _ t f _ HA.out HB.out hla hlb).mono ?_); rw [hg]; rintro e w1 ⟨rfl, hb1⟩) | (go_at_call 67; (with_reducible refine (HL.out _ (HA.out.below hb1) (HB.out.below hb1)).mono ?_); rintro e w2 ⟨A2, c2, rfl, ho2, hb2⟩))
    go_ret2
    rw [HE.out]
    exact ⟨A2, c2, rfl, own_base ho2 hb1.size, bstep hb1 hb2⟩
end Go.Proofs.Ytlinjkfbcekepaa
