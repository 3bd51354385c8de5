/-
  Two catalogues and a window: impl's and spec's test answer alike.
-/
import Derived.Test.YtlinjkfbcekepaaQuGood
import Derived.Test.YtlinjkfbcekepaaQuMatch
namespace Go.Proofs.Ytlinjkfbcekepaa
set_option linter.unusedVariables false
set_option linter.unusedSimpArgs false
set_option linter.unnecessarySimpa false
open Go.RowKit
attribute [local go_sem] ext_cell ext_frozen

def bothB (a b : List Qu) (t f : Int) : Bool := goodQu a && goodQu b && winB t f
theorem bothB_true {a b : List Qu} {t f : Int} (h : bothB a b t f = true) : goodQu a = true ∧ goodQu b = true ∧ winB t f = true := by
  unfold bothB at h
  simp only [Bool.and_eq_true] at h
  exact ⟨h.1.1, h.1.2, h.2⟩
set_option maxRecDepth 100000 in
set_option maxHeartbeats 2000000 in
theorem iBoth_any (a b : List Qu) (A B : Option Addr) (ca cb : Nat) (t f : Int) (w : World) (ha : RowAt 4 encQu w A a) (hb : RowAt 4 encQu w B b) (hla : a.length ≤ 2097152) (hlb : b.length ≤ 2097152) :
    Calls Try.prog 64 #[.slice A a.length ca, .slice B b.length cb, .int .i64 t, .int .i64 f] w fun e w' => e = .returned (.bool (bothB a b t f)) ∧ Below w.heap.size w w' := by
  have HA := Lib.hid ha
  have HB := Lib.hid hb
  clear ha hb
  cases hga : goodQu a <;> cases hgb : goodQu b
  all_goals
    go_enter Try.func64, Try.ntmps64
    go_wp2_with (first | (go_at_call 22; first | (with_reducible refine (iIsCat_any a _ _ _ HA.out hla).mono ?_; rw [hga]; rintro e w1 ⟨rfl, hb1⟩) | (with_reducible refine (iIsCat_any b _ _ _ (HB.out.below hb1) hlb).mono ?_; rw [hgb]; rintro e w2 ⟨rfl, hb2⟩)) | (go_at_call 62; (with_reducible refine (isWindow_any _ _ _).mono ?_); rintro e w' ⟨rfl, rfl⟩))
    go_ret
    exact ⟨ret_bool (by simp [bothB, hga, hgb]), by first | exact bstep hb1 hb2 | exact hb1⟩
set_option maxRecDepth 100000 in
set_option maxHeartbeats 2000000 in
theorem sBoth_any (a b : List Qu) (A B : Option Addr) (ca cb : Nat) (t f : Int) (w : World) (ha : RowAt 4 encQu w A a) (hb : RowAt 4 encQu w B b) (hla : a.length ≤ 2097152) (hlb : b.length ≤ 2097152) :
    Calls Try.prog 66 #[.slice A a.length ca, .slice B b.length cb, .int .i64 t, .int .i64 f] w fun e w' => e = .returned (.bool (bothB a b t f)) ∧ Below w.heap.size w w' := by
  have HA := Lib.hid ha
  have HB := Lib.hid hb
  clear ha hb
  cases hga : goodQu a <;> cases hgb : goodQu b
  all_goals
    go_enter Try.func66, Try.ntmps66
    go_wp2_with (first | (go_at_call 70; first | (with_reducible refine (sgoodQu_any a _ _ _ HA.out hla).mono ?_; rw [hga]; rintro e w1 ⟨rfl, hb1⟩) | (with_reducible refine (sgoodQu_any b _ _ _ (HB.out.below hb1) hlb).mono ?_; rw [hgb]; rintro e w2 ⟨rfl, hb2⟩)) | (go_at_call 59; (with_reducible refine (l16Window_any _ _ _).mono ?_); rintro e w' ⟨rfl, rfl⟩))
    go_ret
    exact ⟨ret_bool (by simp [bothB, hga, hgb]), by first | exact bstep hb1 hb2 | exact hb1⟩
end Go.Proofs.Ytlinjkfbcekepaa
