/-
  The draws of module quakes: what the laws ask for.
-/
import Derived.Test.YtlinjkfbcekepaaQuTwn
namespace Go.Proofs.Ytlinjkfbcekepaa
set_option linter.unusedVariables false
set_option linter.unusedSimpArgs false
set_option linter.unnecessarySimpa false
open Go.RowKit
attribute [local go_sem] ext_cell ext_frozen

set_option maxRecDepth 100000 in
set_option maxHeartbeats 4000000 in
theorem drawMat_any (A : Option Addr) (n c : Nat) (w : World) (h : CodeAt w A n) (hn : n ≤ 65536) :
    Calls Try.prog 29 #[.slice A n c] w fun e w' => ∃ (a b : List Qu) (B D : Option Addr) (cb cd : Nat) (t f : Int), e = .returned (.tuple #[.slice B a.length cb, .slice D b.length cd, .int .i64 t, .int .i64 f]) ∧ (a.length ≤ 11 ∧ b.length ≤ 11) ∧ w'.ownsRow w.heap.size 26 4 (.slice B a.length cb) a.length (a.flatMap encQu) ∧ w'.ownsRow w.heap.size 26 4 (.slice D b.length cd) b.length (b.flatMap encQu) ∧ Below w.heap.size w w' := by
  have HD := Lib.hid (dr_new (c := c) (E := 80) h)
  clear h
  go_enter Try.func29, Try.ntmps29
  go_wp2_with first | (go_at_call 72; (with_reducible refine (twins_any _ HD.out (by omega) (by omega)).mono ?_); rintro e w1 ⟨a, b, B, D, cb, cd, rfl, hl, ho1, ho2, hd1, hg1⟩; have HO1 := Lib.hid ho1; have HO2 := Lib.hid ho2; have HD1 := Lib.hid hd1; clear ho1 ho2 hd1) | (go_at_call 73; (with_reducible refine (quakeWindow_any _ HD1.out (by omega) (by omega)).mono ?_); rintro e w2 ⟨t, f, rfl, hd2, hg2⟩)
  have hp : w.heap.size < (w.alloc (.cells #[.slice A n c, .int .i64 0, .int .u64 0] 80)).heap.size := by simp
  exact bodyPost_ret (v := .tuple #[.slice B a.length cb, .slice D b.length cd, .int .i64 t, .int .i64 f]) (by simp [results, Try.results29, go_sem]) rfl ⟨a, b, B, D, cb, cd, t, f, rfl, hl, own_base (own_dr HO1.out hg2 hp) (by simp), own_base (own_dr HO2.out hg2 hp) (by simp), below_new (only_two hg1 hg2)⟩
end Go.Proofs.Ytlinjkfbcekepaa
