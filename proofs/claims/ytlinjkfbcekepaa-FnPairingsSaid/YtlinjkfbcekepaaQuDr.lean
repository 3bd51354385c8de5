/-
  The draws of module quakes: windows, quakes, catalogues.
-/
import Derived.Test.YtlinjkfbcekepaaCurD
import Derived.Test.YtlinjkfbcekepaaQuPutQ
namespace Go.Proofs.Ytlinjkfbcekepaa
set_option linter.unusedVariables false
set_option linter.unusedSimpArgs false
set_option linter.unnecessarySimpa false
open Go.RowKit
attribute [local go_sem] ext_cell ext_frozen

set_option maxRecDepth 100000 in
set_option maxHeartbeats 2000000 in
theorem quakeWindow_any {w0 : World} {p : Nat} {A : Option Addr} {n c K : Nat} (w : World) (h : Dr w0 w p A n c K) (hk : K ≤ 800000) (hn : n ≤ 9223372036854775807) :
    Calls Try.prog 73 #[.pointer (some ⟨p, 0, none⟩)] w fun e w' => ∃ t f : Int, e = .returned (.tuple #[.int .i64 t, .int .i64 f]) ∧ Dr w0 w' p A n c (K + 4) ∧ w.grownBy w' (some p) := by
  have hlt := h.lt
  have HD := Lib.hid h
  clear h
  go_enter Try.func73, Try.ntmps73
  go_wp2_with (go_at_call 107; first | ((with_reducible refine (among_dr [0, 5, 20, 100, 1000, 10000, 10001, -1] 8 _ _ _ (HD.out.alloc _) (by omega) hn ?_ ?_ ?_ (by decide) (by decide)).mono ?_); exact RowAt.of_block encI_len (heap_new1 _ _) rfl; omega; rfl; rintro e w1 ⟨v1, rfl, hv1, hd1, hg1⟩; have HD1 := Lib.hid hd1; clear hd1; have hlt1 := HD1.out.lt; have hs1 := hg1.size) | ((with_reducible refine (among_dr [0, 5, 20, 100, 500, 501, -1, 30] 8 _ _ _ (HD1.out.alloc _) (by omega) hn ?_ ?_ ?_ (by decide) (by decide)).mono ?_); exact RowAt.of_block encI_len (heap_new1 _ _) rfl; omega; rfl; rintro e w2 ⟨v2, rfl, hv2, hd2, hg2⟩))
  go_ret2
  exact ⟨v1, v2, rfl, hd2, only_two (only_two (only_alloc (World.grownBy.refl _ _) _) hg1) (only_two (only_alloc (World.grownBy.refl _ _) _) hg2)⟩
end Go.Proofs.Ytlinjkfbcekepaa
