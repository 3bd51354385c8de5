/-
  impl.VotesFor, and spec's own words for IsCube and ConsistentIn's draw.
-/
import Derived.Test.YtaobbkiepggafaaGreatArCons
import Derived.Test.YtaobbkiepggafaaGreatCuOne
namespace Go.Proofs.YtaobbkiepggafaaGreat
set_option linter.unusedVariables false
set_option linter.unusedSimpArgs false
set_option linter.unnecessarySimpa false
open Go.RowKit
attribute [local go_sem] ext_cell ext_frozen

def votR (l : List Ar) (o : Og) : Int × Bool := if goodAr l && origB o then ((((l.filter fun a => fitB a o).length : Nat) : Int), true) else (0, false)
set_option maxRecDepth 100000 in
set_option maxHeartbeats 2000000 in
theorem iVot_any (l : List Ar) (o : Og) (A : Option Addr) (c : Nat) (w : World) (hr : RowAt 5 encAr w A l) (hlen : l.length ≤ 2097152) :
    Calls Tryz.prog 22 #[.slice A l.length c, .agg #[.int .i64 o.x, .int .i64 o.y, .int .i64 o.tk]] w fun e w' => e = .returned (.tuple #[.int .i64 (votR l o).1, .bool (votR l o).2]) ∧ Below w.heap.size w w' := by
  have HR := Lib.hid hr
  have HB0 := Lib.hid (boxOg w 38 o)
  clear hr
  cases h1 : goodAr l
  · have HF := Lib.hid (show votR l o = (0, false) by simp [votR, h1])
    go_enter Tryz.func22, Tryz.ntmps22
    go_wp2_with (go_at_call 51; (with_reducible refine (iAreAr_any l _ _ _ (HR.out.below (balloc (bref _) _)) hlen).mono ?_); rw [h1]; rintro e w1 ⟨rfl, hb1⟩)
    go_ret2
    exact ⟨ret_ib HF.out, bstep (balloc (bref _) _) hb1⟩
  · cases h2 : origB o
    · have HF := Lib.hid (show votR l o = (0, false) by simp [votR, h1, h2])
      go_enter Tryz.func22, Tryz.ntmps22
      go_wp2_with (first | (go_at_call 51; (with_reducible refine (iAreAr_any l _ _ _ (HR.out.below (balloc (bref _) _)) hlen).mono ?_); rw [h1]; rintro e w1 ⟨rfl, hb1⟩; obtain ⟨c0, c1, c2⟩ := cellOg (by simp) HB0.out hb1) | (go_at_call 41; (with_reducible refine (isOrigin_any o _).mono ?_); rw [h2]; rintro e w2 ⟨rfl, hb2⟩))
      go_ret2
      exact ⟨ret_ib HF.out, bstep (bstep (balloc (bref _) _) hb1) hb2⟩
    · have HF := Lib.hid (show votR l o = ((((l.filter fun a => fitB a o).length : Nat) : Int), true) by simp [votR, h1, h2])
      have HG := Lib.hid (goodAr_all (l := l) h1)
      go_enter Tryz.func22, Tryz.ntmps22
      go_wp2_with (first | (go_at_call 51; (with_reducible refine (iAreAr_any l _ _ _ (HR.out.below (balloc (bref _) _)) hlen).mono ?_); rw [h1]; rintro e w1 ⟨rfl, hb1⟩; obtain ⟨c0, c1, c2⟩ := cellOg (by simp) HB0.out hb1) | (go_at_call 41; (with_reducible refine (isOrigin_any o _).mono ?_); rw [h2]; rintro e w2 ⟨rfl, hb2⟩; obtain ⟨c0, c1, c2⟩ := cellOg (by simp) HB0.out (bstep hb1 hb2)) | (go_at_call 42; (with_reducible refine (voters_any l o _ _ _ h2 (HR.out.below (bstep (bstep (balloc (bref _) _) hb1) hb2)) hlen HG.out).mono ?_); rintro e w3 ⟨A3, c3, rfl, ho3, hb3⟩))
      go_ret2
      exact ⟨ret_ib HF.out, bstep (bstep (bstep (balloc (bref _) _) hb1) hb2) hb3⟩
end Go.Proofs.YtaobbkiepggafaaGreat
