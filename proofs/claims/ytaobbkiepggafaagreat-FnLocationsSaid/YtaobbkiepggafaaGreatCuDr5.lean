/-
  The draws of module cubes: what the laws ask for.
-/
import Derived.Test.YtaobbkiepggafaaGreatCuDr2
import Derived.Test.YtaobbkiepggafaaGreatCuDr4
import Derived.Test.YtaobbkiepggafaaGreatCurs
import Derived.Deep.CutRange
namespace Go.Proofs.YtaobbkiepggafaaGreat
set_option linter.unusedVariables false
set_option linter.unusedSimpArgs false
set_option linter.unnecessarySimpa false
open Go.RowKit
attribute [local go_sem] ext_cell ext_frozen

def ArOwn (base : Nat) (w : World) (l : List Ar) (B : Option Addr) (cb : Nat) : Prop := l.length ≤ 9 ∧ w.ownsRow base 71 5 (.slice B l.length cb) l.length (l.flatMap encAr)
set_option maxRecDepth 100000 in
set_option maxHeartbeats 8000000 in
theorem drawPoss_any (A : Option Addr) (n c : Nat) (w : World) (h : CodeAt w A n) (hn : n ≤ 65536) :
    Calls Tryz.prog 45 #[.slice A n c] w fun e w' => ∃ (l : List Ar) (B : Option Addr) (cb : Nat) (m : Cu), e = .returned (.tuple #[.slice B l.length cb, .agg #[.int .i64 m.ws, .int .i64 m.so, .int .i64 m.sd, .int .i64 m.fr, .int .i64 m.to_]]) ∧ ArOwn w.heap.size w' l B cb ∧ Below w.heap.size w w' := by
  have hD := dr_new (w := w.alloc (.cells #[.int .i64 0, .int .i64 0, .int .i64 0, .int .i64 0, .int .i64 0] 26)) (c := c) (E := 52) (h.grown (only_of_below (balloc (bref w) (.cells #[.int .i64 0, .int .i64 0, .int .i64 0, .int .i64 0, .int .i64 0] 26)) none) (fun _ _ _ e => by cases e))
  have hz := box5_of (blk_alloc (heap_new1 w (.cells #[.int .i64 0, .int .i64 0, .int .i64 0, .int .i64 0, .int .i64 0] 26)) (.cells #[.slice A n c, .int .i64 0, .int .u64 0] 52))
  simp only [World.size_alloc] at hD
  have HD := Lib.hid hD
  have HZ := Lib.hid hz
  have hB0 : Below w.heap.size w ((w.alloc (.cells #[.int .i64 0, .int .i64 0, .int .i64 0, .int .i64 0, .int .i64 0] 26)).alloc (.cells #[.slice A n c, .int .i64 0, .int .u64 0] 52)) := balloc (balloc (bref w) _) _
  have hW0 : ((w.alloc (.cells #[.int .i64 0, .int .i64 0, .int .i64 0, .int .i64 0, .int .i64 0] 26)).alloc (.cells #[.slice A n c, .int .i64 0, .int .u64 0] 52)).heap.size = w.heap.size + 1 + 1 := by simp
  obtain ⟨W0, hW⟩ : ∃ W0, ((w.alloc (.cells #[.int .i64 0, .int .i64 0, .int .i64 0, .int .i64 0, .int .i64 0] 26)).alloc (.cells #[.slice A n c, .int .i64 0, .int .u64 0] 52)) = W0 := ⟨_, rfl⟩
  rw [hW] at HD HZ hB0 hW0
  have HB0 := Lib.hid hB0
  have FIN := Lib.hid (fun (W : World) (hg : W0.grownBy W (some (w.heap.size + 1))) (m : Cu) =>
    show Box5 (((((W.setCell ⟨w.heap.size, 0, none⟩ (.int .i64 m.ws)).setCell ⟨w.heap.size, 1, none⟩ (.int .i64 m.so)).setCell ⟨w.heap.size, 2, none⟩ (.int .i64 m.sd)).setCell ⟨w.heap.size, 3, none⟩ (.int .i64 m.fr)).setCell ⟨w.heap.size, 4, none⟩ (.int .i64 m.to_)) w.heap.size (.int .i64 m.ws) (.int .i64 m.so) (.int .i64 m.sd) (.int .i64 m.fr) (.int .i64 m.to_) ∧ Below w.heap.size w (((((W.setCell ⟨w.heap.size, 0, none⟩ (.int .i64 m.ws)).setCell ⟨w.heap.size, 1, none⟩ (.int .i64 m.so)).setCell ⟨w.heap.size, 2, none⟩ (.int .i64 m.sd)).setCell ⟨w.heap.size, 3, none⟩ (.int .i64 m.fr)).setCell ⟨w.heap.size, 4, none⟩ (.int .i64 m.to_)) from by
      have hb : Below w.heap.size w W := bgrown HB0.out hg (fun k hk => by cases hk; omega)
      exact ⟨(HZ.out.moved hg (by omega)).all _ _ _ _ _, bset (bset (bset (bset (bset hb (p := ⟨w.heap.size, 0, none⟩) (Nat.le_refl _) _) (p := ⟨w.heap.size, 1, none⟩) (Nat.le_refl _) _) (p := ⟨w.heap.size, 2, none⟩) (Nat.le_refl _) _) (p := ⟨w.heap.size, 3, none⟩) (Nat.le_refl _) _) (p := ⟨w.heap.size, 4, none⟩) (Nat.le_refl _) _⟩)
  clear h hD hz hB0
  go_enter Tryz.func45, Tryz.ntmps45
  go_wp2_with fail
  try rw [hW]
  clear hW
  refine (known_any _ HD.out (by omega) (by omega)).mono ?_; rintro e w2 ⟨l, B, cb, o, rfl, hl, ho, ho2, hd2, hg2⟩
  have HO2 := Lib.hid ho2
  have HQ2 := Lib.hid (box3_new w2 (.int .i64 o.x) (.int .i64 o.y) (.int .i64 o.tk) 38)
  have hlt2 := hd2.lt
  have hs2 := hg2.size
  clear ho2
  go_wp2_with fail
  refine (one_dr 3 _ (hd2.alloc _) (by omega) (by omega) (by decide)).mono ?_; rintro e w3 ⟨b, rfl, hd3, hg3⟩
  have hgx3 := only_two (only_alloc (World.grownBy.refl w2 (some (w.heap.size + 1))) (.cells #[.int .i64 o.x, .int .i64 o.y, .int .i64 o.tk] 38)) hg3
  have hgA := only_two hg2 hgx3
  have HO3 := Lib.hid (own_dr HO2.out hgx3 (by omega))
  have HROW := Lib.hid (fun q hq => (HO2.out.lt q hq).2)
  have HQ3 := Lib.hid (HQ2.out.moved hg3 (by omega))
  have hs3 := hgA.size
  obtain ⟨hq3, ⟨q0, q1, q2⟩, f0, f1, f2⟩ := HQ3.out
  cases b
  case false =>
    go_wp2_with fail
    refine (cube_any o _ hd3 (by omega) (by omega) ho).mono ?_; rintro e w9 ⟨m, rfl, hd9, hg9⟩
    have hgg := only_two hgA hg9
    obtain ⟨hzz, ⟨z0, z1, z2, z3, z4⟩, y0, y1, y2, y3, y4⟩ := HZ.out.moved hgg (by omega)
    have HO9 := Lib.hid (own_dr HO3.out hg9 (by omega))
    go_wp2_with fail
    have hOF : ((((((w9.setCell ⟨w.heap.size, 0, none⟩ (.int .i64 m.ws)).setCell ⟨w.heap.size, 1, none⟩ (.int .i64 m.so)).setCell ⟨w.heap.size, 2, none⟩ (.int .i64 m.sd)).setCell ⟨w.heap.size, 3, none⟩ (.int .i64 m.fr)).setCell ⟨w.heap.size, 4, none⟩ (.int .i64 m.to_))).ownsRow W0.heap.size 71 5 (.slice B l.length cb) l.length (l.flatMap encAr) := by
      have hgq : w9.grownBy ((((((w9.setCell ⟨w.heap.size, 0, none⟩ (.int .i64 m.ws)).setCell ⟨w.heap.size, 1, none⟩ (.int .i64 m.so)).setCell ⟨w.heap.size, 2, none⟩ (.int .i64 m.sd)).setCell ⟨w.heap.size, 3, none⟩ (.int .i64 m.fr)).setCell ⟨w.heap.size, 4, none⟩ (.int .i64 m.to_))) (some w.heap.size) := only_setCell (only_setCell (only_setCell (only_setCell (only_setCell (World.grownBy.refl w9 _) (p := ⟨w.heap.size, 0, none⟩) (.inl rfl) _) (p := ⟨w.heap.size, 1, none⟩) (.inl rfl) _) (p := ⟨w.heap.size, 2, none⟩) (.inl rfl) _) (p := ⟨w.heap.size, 3, none⟩) (.inl rfl) _) (p := ⟨w.heap.size, 4, none⟩) (.inl rfl) _
      exact own_dr HO9.out hgq (by omega)
    obtain ⟨hbx, hWW⟩ := FIN.out w9 hgg m
    obtain ⟨_, ⟨s0, s1, s2, s3, s4⟩, _⟩ := hbx
    generalize (((((w9.setCell ⟨w.heap.size, 0, none⟩ (.int .i64 m.ws)).setCell ⟨w.heap.size, 1, none⟩ (.int .i64 m.so)).setCell ⟨w.heap.size, 2, none⟩ (.int .i64 m.sd)).setCell ⟨w.heap.size, 3, none⟩ (.int .i64 m.fr)).setCell ⟨w.heap.size, 4, none⟩ (.int .i64 m.to_)) = WW at s0 s1 s2 s3 s4 hWW hOF ⊢
    exact bodyPost_ret (v := .tuple #[.slice B l.length cb, .agg #[.int .i64 m.ws, .int .i64 m.so, .int .i64 m.sd, .int .i64 m.fr, .int .i64 m.to_]]) (by simp [results, Tryz.results45, go_sem, s0, s1, s2, s3, s4]) rfl ⟨l, B, cb, m, rfl, ⟨hl, own_base hOF (by omega)⟩, hWW⟩
  case true =>
    go_wp2_with fail
    refine (quakeOrigin_any _ hd3 (by omega) (by omega)).mono ?_; rintro e w4 ⟨o4, rfl, ho4, hd4, hg4⟩
    have hgB := only_two hgA hg4
    clear q0 q1 q2 f0 f1 f2
    obtain ⟨hq4, ⟨q0, q1, q2⟩, f0, f1, f2⟩ := HQ3.out.moved hg4 (by omega)
    have HQ4 := Lib.hid (HQ3.out.moved hg4 (by omega))
    have HO4 := Lib.hid (own_dr HO3.out hg4 (by omega))
    go_upto_region 5 with fail
    have hq5 := HQ4.out.all (.int .i64 o4.x) (.int .i64 o4.y) (.int .i64 o4.tk)
    have hB5 : Below W0.heap.size w4 (((w4.setCell ⟨w2.heap.size, 0, none⟩ (.int .i64 o4.x)).setCell ⟨w2.heap.size, 1, none⟩ (.int .i64 o4.y)).setCell ⟨w2.heap.size, 2, none⟩ (.int .i64 o4.tk)) := (((Below.refl _ _).setCell (p := ⟨w2.heap.size, 0, none⟩) hs2 _).setCell (p := ⟨w2.heap.size, 1, none⟩) hs2 _).setCell (p := ⟨w2.heap.size, 2, none⟩) hs2 _
    have hd5 := HD.out.above hd4 hB5
    have hg5 := only_above hgB hB5
    have ho5 := own_low (B := w2.heap.size) HO4.out HROW.out (only_setCell (only_setCell (only_setCell (World.grownBy.refl w4 (some w2.heap.size)) (p := ⟨w2.heap.size, 0, none⟩) (.inl rfl) (.int .i64 o4.x)) (p := ⟨w2.heap.size, 1, none⟩) (.inl rfl) (.int .i64 o4.y)) (p := ⟨w2.heap.size, 2, none⟩) (.inl rfl) (.int .i64 o4.tk)) (fun q hq => by cases hq; exact Nat.le_refl _)
    clear q0 q1 q2 f0 f1 f2
    generalize (((w4.setCell ⟨w2.heap.size, 0, none⟩ (.int .i64 o4.x)).setCell ⟨w2.heap.size, 1, none⟩ (.int .i64 o4.y)).setCell ⟨w2.heap.size, 2, none⟩ (.int .i64 o4.tk)) = w5 at hq5 hd5 hg5 ho5 ⊢
    obtain ⟨_, ⟨q0, q1, q2⟩, _⟩ := hq5
    have HO5 := Lib.hid ho5
    clear ho5
    go_wp2_with fail
    refine (cube_any o4 _ hd5 (by omega) (by omega) ho4).mono ?_; rintro e w9 ⟨m, rfl, hd9, hg9⟩
    have hgg := only_two hg5 hg9
    obtain ⟨hzz, ⟨z0, z1, z2, z3, z4⟩, y0, y1, y2, y3, y4⟩ := HZ.out.moved hgg (by omega)
    have HO9 := Lib.hid (own_dr HO5.out hg9 (by omega))
    go_wp2_with fail
    have hOF : ((((((w9.setCell ⟨w.heap.size, 0, none⟩ (.int .i64 m.ws)).setCell ⟨w.heap.size, 1, none⟩ (.int .i64 m.so)).setCell ⟨w.heap.size, 2, none⟩ (.int .i64 m.sd)).setCell ⟨w.heap.size, 3, none⟩ (.int .i64 m.fr)).setCell ⟨w.heap.size, 4, none⟩ (.int .i64 m.to_))).ownsRow W0.heap.size 71 5 (.slice B l.length cb) l.length (l.flatMap encAr) := by
      have hgq : w9.grownBy ((((((w9.setCell ⟨w.heap.size, 0, none⟩ (.int .i64 m.ws)).setCell ⟨w.heap.size, 1, none⟩ (.int .i64 m.so)).setCell ⟨w.heap.size, 2, none⟩ (.int .i64 m.sd)).setCell ⟨w.heap.size, 3, none⟩ (.int .i64 m.fr)).setCell ⟨w.heap.size, 4, none⟩ (.int .i64 m.to_))) (some w.heap.size) := only_setCell (only_setCell (only_setCell (only_setCell (only_setCell (World.grownBy.refl w9 _) (p := ⟨w.heap.size, 0, none⟩) (.inl rfl) _) (p := ⟨w.heap.size, 1, none⟩) (.inl rfl) _) (p := ⟨w.heap.size, 2, none⟩) (.inl rfl) _) (p := ⟨w.heap.size, 3, none⟩) (.inl rfl) _) (p := ⟨w.heap.size, 4, none⟩) (.inl rfl) _
      exact own_dr HO9.out hgq (by omega)
    obtain ⟨hbx, hWW⟩ := FIN.out w9 hgg m
    obtain ⟨_, ⟨s0, s1, s2, s3, s4⟩, _⟩ := hbx
    generalize (((((w9.setCell ⟨w.heap.size, 0, none⟩ (.int .i64 m.ws)).setCell ⟨w.heap.size, 1, none⟩ (.int .i64 m.so)).setCell ⟨w.heap.size, 2, none⟩ (.int .i64 m.sd)).setCell ⟨w.heap.size, 3, none⟩ (.int .i64 m.fr)).setCell ⟨w.heap.size, 4, none⟩ (.int .i64 m.to_)) = WW at s0 s1 s2 s3 s4 hWW hOF ⊢
    exact bodyPost_ret (v := .tuple #[.slice B l.length cb, .agg #[.int .i64 m.ws, .int .i64 m.so, .int .i64 m.sd, .int .i64 m.fr, .int .i64 m.to_]]) (by simp [results, Tryz.results45, go_sem, s0, s1, s2, s3, s4]) rfl ⟨l, B, cb, m, rfl, ⟨hl, own_base hOF (by omega)⟩, hWW⟩
end Go.Proofs.YtaobbkiepggafaaGreat
