/-
  The draws of module cubes: arrivals and an origin.
-/
import Derived.Test.YtaobbkiepggafaaGreatCuDr5
namespace Go.Proofs.YtaobbkiepggafaaGreat
set_option linter.unusedVariables false
set_option linter.unusedSimpArgs false
set_option linter.unnecessarySimpa false
open Go.RowKit
attribute [local go_sem] ext_cell ext_frozen

set_option maxRecDepth 100000 in
set_option maxHeartbeats 8000000 in
theorem drawCons_any (A : Option Addr) (n c : Nat) (w : World) (h : CodeAt w A n) (hn : n ≤ 65536) :
    Calls Tryz.prog 14 #[.slice A n c] w fun e w' => ∃ (l : List Ar) (B : Option Addr) (cb : Nat) (o : Og), e = .returned (.tuple #[.slice B l.length cb, .agg #[.int .i64 o.x, .int .i64 o.y, .int .i64 o.tk]]) ∧ ArOwn w.heap.size w' l B cb ∧ Below w.heap.size w w' := by
  have hD := dr_new (w := w.alloc (.cells #[.int .i64 0, .int .i64 0, .int .i64 0] 38)) (c := c) (E := 52) (h.grown (only_of_below (balloc (bref w) (.cells #[.int .i64 0, .int .i64 0, .int .i64 0] 38)) none) (fun _ _ _ e => by cases e))
  have hz := box3_of (blk_alloc (heap_new1 w (.cells #[.int .i64 0, .int .i64 0, .int .i64 0] 38)) (.cells #[.slice A n c, .int .i64 0, .int .u64 0] 52))
  simp only [World.size_alloc] at hD
  have HD := Lib.hid hD
  have HZ := Lib.hid hz
  have hB0 : Below w.heap.size w ((w.alloc (.cells #[.int .i64 0, .int .i64 0, .int .i64 0] 38)).alloc (.cells #[.slice A n c, .int .i64 0, .int .u64 0] 52)) := balloc (balloc (bref w) _) _
  have hW0 : ((w.alloc (.cells #[.int .i64 0, .int .i64 0, .int .i64 0] 38)).alloc (.cells #[.slice A n c, .int .i64 0, .int .u64 0] 52)).heap.size = w.heap.size + 1 + 1 := by simp
  obtain ⟨W0, hW⟩ : ∃ W0, ((w.alloc (.cells #[.int .i64 0, .int .i64 0, .int .i64 0] 38)).alloc (.cells #[.slice A n c, .int .i64 0, .int .u64 0] 52)) = W0 := ⟨_, rfl⟩
  rw [hW] at HD HZ hB0 hW0
  have HB0 := Lib.hid hB0
  clear h hD hz hB0
  go_enter Tryz.func14, Tryz.ntmps14
  go_wp2_with fail
  try rw [hW]
  clear hW
  refine (known_any _ HD.out (by omega) (by omega)).mono ?_; rintro e w2 ⟨l, B, cb, o, rfl, hl, ho, ho2, hd2, hg2⟩
  have HO2 := Lib.hid ho2
  have hs2 := hg2.size
  have hgA := only_two hg2 (only_alloc (World.grownBy.refl w2 (some (w.heap.size + 1))) (.cells #[.int .i64 o.x, .int .i64 o.y, .int .i64 o.tk] 38))
  have hOF : (((((w2.alloc (.cells #[.int .i64 o.x, .int .i64 o.y, .int .i64 o.tk] 38)).setCell ⟨w.heap.size, 0, none⟩ (.int .i64 o.x)).setCell ⟨w.heap.size, 1, none⟩ (.int .i64 o.y)).setCell ⟨w.heap.size, 2, none⟩ (.int .i64 o.tk))).ownsRow W0.heap.size 71 5 (.slice B l.length cb) l.length (l.flatMap encAr) :=
    own_dr (own_dr ho2 (only_alloc (World.grownBy.refl w2 (some (w.heap.size + 1))) (.cells #[.int .i64 o.x, .int .i64 o.y, .int .i64 o.tk] 38)) (by omega)) (only_setCell (only_setCell (only_setCell (World.grownBy.refl ((w2.alloc (.cells #[.int .i64 o.x, .int .i64 o.y, .int .i64 o.tk] 38))) (some w.heap.size)) (p := ⟨w.heap.size, 0, none⟩) (.inl rfl) (.int .i64 o.x)) (p := ⟨w.heap.size, 1, none⟩) (.inl rfl) (.int .i64 o.y)) (p := ⟨w.heap.size, 2, none⟩) (.inl rfl) (.int .i64 o.tk)) (by omega)
  have hb : Below w.heap.size w (w2.alloc (.cells #[.int .i64 o.x, .int .i64 o.y, .int .i64 o.tk] 38)) := bgrown HB0.out hgA (fun k hk => by cases hk; omega)
  have hWW : Below w.heap.size w ((((w2.alloc (.cells #[.int .i64 o.x, .int .i64 o.y, .int .i64 o.tk] 38)).setCell ⟨w.heap.size, 0, none⟩ (.int .i64 o.x)).setCell ⟨w.heap.size, 1, none⟩ (.int .i64 o.y)).setCell ⟨w.heap.size, 2, none⟩ (.int .i64 o.tk)) := bset (bset (bset hb (p := ⟨w.heap.size, 0, none⟩) (Nat.le_refl _) _) (p := ⟨w.heap.size, 1, none⟩) (Nat.le_refl _) _) (p := ⟨w.heap.size, 2, none⟩) (Nat.le_refl _) _
  have hbx := (HZ.out.moved hgA (by omega)).all (.int .i64 o.x) (.int .i64 o.y) (.int .i64 o.tk)
  obtain ⟨hzz, ⟨z0, z1, z2⟩, y0, y1, y2⟩ := HZ.out.moved hgA (by omega)
  obtain ⟨_, ⟨q0, q1, q2⟩, f0, f1, f2⟩ := box3_new w2 (.int .i64 o.x) (.int .i64 o.y) (.int .i64 o.tk) 38
  clear ho2
  go_upto_region 3 with fail
  go_region
  all_goals
    go_wp2_with fail
    obtain ⟨_, ⟨s0, s1, s2⟩, _⟩ := hbx.below (bdrew (bref _))
    have hWX := bdrew hWW
    have hOX := own_drew hOF
    generalize (((((w2.alloc (.cells #[.int .i64 o.x, .int .i64 o.y, .int .i64 o.tk] 38)).setCell ⟨w.heap.size, 0, none⟩ (.int .i64 o.x)).setCell ⟨w.heap.size, 1, none⟩ (.int .i64 o.y)).setCell ⟨w.heap.size, 2, none⟩ (.int .i64 o.tk))).drew = WW at s0 s1 s2 hWX hOX ⊢
    exact bodyPost_ret (v := .tuple #[.slice B l.length cb, .agg #[.int .i64 o.x, .int .i64 o.y, .int .i64 o.tk]]) (by simp [results, Tryz.results14, go_sem, s0, s1, s2]) rfl ⟨l, B, cb, o, rfl, ⟨hl, own_base hOX (by omega)⟩, hWX⟩
set_option maxRecDepth 100000 in
set_option maxHeartbeats 2000000 in
theorem drawCnt_any (A : Option Addr) (n c : Nat) (w : World) (h : CodeAt w A n) (hn : n ≤ 65536) :
    Calls Tryz.prog 18 #[.slice A n c] w fun e w' => ∃ (l : List Ar) (B : Option Addr) (cb : Nat) (m : Cu), e = .returned (.tuple #[.slice B l.length cb, .agg #[.int .i64 m.ws, .int .i64 m.so, .int .i64 m.sd, .int .i64 m.fr, .int .i64 m.to_]]) ∧ ArOwn w.heap.size w' l B cb ∧ Below w.heap.size w w' := by
  have hz : CodeAt (w.alloc (.cells #[.int .i64 0, .int .i64 0, .int .i64 0, .int .i64 0, .int .i64 0] 26)) A n := h.grown (only_of_below (balloc (bref w) _) none) (fun _ _ _ e => by cases e)
  have HP := Lib.hid (drawPoss_any A n c _ hz hn)
  have HZ := Lib.hid (box5_new w (.int .i64 0) (.int .i64 0) (.int .i64 0) (.int .i64 0) (.int .i64 0) 26)
  have hB0 : Below w.heap.size w (w.alloc (.cells #[.int .i64 0, .int .i64 0, .int .i64 0, .int .i64 0, .int .i64 0] 26)) := balloc (bref w) _
  have hs0 : (w.alloc (.cells #[.int .i64 0, .int .i64 0, .int .i64 0, .int .i64 0, .int .i64 0] 26)).heap.size = w.heap.size + 1 := by simp
  obtain ⟨W0, hW⟩ : ∃ W0, w.alloc (.cells #[.int .i64 0, .int .i64 0, .int .i64 0, .int .i64 0, .int .i64 0] 26) = W0 := ⟨_, rfl⟩
  rw [hW] at HP HZ hB0 hs0
  have HB0 := Lib.hid hB0
  clear h hz hB0
  go_enter Tryz.func18, Tryz.ntmps18
  go_wp2_with fail
  try rw [hW]
  clear hW
  refine HP.out.mono ?_; rintro e w2 ⟨l, B, cb, m, rfl, ⟨hl, ho⟩, hb⟩
  have hWW : Below w.heap.size w (((((w2.setCell ⟨w.heap.size, 0, none⟩ (.int .i64 m.ws)).setCell ⟨w.heap.size, 1, none⟩ (.int .i64 m.so)).setCell ⟨w.heap.size, 2, none⟩ (.int .i64 m.sd)).setCell ⟨w.heap.size, 3, none⟩ (.int .i64 m.fr)).setCell ⟨w.heap.size, 4, none⟩ (.int .i64 m.to_)) := (bset (bset (bset (bset (bset (bstep HB0.out (hb.mono (by omega))) (p := ⟨w.heap.size, 0, none⟩) (Nat.le_refl _) _) (p := ⟨w.heap.size, 1, none⟩) (Nat.le_refl _) _) (p := ⟨w.heap.size, 2, none⟩) (Nat.le_refl _) _) (p := ⟨w.heap.size, 3, none⟩) (Nat.le_refl _) _) (p := ⟨w.heap.size, 4, none⟩) (Nat.le_refl _) _)
  have hbx := (HZ.out.below hb).all (.int .i64 m.ws) (.int .i64 m.so) (.int .i64 m.sd) (.int .i64 m.fr) (.int .i64 m.to_)
  have hOF : ((((((w2.setCell ⟨w.heap.size, 0, none⟩ (.int .i64 m.ws)).setCell ⟨w.heap.size, 1, none⟩ (.int .i64 m.so)).setCell ⟨w.heap.size, 2, none⟩ (.int .i64 m.sd)).setCell ⟨w.heap.size, 3, none⟩ (.int .i64 m.fr)).setCell ⟨w.heap.size, 4, none⟩ (.int .i64 m.to_))).ownsRow W0.heap.size 71 5 (.slice B l.length cb) l.length (l.flatMap encAr) := own_dr ho (only_setCell (only_setCell (only_setCell (only_setCell (only_setCell (World.grownBy.refl w2 (some w.heap.size)) (p := ⟨w.heap.size, 0, none⟩) (.inl rfl) (.int .i64 m.ws)) (p := ⟨w.heap.size, 1, none⟩) (.inl rfl) (.int .i64 m.so)) (p := ⟨w.heap.size, 2, none⟩) (.inl rfl) (.int .i64 m.sd)) (p := ⟨w.heap.size, 3, none⟩) (.inl rfl) (.int .i64 m.fr)) (p := ⟨w.heap.size, 4, none⟩) (.inl rfl) (.int .i64 m.to_)) (by omega)
  obtain ⟨hzz, ⟨z0, z1, z2, z3, z4⟩, y0, y1, y2, y3, y4⟩ := HZ.out.below hb
  clear ho
  go_wp2_with fail
  obtain ⟨_, ⟨s0, s1, s2, s3, s4⟩, _⟩ := hbx
  generalize (((((w2.setCell ⟨w.heap.size, 0, none⟩ (.int .i64 m.ws)).setCell ⟨w.heap.size, 1, none⟩ (.int .i64 m.so)).setCell ⟨w.heap.size, 2, none⟩ (.int .i64 m.sd)).setCell ⟨w.heap.size, 3, none⟩ (.int .i64 m.fr)).setCell ⟨w.heap.size, 4, none⟩ (.int .i64 m.to_)) = WW at s0 s1 s2 s3 s4 hWW hOF ⊢
  exact bodyPost_ret (v := .tuple #[.slice B l.length cb, .agg #[.int .i64 m.ws, .int .i64 m.so, .int .i64 m.sd, .int .i64 m.fr, .int .i64 m.to_]]) (by simp [results, Tryz.results18, go_sem, s0, s1, s2, s3, s4]) rfl ⟨l, B, cb, m, rfl, ⟨hl, own_base hOF (by omega)⟩, hWW⟩
end Go.Proofs.YtaobbkiepggafaaGreat
