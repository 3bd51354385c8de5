/-
  The draw of LocateIn: arrivals, a cube and a side.
-/
import Derived.Test.YtaobbkiepggafaaGreatCuDr5
namespace Go.Proofs.YtaobbkiepggafaaGreat
set_option linter.unusedVariables false
set_option linter.unusedSimpArgs false
set_option linter.unnecessarySimpa false
open Go.RowKit
attribute [local go_sem] ext_cell ext_frozen

set_option maxRecDepth 100000 in
set_option maxHeartbeats 8000000 in
theorem drawLoc_any (A : Option Addr) (n c : Nat) (w : World) (h : CodeAt w A n) (hn : n ≤ 65536) :
    Calls Tryz.prog 5 #[.slice A n c] w fun e w' => ∃ (l : List Ar) (B : Option Addr) (cb : Nat) (m : Cu) (s : Int), e = .returned (.tuple #[.slice B l.length cb, .agg #[.int .i64 m.ws, .int .i64 m.so, .int .i64 m.sd, .int .i64 m.fr, .int .i64 m.to_], .int .i64 s]) ∧ ArOwn w.heap.size w' l B cb ∧ Below w.heap.size w w' := by
  have hD := dr_new (w := w.alloc (.cells #[.int .i64 0, .int .i64 0, .int .i64 0, .int .i64 0, .int .i64 0] 26)) (c := c) (E := 52) (h.grown (only_of_below (balloc (bref w) (.cells #[.int .i64 0, .int .i64 0, .int .i64 0, .int .i64 0, .int .i64 0] 26)) none) (fun _ _ _ e => by cases e))
  have hz := box5_of (blk_alloc (heap_new1 w (.cells #[.int .i64 0, .int .i64 0, .int .i64 0, .int .i64 0, .int .i64 0] 26)) (.cells #[.slice A n c, .int .i64 0, .int .u64 0] 52))
  simp only [World.size_alloc] at hD
  have HD := Lib.hid hD
  have HZ := Lib.hid hz
  have hB0 : Below w.heap.size w ((w.alloc (.cells #[.int .i64 0, .int .i64 0, .int .i64 0, .int .i64 0, .int .i64 0] 26)).alloc (.cells #[.slice A n c, .int .i64 0, .int .u64 0] 52)) := balloc (balloc (bref w) _) _
  have hW0 : ((w.alloc (.cells #[.int .i64 0, .int .i64 0, .int .i64 0, .int .i64 0, .int .i64 0] 26)).alloc (.cells #[.slice A n c, .int .i64 0, .int .u64 0] 52)).heap.size = w.heap.size + 1 + 1 := by simp
  obtain ⟨W0, hW⟩ : ∃ W0, ((w.alloc (.cells #[.int .i64 0, .int .i64 0, .int .i64 0, .int .i64 0, .int .i64 0] 26)).alloc (.cells #[.slice A n c, .int .i64 0, .int .u64 0] 52)) = W0 := ⟨_, rfl⟩
  rw [hW] at HD HZ hB0 hW0
  have HB0 := Lib.hid hB0
  clear h hD hz hB0
  go_enter Tryz.func5, Tryz.ntmps5
  go_wp2_with fail
  try rw [hW]
  clear hW
  refine (known_any _ HD.out (by omega) (by omega)).mono ?_; rintro e w2 ⟨l, B, cb, o, rfl, hl, ho, ho2, hd2, hg2⟩
  have HO2 := Lib.hid ho2
  have HQ2 := Lib.hid (box3_new w2 (.int .i64 o.x) (.int .i64 o.y) (.int .i64 o.tk) 38)
  have hlt2 := hd2.lt
  have hs2 := hg2.size
  obtain ⟨_, ⟨q0, q1, q2⟩, f0, f1, f2⟩ := HQ2.out
  clear ho2
  go_wp2_with fail
  refine (cube_any o _ (hd2.alloc _) (by omega) (by omega) ho).mono ?_; rintro e w3 ⟨m, rfl, hd3, hg3⟩
  have hgx3 := only_two (only_alloc (World.grownBy.refl w2 (some (w.heap.size + 1))) (.cells #[.int .i64 o.x, .int .i64 o.y, .int .i64 o.tk] 38)) hg3
  have hg3' := only_two hg2 hgx3
  have hs3 := hgx3.size
  have hsz3 : w2.heap.size + 1 ≤ w3.heap.size := by simpa using hg3.size
  have HO3 := Lib.hid (own_dr HO2.out hgx3 (by omega))
  have HBb := Lib.hid (box5_new w3 (.int .i64 m.ws) (.int .i64 m.so) (.int .i64 m.sd) (.int .i64 m.fr) (.int .i64 m.to_) 26)
  have HDb := Lib.hid (hd3.alloc (.cells #[.int .i64 m.ws, .int .i64 m.so, .int .i64 m.sd, .int .i64 m.fr, .int .i64 m.to_] 26))
  have HGb := Lib.hid (only_alloc hg3' (.cells #[.int .i64 m.ws, .int .i64 m.so, .int .i64 m.sd, .int .i64 m.fr, .int .i64 m.to_] 26))
  have HOb := Lib.hid (own_dr HO3.out (only_alloc (World.grownBy.refl w3 (some (w.heap.size + 1))) (.cells #[.int .i64 m.ws, .int .i64 m.so, .int .i64 m.sd, .int .i64 m.fr, .int .i64 m.to_] 26)) (by omega))
  clear q0 q1 q2 f0 f1 f2 hd2 hd3 hg2 hg3 hgx3 hg3' HO3 HO2
  go_upto_region 4 with fail
  generalize w3.alloc (.cells #[.int .i64 m.ws, .int .i64 m.so, .int .i64 m.sd, .int .i64 m.fr, .int .i64 m.to_] 26) = wb at HBb HDb HGb HOb ⊢
  have hltb := HDb.out.lt
  have hwb := HBb.out.1
  have HKB := Lib.hid (fun (W : World) (h : wb.grownBy W (some (w.heap.size + 1))) => (HBb.out.moved h (by omega)).2.1)
  have hne5 : w3.heap.size ≠ w.heap.size := by omega
  have HKS := Lib.hid (fun (W : World) (h : wb.grownBy W (some (w.heap.size + 1))) => show (((((W.setCell ⟨w.heap.size, 0, none⟩ (.int .i64 m.ws)).setCell ⟨w.heap.size, 1, none⟩ (.int .i64 m.so)).setCell ⟨w.heap.size, 2, none⟩ (.int .i64 m.sd)).setCell ⟨w.heap.size, 3, none⟩ (.int .i64 m.fr)).setCell ⟨w.heap.size, 4, none⟩ (.int .i64 m.to_)).cell? ⟨w3.heap.size, 0, none⟩ = some (.int .i64 m.ws) ∧ (((((W.setCell ⟨w.heap.size, 0, none⟩ (.int .i64 m.ws)).setCell ⟨w.heap.size, 1, none⟩ (.int .i64 m.so)).setCell ⟨w.heap.size, 2, none⟩ (.int .i64 m.sd)).setCell ⟨w.heap.size, 3, none⟩ (.int .i64 m.fr)).setCell ⟨w.heap.size, 4, none⟩ (.int .i64 m.to_)).cell? ⟨w3.heap.size, 1, none⟩ = some (.int .i64 m.so) ∧ (((((W.setCell ⟨w.heap.size, 0, none⟩ (.int .i64 m.ws)).setCell ⟨w.heap.size, 1, none⟩ (.int .i64 m.so)).setCell ⟨w.heap.size, 2, none⟩ (.int .i64 m.sd)).setCell ⟨w.heap.size, 3, none⟩ (.int .i64 m.fr)).setCell ⟨w.heap.size, 4, none⟩ (.int .i64 m.to_)).cell? ⟨w3.heap.size, 2, none⟩ = some (.int .i64 m.sd) ∧ (((((W.setCell ⟨w.heap.size, 0, none⟩ (.int .i64 m.ws)).setCell ⟨w.heap.size, 1, none⟩ (.int .i64 m.so)).setCell ⟨w.heap.size, 2, none⟩ (.int .i64 m.sd)).setCell ⟨w.heap.size, 3, none⟩ (.int .i64 m.fr)).setCell ⟨w.heap.size, 4, none⟩ (.int .i64 m.to_)).cell? ⟨w3.heap.size, 3, none⟩ = some (.int .i64 m.fr) ∧ (((((W.setCell ⟨w.heap.size, 0, none⟩ (.int .i64 m.ws)).setCell ⟨w.heap.size, 1, none⟩ (.int .i64 m.so)).setCell ⟨w.heap.size, 2, none⟩ (.int .i64 m.sd)).setCell ⟨w.heap.size, 3, none⟩ (.int .i64 m.fr)).setCell ⟨w.heap.size, 4, none⟩ (.int .i64 m.to_)).cell? ⟨w3.heap.size, 4, none⟩ = some (.int .i64 m.to_) from ((((((HBb.out.moved h (by omega)).far hne5 (o := 0) (.int .i64 m.ws)).far hne5 (o := 1) (.int .i64 m.so)).far hne5 (o := 2) (.int .i64 m.sd)).far hne5 (o := 3) (.int .i64 m.fr)).far hne5 (o := 4) (.int .i64 m.to_)).2.1)
  go_region_held3 (fun w' => w'.cell? ⟨w3.heap.size, 0, none⟩ = some (.int .i64 m.ws) ∧ w'.cell? ⟨w3.heap.size, 1, none⟩ = some (.int .i64 m.so) ∧ w'.cell? ⟨w3.heap.size, 2, none⟩ = some (.int .i64 m.sd) ∧ w'.cell? ⟨w3.heap.size, 3, none⟩ = some (.int .i64 m.fr) ∧ w'.cell? ⟨w3.heap.size, 4, none⟩ = some (.int .i64 m.to_))
    (first | (refine HKB.out _ ?_; (repeat (first | exact World.grownBy.refl _ _ | exact hgX | (refine only_alloc ?_ _) | (refine only_drew ?_) | (refine only_drewN ?_ _))); done) | (refine HKS.out _ ?_; (repeat (first | exact World.grownBy.refl _ _ | exact hgX | (refine only_alloc ?_ _) | (refine only_drew ?_) | (refine only_drewN ?_ _))); done) | fail)
    (first
    | (go_at_call 26; (with_reducible refine (l1Most_any _ _ _).mono ?_); rintro e w' ⟨rfl, rfl⟩)
    | (go_at_call 25; ((with_reducible refine (among_dr (w0 := W0) (K := 460) (A := A) (n := n) (c := c) [m.sd, maxI 1 (IntKind.i64.wrap (m.sd.tdiv 2)), maxI 1 (IntKind.i64.wrap (m.sd.tdiv 4)), maxI 1 (IntKind.i64.wrap (m.sd.tdiv 8)), 3, 1024] 6 _ _ _ ?_ (by omega) (by omega) ?_ ?_ ?_ (by decide) (by decide)).mono ?_); exact (HDb.out.below (by repeat (first | exact bref _ | exact hbX | (refine balloc ?_ _) | (refine bdrew ?_) | (refine bdrewN ?_ _)))).more (by omega); exact RowAt.of_block encI_len (by first | exact heap_new1 _ _ | exact heap_new2 _ _ _) rfl; (first | omega | (simp <;> omega)); rfl); rintro e w5 ⟨v5, rfl, hv5, hd5, hg5⟩; have hgX : wb.grownBy w5 (some (w.heap.size + 1)) := only_two (by repeat (first | exact World.grownBy.refl _ _ | exact hgX | (refine only_alloc ?_ _) | (refine only_drew ?_) | (refine only_drewN ?_ _))) hg5; obtain ⟨hzz, ⟨z0, z1, z2, z3, z4⟩, y0, y1, y2, y3, y4⟩ := HZ.out.moved (only_two HGb.out hgX) (by omega); clear hd5 hv5 hg5)
    | fail)
  all_goals
    have hG := only_two HGb.out hgX
    have hb : Below w.heap.size w w5 := bgrown HB0.out hG (fun k hk => by cases hk; omega)
    have hWW : Below w.heap.size w (((((w5.setCell ⟨w.heap.size, 0, none⟩ (.int .i64 m.ws)).setCell ⟨w.heap.size, 1, none⟩ (.int .i64 m.so)).setCell ⟨w.heap.size, 2, none⟩ (.int .i64 m.sd)).setCell ⟨w.heap.size, 3, none⟩ (.int .i64 m.fr)).setCell ⟨w.heap.size, 4, none⟩ (.int .i64 m.to_)) := (bset (bset (bset (bset (bset hb (p := ⟨w.heap.size, 0, none⟩) (Nat.le_refl _) _) (p := ⟨w.heap.size, 1, none⟩) (Nat.le_refl _) _) (p := ⟨w.heap.size, 2, none⟩) (Nat.le_refl _) _) (p := ⟨w.heap.size, 3, none⟩) (Nat.le_refl _) _) (p := ⟨w.heap.size, 4, none⟩) (Nat.le_refl _) _)
    have hbx := (HZ.out.moved hG (by omega)).all (.int .i64 m.ws) (.int .i64 m.so) (.int .i64 m.sd) (.int .i64 m.fr) (.int .i64 m.to_)
    have hOF : ((((((w5.setCell ⟨w.heap.size, 0, none⟩ (.int .i64 m.ws)).setCell ⟨w.heap.size, 1, none⟩ (.int .i64 m.so)).setCell ⟨w.heap.size, 2, none⟩ (.int .i64 m.sd)).setCell ⟨w.heap.size, 3, none⟩ (.int .i64 m.fr)).setCell ⟨w.heap.size, 4, none⟩ (.int .i64 m.to_))).ownsRow W0.heap.size 71 5 (.slice B l.length cb) l.length (l.flatMap encAr) := own_dr (own_dr HOb.out hgX (by omega)) (only_setCell (only_setCell (only_setCell (only_setCell (only_setCell (World.grownBy.refl w5 (some w.heap.size)) (p := ⟨w.heap.size, 0, none⟩) (.inl rfl) (.int .i64 m.ws)) (p := ⟨w.heap.size, 1, none⟩) (.inl rfl) (.int .i64 m.so)) (p := ⟨w.heap.size, 2, none⟩) (.inl rfl) (.int .i64 m.sd)) (p := ⟨w.heap.size, 3, none⟩) (.inl rfl) (.int .i64 m.fr)) (p := ⟨w.heap.size, 4, none⟩) (.inl rfl) (.int .i64 m.to_)) (by omega)
    go_wp2_with fail
    obtain ⟨_, ⟨s0, s1, s2, s3, s4⟩, _⟩ := hbx
    generalize (((((w5.setCell ⟨w.heap.size, 0, none⟩ (.int .i64 m.ws)).setCell ⟨w.heap.size, 1, none⟩ (.int .i64 m.so)).setCell ⟨w.heap.size, 2, none⟩ (.int .i64 m.sd)).setCell ⟨w.heap.size, 3, none⟩ (.int .i64 m.fr)).setCell ⟨w.heap.size, 4, none⟩ (.int .i64 m.to_)) = WW at s0 s1 s2 s3 s4 hWW hOF ⊢
    exact bodyPost_ret (v := .tuple #[.slice B l.length cb, .agg #[.int .i64 m.ws, .int .i64 m.so, .int .i64 m.sd, .int .i64 m.fr, .int .i64 m.to_], .int .i64 v5]) (by simp [results, Tryz.results5, go_sem, s0, s1, s2, s3, s4]) rfl ⟨l, B, cb, m, v5, rfl, ⟨hl, own_base hOF (by omega)⟩, hWW⟩
end Go.Proofs.YtaobbkiepggafaaGreat
