/-
  The draws of module cubes: cubes and an origin.
-/
import Derived.Test.YtaobbkiepggafaaCuDr5
import Derived.Test.YtaobbkiepggafaaCuLcS
namespace Go.Proofs.Ytaobbkiepggafaa
set_option linter.unusedVariables false
set_option linter.unusedSimpArgs false
set_option linter.unnecessarySimpa false
open Go.RowKit
attribute [local go_sem] ext_cell ext_frozen

set_option maxRecDepth 100000 in
set_option maxHeartbeats 8000000 in
theorem drawHold_any (A : Option Addr) (n c : Nat) (w : World) (h : CodeAt w A n) (hn : n ≤ 65536) :
    Calls Try.prog 31 #[.slice A n c] w fun e w' => ∃ (D : List Cu) (B : Option Addr) (cb : Nat) (o : Og), e = .returned (.tuple #[.slice B D.length cb, .agg #[.int .i64 o.x, .int .i64 o.y, .int .i64 o.tk]]) ∧ D.length ≤ 64 ∧ RowAt 5 encCu w' B D ∧ Below w.heap.size w w' := by
  have hD := dr_new (w := w.alloc (.cells #[.int .i64 0, .int .i64 0, .int .i64 0] 30)) (c := c) (E := 82) (h.grown (only_of_below (balloc (bref w) (.cells #[.int .i64 0, .int .i64 0, .int .i64 0] 30)) none) (fun _ _ _ e => by cases e))
  have hz := box3_of (blk_alloc (heap_new1 w (.cells #[.int .i64 0, .int .i64 0, .int .i64 0] 30)) (.cells #[.slice A n c, .int .i64 0, .int .u64 0] 82))
  simp only [World.size_alloc] at hD
  have HD := Lib.hid hD
  have HZ := Lib.hid hz
  have hB0 : Below w.heap.size w ((w.alloc (.cells #[.int .i64 0, .int .i64 0, .int .i64 0] 30)).alloc (.cells #[.slice A n c, .int .i64 0, .int .u64 0] 82)) := balloc (balloc (bref w) _) _
  have hW0 : ((w.alloc (.cells #[.int .i64 0, .int .i64 0, .int .i64 0] 30)).alloc (.cells #[.slice A n c, .int .i64 0, .int .u64 0] 82)).heap.size = w.heap.size + 1 + 1 := by simp
  obtain ⟨W0, hW⟩ : ∃ W0, ((w.alloc (.cells #[.int .i64 0, .int .i64 0, .int .i64 0] 30)).alloc (.cells #[.slice A n c, .int .i64 0, .int .u64 0] 82)) = W0 := ⟨_, rfl⟩
  rw [hW] at HD HZ hB0 hW0
  have HB0 := Lib.hid hB0
  clear h hD hz hB0
  go_enter Try.func31, Try.ntmps31
  go_wp2_with fail
  try rw [hW]
  clear hW
  refine (known_any _ HD.out (by omega) (by omega)).mono ?_; rintro e w2 ⟨l, B, cb, o, rfl, hl, ho, ho2, hd2, hg2⟩
  have FIN := Lib.hid (fun (W : World) (hg : W0.grownBy W (some (w.heap.size + 1))) (D : List Cu) (A' : Option Addr) (hr : ∃ W1, RowAt 5 encCu W1 A' D ∧ (∀ b off, A' = some ⟨b, off, none⟩ → b ≠ w.heap.size) ∧ W1 = W) =>
    show Box3 (((W.setCell ⟨w.heap.size, 0, none⟩ (.int .i64 o.x)).setCell ⟨w.heap.size, 1, none⟩ (.int .i64 o.y)).setCell ⟨w.heap.size, 2, none⟩ (.int .i64 o.tk)) w.heap.size (.int .i64 o.x) (.int .i64 o.y) (.int .i64 o.tk) ∧ Below w.heap.size w (((W.setCell ⟨w.heap.size, 0, none⟩ (.int .i64 o.x)).setCell ⟨w.heap.size, 1, none⟩ (.int .i64 o.y)).setCell ⟨w.heap.size, 2, none⟩ (.int .i64 o.tk)) ∧ RowAt 5 encCu (((W.setCell ⟨w.heap.size, 0, none⟩ (.int .i64 o.x)).setCell ⟨w.heap.size, 1, none⟩ (.int .i64 o.y)).setCell ⟨w.heap.size, 2, none⟩ (.int .i64 o.tk)) A' D from by
      have hb : Below w.heap.size w W := bgrown HB0.out hg (fun k hk => by cases hk; omega)
      obtain ⟨W1, hr1, hne, rfl⟩ := hr
      refine ⟨(HZ.out.moved hg (by omega)).all _ _ _, bset (bset (bset hb (p := ⟨w.heap.size, 0, none⟩) (Nat.le_refl _) _) (p := ⟨w.heap.size, 1, none⟩) (Nat.le_refl _) _) (p := ⟨w.heap.size, 2, none⟩) (Nat.le_refl _) _, fun hn => ?_⟩
      obtain ⟨b, off, e, hlt, hc⟩ := hr1 hn
      refine ⟨b, off, e, by simpa [World.setCell] using hlt, fun i x hx j u hj => ?_⟩
      have hne2 := hne b off e
      have h0 := hc i x hx j u hj
      rw [World.cell?_setCell_other, World.cell?_setCell_other, World.cell?_setCell_other, h0] <;> simp [hne2])
  have HO2 := Lib.hid ho2
  have HR2 := Lib.hid (RowAt.of_own ho2 encAr_len (by decide))
  have HQ2 := Lib.hid (box3_new w2 (.int .i64 o.x) (.int .i64 o.y) (.int .i64 o.tk) 30)
  have hlt2 := hd2.lt
  have hs2 := hg2.size
  obtain ⟨_, ⟨q0, q1, q2⟩, f0, f1, f2⟩ := HQ2.out
  clear ho2
  go_wp2_with fail
  refine (cube_any o _ (hd2.alloc _) (by omega) (by omega) ho).mono ?_; rintro e w3 ⟨m, rfl, hd3, hg3⟩
  have hgx3 := only_two (only_alloc (World.grownBy.refl w2 (some (w.heap.size + 1))) (.cells #[.int .i64 o.x, .int .i64 o.y, .int .i64 o.tk] 30)) hg3
  have hg3' := only_two hg2 hgx3
  have hs3 := hgx3.size
  have hsz3 : w2.heap.size + 1 ≤ w3.heap.size := by simpa using hg3.size
  have HR3 := Lib.hid (RowAt.of_own (own_dr HO2.out hgx3 (by omega)) encAr_len (by decide))
  have HQ3 := Lib.hid (HQ2.out.moved hg3 (by omega))
  have HBb := Lib.hid (box5_new w3 (.int .i64 m.ws) (.int .i64 m.so) (.int .i64 m.sd) (.int .i64 m.fr) (.int .i64 m.to_) 37)
  have HDb := Lib.hid (hd3.alloc (.cells #[.int .i64 m.ws, .int .i64 m.so, .int .i64 m.sd, .int .i64 m.fr, .int .i64 m.to_] 37))
  have HGb := Lib.hid (only_alloc hg3' (.cells #[.int .i64 m.ws, .int .i64 m.so, .int .i64 m.sd, .int .i64 m.fr, .int .i64 m.to_] 37))
  have HQb := Lib.hid (HQ3.out.below (balloc (bref w3) (.cells #[.int .i64 m.ws, .int .i64 m.so, .int .i64 m.sd, .int .i64 m.fr, .int .i64 m.to_] 37)))
  have HRb := Lib.hid (HR3.out.below (balloc (bref w3) (.cells #[.int .i64 m.ws, .int .i64 m.so, .int .i64 m.sd, .int .i64 m.fr, .int .i64 m.to_] 37)))
  clear q0 q1 q2 f0 f1 f2 hd2 hd3 hg2 hg3 hgx3 hg3' HQ3 HR3 HR2
  go_upto_region 4 with fail
  generalize w3.alloc (.cells #[.int .i64 m.ws, .int .i64 m.so, .int .i64 m.sd, .int .i64 m.fr, .int .i64 m.to_] 37) = wb at HBb HDb HGb HQb HRb ⊢
  have HKB := Lib.hid (fun (W : World) (h : Below wb.heap.size wb W) => (HBb.out.below h).2.1)
  go_region_held3 (fun w' => w'.cell? ⟨w3.heap.size, 0, none⟩ = some (.int .i64 m.ws) ∧ w'.cell? ⟨w3.heap.size, 1, none⟩ = some (.int .i64 m.so) ∧ w'.cell? ⟨w3.heap.size, 2, none⟩ = some (.int .i64 m.sd) ∧ w'.cell? ⟨w3.heap.size, 3, none⟩ = some (.int .i64 m.fr) ∧ w'.cell? ⟨w3.heap.size, 4, none⟩ = some (.int .i64 m.to_))
    (first | (refine HKB.out _ ?_; (repeat (first | exact bref _ | exact hbX | (refine balloc ?_ _) | (refine bdrew ?_) | (refine bdrewN ?_ _))); done) | fail)
    (first
    | (go_at_call 69; (with_reducible refine (l1Most_any _ _ _).mono ?_); rintro e w' ⟨rfl, rfl⟩)
    | (go_at_call 35; (with_reducible refine (sLc_any l m _ B cb _ ?_ (by omega)).mono ?_); exact HRb.out.below (by repeat (first | exact bref _ | (refine balloc ?_ _) | (refine bdrew ?_) | (refine bdrewN ?_ _))); rintro e w5 ⟨A5, c5, rfl, ho5, hb5⟩; have hbX : Below wb.heap.size wb w5 := bstep (by repeat (first | exact bref _ | (refine balloc ?_ _) | (refine bdrew ?_) | (refine bdrewN ?_ _))) hb5; have hbs5 := Nat.le_trans (show wb.heap.size ≤ _ from Below.size (B := wb.heap.size) (w := wb) (by repeat (first | exact bref _ | (refine balloc ?_ _) | (refine bdrew ?_) | (refine bdrewN ?_ _)))) (Nat.le_refl _); have HO5 := Lib.hid ho5; clear ho5)
    | fail)
  all_goals
    go_upto_region 5 with fail
    have hle := lcL_le l m (maxI 1 (IntKind.i64.wrap (m.sd.tdiv 4)))
    generalize lcL l m (maxI 1 (IntKind.i64.wrap (m.sd.tdiv 4))) = D at hle HO5 ⊢
    generalize lcOK l m (maxI 1 (IntKind.i64.wrap (m.sd.tdiv 4))) = OK
    have hwb := HBb.out.1
    have HG5 := Lib.hid (only_two HGb.out (only_of_below hbX (some (w.heap.size + 1))))
    have HD5 := Lib.hid (HDb.out.below hbX)
    have HQ5 := Lib.hid (HQb.out.below hbX)
    have HX5 := Lib.hid (HBb.out.below hbX)
    have hs5 := hbX.size
    have HO6 := Lib.hid (show w5.ownsRow (w.heap.size + 2) 37 5 (.slice A5 D.length c5) D.length (D.flatMap encCu) from own_base HO5.out (by show w.heap.size + 2 ≤ wb.heap.size; omega))
    have HNE := Lib.hid (fun b off (e : A5 = some ⟨b, off, none⟩) => show b ≠ w.heap.size from fun h9 => by
      have := (HO6.out.lt b (by rw [e]; rfl)).1
      omega)
    clear hb5 hbX HO5 hbs5 HKB
    cases OK
    case false =>
      have HKG := Lib.hid (fun (V : World) (h : w5.grownBy V (some (w.heap.size + 1))) => (HX5.out.moved h (by omega)).2.1)
      have hlW := HD5.out.lt
      go_upto_region 6 with fail
      go_region_held3 (fun w' => w'.cell? ⟨w3.heap.size, 0, none⟩ = some (.int .i64 m.ws) ∧ w'.cell? ⟨w3.heap.size, 1, none⟩ = some (.int .i64 m.so) ∧ w'.cell? ⟨w3.heap.size, 2, none⟩ = some (.int .i64 m.sd) ∧ w'.cell? ⟨w3.heap.size, 3, none⟩ = some (.int .i64 m.fr) ∧ w'.cell? ⟨w3.heap.size, 4, none⟩ = some (.int .i64 m.to_))
        (first | (refine HKG.out _ ?_; (repeat (first | exact World.grownBy.refl _ _ | exact hgX8 | exact hgX7 | (refine only_alloc ?_ _) | (refine only_drew ?_) | (refine only_drewN ?_ _))); done) | fail)
        (first
        | (go_at_call 55; ((with_reducible refine (quakeOrigin_any (w0 := W0) (A := A) (n := n) (c := c) _ (HD5.out.below (by repeat (first | exact bref _ | (refine balloc ?_ _) | (refine bdrew ?_) | (refine bdrewN ?_ _)))) (by omega) (by omega)).mono ?_); rintro e w7 ⟨o7, rfl, ho7, hd7, hg7⟩; have hgX7 : w5.grownBy w7 (some (w.heap.size + 1)) := only_two (by repeat (first | exact World.grownBy.refl _ _ | exact hgX8 | exact hgX7 | (refine only_alloc ?_ _) | (refine only_drew ?_) | (refine only_drewN ?_ _))) hg7; have HD7 := Lib.hid hd7; clear hd7 hg7))
        | (go_at_call 58; ((with_reducible refine (cube_any o7 _ HD7.out (by omega) (by omega) ho7).mono ?_); rintro e w8 ⟨m8, rfl, hd8, hg8⟩; have hgX8 : w5.grownBy w8 (some (w.heap.size + 1)) := only_two hgX7 hg8; clear hd8 hg8))
        | fail)
      all_goals
        have hs8 := hgX8.size
        have HG8 := Lib.hid (only_two HG5.out hgX8)
        have HG9 := Lib.hid (only_alloc HG8.out (.cells #[.int .i64 m.ws, .int .i64 m.so, .int .i64 m.sd, .int .i64 m.fr, .int .i64 m.to_, .int .i64 m8.ws, .int .i64 m8.so, .int .i64 m8.sd, .int .i64 m8.fr, .int .i64 m8.to_] 37))
        have HQ9 := Lib.hid ((HQ5.out.moved hgX8 (by omega)).below (balloc (bref w8) (.cells #[.int .i64 m.ws, .int .i64 m.so, .int .i64 m.sd, .int .i64 m.fr, .int .i64 m.to_, .int .i64 m8.ws, .int .i64 m8.so, .int .i64 m8.sd, .int .i64 m8.fr, .int .i64 m8.to_] 37)))
        have HZ9 := Lib.hid (HZ.out.moved HG9.out (by omega))
        have HRW9 := Lib.hid (RowAt.of_own (l := [m, m8]) (own_made (E := 37) (K := 5) (n := 2) (cur := #[.int .i64 m.ws, .int .i64 m.so, .int .i64 m.sd, .int .i64 m.fr, .int .i64 m.to_, .int .i64 m8.ws, .int .i64 m8.so, .int .i64 m8.sd, .int .i64 m8.fr, .int .i64 m8.to_]) (w := w8) rfl (by decide)) encCu_len (by decide))
        have hne9 : w8.heap.size ≠ w.heap.size := by omega
        go_upto_region 7 with fail
        generalize w8.alloc (.cells #[.int .i64 m.ws, .int .i64 m.so, .int .i64 m.sd, .int .i64 m.fr, .int .i64 m.to_, .int .i64 m8.ws, .int .i64 m8.so, .int .i64 m8.sd, .int .i64 m8.fr, .int .i64 m8.to_] 37) = w9 at HG9 HQ9 HZ9 HRW9 ⊢
        obtain ⟨_, ⟨q0, q1, q2⟩, f0, f1, f2⟩ := HQ9.out
        obtain ⟨_, ⟨z0, z1, z2⟩, y0, y1, y2⟩ := HZ9.out
        obtain ⟨hbx, hWW0, hrw0⟩ := FIN.out w9 HG9.out [m, m8] (some ⟨w8.heap.size, 0, none⟩) ⟨_, HRW9.out, fun b off e => (by cases e; exact hne9), rfl⟩
        have hbx := hbx.below (bdrew (bref _))
        have hWW := bdrew hWW0
        have hrw : RowAt 5 encCu ((((w9.setCell ⟨w.heap.size, 0, none⟩ (.int .i64 o.x)).setCell ⟨w.heap.size, 1, none⟩ (.int .i64 o.y)).setCell ⟨w.heap.size, 2, none⟩ (.int .i64 o.tk))).drew (some ⟨w8.heap.size, 0, none⟩) [m, m8] := hrw0
        clear hWW0 hrw0
        go_wp2_with fail
        go_region
        all_goals
          go_wp2_with fail
          obtain ⟨_, ⟨s0, s1, s2⟩, _⟩ := hbx
          generalize ((((w9.setCell ⟨w.heap.size, 0, none⟩ (.int .i64 o.x)).setCell ⟨w.heap.size, 1, none⟩ (.int .i64 o.y)).setCell ⟨w.heap.size, 2, none⟩ (.int .i64 o.tk))).drew = WW at s0 s1 s2 hWW hrw ⊢
          exact bodyPost_ret (v := .tuple #[.slice (some ⟨w8.heap.size, 0, none⟩) ([m, m8]).length 2, .agg #[.int .i64 o.x, .int .i64 o.y, .int .i64 o.tk]]) (by simp [results, Try.results31, go_sem, s0, s1, s2]) rfl ⟨[m, m8], (some ⟨w8.heap.size, 0, none⟩), 2, o, rfl, by simp, hrw, hWW⟩
    case true =>
      go_wp2_with fail
      refine (one_dr 6 _ HD5.out (by omega) (by omega) (by decide)).mono ?_; rintro e w6 ⟨b6, rfl, hd6, hg6⟩
      have HG6 := Lib.hid (only_two HG5.out hg6)
      have HD6 := Lib.hid hd6
      have HQ6 := Lib.hid (HQ5.out.moved hg6 (by omega))
      have HX6 := Lib.hid (HX5.out.moved hg6 (by omega))
      have HRW6 := Lib.hid (RowAt.of_own (own_dr HO6.out hg6 (by omega)) encCu_len (by decide))
      have HZ6 := Lib.hid (HZ.out.moved HG6.out (by omega))
      clear hd6 hg6
      cases b6
      case false =>
        obtain ⟨_, ⟨q0, q1, q2⟩, f0, f1, f2⟩ := HQ6.out
        obtain ⟨_, ⟨z0, z1, z2⟩, y0, y1, y2⟩ := HZ6.out
        obtain ⟨hbx, hWW0, hrw0⟩ := FIN.out w6 HG6.out D A5 ⟨_, HRW6.out, HNE.out, rfl⟩
        have hbx := hbx.below (bdrew (bref _))
        have hWW := bdrew hWW0
        have hrw : RowAt 5 encCu ((((w6.setCell ⟨w.heap.size, 0, none⟩ (.int .i64 o.x)).setCell ⟨w.heap.size, 1, none⟩ (.int .i64 o.y)).setCell ⟨w.heap.size, 2, none⟩ (.int .i64 o.tk))).drew A5 D := hrw0
        clear hWW0 hrw0
        go_wp2_with fail
        go_region
        all_goals
          go_wp2_with fail
          obtain ⟨_, ⟨s0, s1, s2⟩, _⟩ := hbx
          generalize ((((w6.setCell ⟨w.heap.size, 0, none⟩ (.int .i64 o.x)).setCell ⟨w.heap.size, 1, none⟩ (.int .i64 o.y)).setCell ⟨w.heap.size, 2, none⟩ (.int .i64 o.tk))).drew = WW at s0 s1 s2 hWW hrw ⊢
          exact bodyPost_ret (v := .tuple #[.slice A5 (D).length c5, .agg #[.int .i64 o.x, .int .i64 o.y, .int .i64 o.tk]]) (by simp [results, Try.results31, go_sem, s0, s1, s2]) rfl ⟨D, A5, c5, o, rfl, hle, hrw, hWW⟩
      case true =>
        have HKG := Lib.hid (fun (V : World) (h : w6.grownBy V (some (w.heap.size + 1))) => (HX6.out.moved h (by omega)).2.1)
        have hlW := HD6.out.lt
        go_upto_region 6 with fail
        go_region_held3 (fun w' => w'.cell? ⟨w3.heap.size, 0, none⟩ = some (.int .i64 m.ws) ∧ w'.cell? ⟨w3.heap.size, 1, none⟩ = some (.int .i64 m.so) ∧ w'.cell? ⟨w3.heap.size, 2, none⟩ = some (.int .i64 m.sd) ∧ w'.cell? ⟨w3.heap.size, 3, none⟩ = some (.int .i64 m.fr) ∧ w'.cell? ⟨w3.heap.size, 4, none⟩ = some (.int .i64 m.to_))
          (first | (refine HKG.out _ ?_; (repeat (first | exact World.grownBy.refl _ _ | exact hgX8 | exact hgX7 | (refine only_alloc ?_ _) | (refine only_drew ?_) | (refine only_drewN ?_ _))); done) | fail)
          (first
          | (go_at_call 55; ((with_reducible refine (quakeOrigin_any (w0 := W0) (A := A) (n := n) (c := c) _ (HD6.out.below (by repeat (first | exact bref _ | (refine balloc ?_ _) | (refine bdrew ?_) | (refine bdrewN ?_ _)))) (by omega) (by omega)).mono ?_); rintro e w7 ⟨o7, rfl, ho7, hd7, hg7⟩; have hgX7 : w6.grownBy w7 (some (w.heap.size + 1)) := only_two (by repeat (first | exact World.grownBy.refl _ _ | exact hgX8 | exact hgX7 | (refine only_alloc ?_ _) | (refine only_drew ?_) | (refine only_drewN ?_ _))) hg7; have HD7 := Lib.hid hd7; clear hd7 hg7))
          | (go_at_call 58; ((with_reducible refine (cube_any o7 _ HD7.out (by omega) (by omega) ho7).mono ?_); rintro e w8 ⟨m8, rfl, hd8, hg8⟩; have hgX8 : w6.grownBy w8 (some (w.heap.size + 1)) := only_two hgX7 hg8; clear hd8 hg8))
          | fail)
        all_goals
          have hs8 := hgX8.size
          have HG8 := Lib.hid (only_two HG6.out hgX8)
          have HG9 := Lib.hid (only_alloc HG8.out (.cells #[.int .i64 m.ws, .int .i64 m.so, .int .i64 m.sd, .int .i64 m.fr, .int .i64 m.to_, .int .i64 m8.ws, .int .i64 m8.so, .int .i64 m8.sd, .int .i64 m8.fr, .int .i64 m8.to_] 37))
          have HQ9 := Lib.hid ((HQ6.out.moved hgX8 (by omega)).below (balloc (bref w8) (.cells #[.int .i64 m.ws, .int .i64 m.so, .int .i64 m.sd, .int .i64 m.fr, .int .i64 m.to_, .int .i64 m8.ws, .int .i64 m8.so, .int .i64 m8.sd, .int .i64 m8.fr, .int .i64 m8.to_] 37)))
          have HZ9 := Lib.hid (HZ.out.moved HG9.out (by omega))
          have HRW9 := Lib.hid (RowAt.of_own (l := [m, m8]) (own_made (E := 37) (K := 5) (n := 2) (cur := #[.int .i64 m.ws, .int .i64 m.so, .int .i64 m.sd, .int .i64 m.fr, .int .i64 m.to_, .int .i64 m8.ws, .int .i64 m8.so, .int .i64 m8.sd, .int .i64 m8.fr, .int .i64 m8.to_]) (w := w8) rfl (by decide)) encCu_len (by decide))
          have hne9 : w8.heap.size ≠ w.heap.size := by omega
          go_upto_region 7 with fail
          generalize w8.alloc (.cells #[.int .i64 m.ws, .int .i64 m.so, .int .i64 m.sd, .int .i64 m.fr, .int .i64 m.to_, .int .i64 m8.ws, .int .i64 m8.so, .int .i64 m8.sd, .int .i64 m8.fr, .int .i64 m8.to_] 37) = w9 at HG9 HQ9 HZ9 HRW9 ⊢
          obtain ⟨_, ⟨q0, q1, q2⟩, f0, f1, f2⟩ := HQ9.out
          obtain ⟨_, ⟨z0, z1, z2⟩, y0, y1, y2⟩ := HZ9.out
          obtain ⟨hbx, hWW0, hrw0⟩ := FIN.out w9 HG9.out [m, m8] (some ⟨w8.heap.size, 0, none⟩) ⟨_, HRW9.out, fun b off e => (by cases e; exact hne9), rfl⟩
          have hbx := hbx.below (bdrew (bref _))
          have hWW := bdrew hWW0
          have hrw : RowAt 5 encCu ((((w9.setCell ⟨w.heap.size, 0, none⟩ (.int .i64 o.x)).setCell ⟨w.heap.size, 1, none⟩ (.int .i64 o.y)).setCell ⟨w.heap.size, 2, none⟩ (.int .i64 o.tk))).drew (some ⟨w8.heap.size, 0, none⟩) [m, m8] := hrw0
          clear hWW0 hrw0
          go_wp2_with fail
          go_region
          all_goals
            go_wp2_with fail
            obtain ⟨_, ⟨s0, s1, s2⟩, _⟩ := hbx
            generalize ((((w9.setCell ⟨w.heap.size, 0, none⟩ (.int .i64 o.x)).setCell ⟨w.heap.size, 1, none⟩ (.int .i64 o.y)).setCell ⟨w.heap.size, 2, none⟩ (.int .i64 o.tk))).drew = WW at s0 s1 s2 hWW hrw ⊢
            exact bodyPost_ret (v := .tuple #[.slice (some ⟨w8.heap.size, 0, none⟩) ([m, m8]).length 2, .agg #[.int .i64 o.x, .int .i64 o.y, .int .i64 o.tk]]) (by simp [results, Try.results31, go_sem, s0, s1, s2]) rfl ⟨[m, m8], (some ⟨w8.heap.size, 0, none⟩), 2, o, rfl, by simp, hrw, hWW⟩
end Go.Proofs.Ytaobbkiepggafaa
