/-
  Proved here: for every argument, impl.AfterPacket and spec.AfterPacket answer alike and leave the arguments as they were, and the result shares no memory (FnExactAfterPacket returns true). No condition.
-/
import Derived.Test.YtifkakpiipoadaaPkAft
import Derived.Test.YtifkakpiipoadaaPkMark
import Derived.Test.YtifkakpiipoadaaPkRow
namespace Go.Proofs.Ytifkakpiipoadaa
open Go.RowKit Go.WideShapes Go.ChangeShapes Go.ChangeAt

theorem only2 {w0 w w' : World} {r : Option Nat} (h : w0.grownBy w r) (hg : w.grownBy w' r) : w0.grownBy w' r :=
  ⟨hg.os.trans h.os, hg.tape.trans h.tape, hg.output.trans h.output, Nat.le_trans h.size hg.size, fun k hk hne => (hg.block k (Nat.lt_of_lt_of_le hk h.size) hne).trans (h.block k hk hne)⟩
theorem Turned.cell {g : Nat} {l : List Pk} {w w' : World} (h : Turned g l w w') {b o : Nat} {v : Value} (hc : w.cell? ⟨b, o, none⟩ = some v) (h1 : b ≠ g) (h2 : ∀ p ∈ l, p.A ≠ some ⟨b, 0, none⟩) : w'.cell? ⟨b, o, none⟩ = some v :=
  (World.cell?_of_block (w := w) (h.block b (World.block_lt_of_cell? w ⟨b, o, none⟩ hc) h1 h2)).trans hc
theorem PkRes.turned {base c g : Nat} {w w' : World} {A : Option Addr} {l L : List Pk} (h : PkRes base w A c l) (hT : Turned g L w w') (hf : ∀ b, base ≤ b → b ≠ g ∧ ∀ p ∈ L, p.A ≠ some ⟨b, 0, none⟩) : PkRes base w' A c l :=
  ⟨Turned.kept hT h.out (fun b hb => hf b (h.out.lt b hb).1), fun p hp => by
    obtain ⟨b, e, e2, ho⟩ := h.ins p hp
    exact ⟨b, e, e2, Turned.kept hT ho (fun b hb => hf b (ho.lt b hb).1)⟩, h.far⟩
theorem PkRes.grown {base c b : Nat} {w w' : World} {A : Option Addr} {l : List Pk} (h : PkRes base w A c l) (hg : w.grownBy w' (some b)) (hb : b < base) : PkRes base w' A c l :=
  ⟨World.ownsRow.kept h.out hg (.inr (fun e => by have := (h.out.lt b e).1; omega)), fun p hp => by
    obtain ⟨q, e, e2, ho⟩ := h.ins p hp
    exact ⟨q, e, e2, World.ownsRow.kept ho hg (.inr (fun e => by have := (ho.lt b e).1; omega))⟩, h.far⟩
theorem sAft2_any {l0 L : List Pk} (A : Option Addr) (c : Nat) (no : Int) (sm : List Int) (B : Option Addr) (cb : Nat) (w : World) (hp : L.map Pk.pl = l0.map Pk.pl) (hn : L.length = l0.length) (hr : PkAt w A L) (hs : RowAt 1 encI w B sm) (hlen : tot l0 + sm.length ≤ 1048576) :
    Calls Try.prog 27 #[.slice A l0.length c, .agg #[.int .i64 no, .slice B sm.length cb]] w (AftR (aftL (plS l0) (no, sm)) (goodP (plS l0 ++ [(no, sm)])) w) := by
  have h := sAft_any L A c no sm B cb w hr hs (by rw [tot_pl hp]; exact hlen)
  rw [hn, show plS L = plS l0 from hp] at h
  exact h
theorem iAft2_any {l0 L : List Pk} (A : Option Addr) (c : Nat) (no : Int) (sm : List Int) (B : Option Addr) (cb : Nat) (w : World) (hp : L.map Pk.pl = l0.map Pk.pl) (hn : L.length = l0.length) (hr : PkAt w A L) (hs : RowAt 1 encI w B sm) (hlen : tot l0 + sm.length ≤ 1048576) :
    Calls Try.prog 29 #[.slice A l0.length c, .agg #[.int .i64 no, .slice B sm.length cb]] w (AftR (aftL (plS l0) (no, sm)) (goodP (plS l0 ++ [(no, sm)])) w) := by
  have h := iAft_any L A c no sm B cb w hr hs (by rw [tot_pl hp]; exact hlen)
  rw [hn, show plS L = plS l0 from hp] at h
  exact h
theorem eqPk2_same (n : Nat) (l l' : List Pk) (A A' : Option Addr) (c c' : Nat) (w : World) (hp : l'.map Pk.pl = l.map Pk.pl) (hn : l.length = n) (hr : PkAt w A l) (hr' : PkAt w A' l') (hlen : tot l ≤ 2097152) :
    Calls Try.prog 19 #[.slice A n c, .slice A' n c'] w fun e w' => e = .returned (.bool true) ∧ Below w.heap.size w w' := by
  subst hn
  exact eqPkS_same l l' A A' c c' w hp hr hr' hlen
theorem markPk2_any (n : Nat) (L : List Pk) (g base : Nat) (w : World) (hn : L.length = n) (ho : PkOwn base g w L) (htot : tot L ≤ 2097152) :
    Calls Try.prog 23 #[.slice (some ⟨g, 0, none⟩) n n, .int .i64 1] w fun e w' => e = .returned (.int .i64 (1 + tot L)) ∧ Turned g L w w' := by
  subst hn
  exact markPkS_any L g base w ho htot
theorem markR2_any (n : Nat) (L : List Pk) (A : Option Addr) (c base : Nat) (w : World) (hn : L.length = n) (ho : PkRes base w A c L) (hbs : base ≤ w.heap.size) (htot : tot L ≤ 2097152) :
    Calls Try.prog 23 #[.slice A n c, .int .i64 1] w fun e w' => e = .returned (.int .i64 (1 + tot L)) ∧ PkRes base w' A c (markPk L) ∧ Below base w w' := by
  subst hn
  exact markPkR_any L A c base w ho hbs htot
theorem heldR2_any (n : Nat) (L : List Pk) (A : Option Addr) (c : Nat) (w : World) (hn : L.length = n) (hr : PkAt w A (markPk L)) (htot : tot L ≤ 2097152) :
    Calls Try.prog 32 #[.slice A n c, .int .i64 1] w fun e w' => e = .returned (.int .i64 (1 + tot L)) ∧ w = w' := by
  subst hn
  exact heldPkR_any L A c w hr htot
set_option maxHeartbeats 1000000 in
theorem markPk1_any (no k : Int) (sm : List Int) (g base : Nat) (w : World) (ho : w.ownsRow base 3 1 (.slice (some ⟨g, 0, none⟩) sm.length sm.length) sm.length (sm.flatMap encI)) (h0 : 0 ≤ k) (h1 : k ≤ 10000000) (hn : sm.length ≤ 2097152) :
    Calls Try.prog 31 #[.agg #[.int .i64 no, .slice (some ⟨g, 0, none⟩) sm.length sm.length], .int .i64 k] w fun e w' => e = .returned (.int .i64 (k + (sm.length : Int))) ∧ w.grownBy w' (some g) := by
  have HO := Lib.hid (ho.alloc (.cells #[.int .i64 no, .slice (some ⟨g, 0, none⟩) sm.length sm.length] 40))
  clear ho
  go_enter Try.func31, Try.ntmps31
  go_wp2_with (go_at_call 24; (with_reducible refine (markIS_any k (some ⟨g, 0, none⟩) sm.length sm.length base (sm.flatMap encI) _ HO.out h0 (by omega) hn).mono ?_); rintro e w1 ⟨rfl, hom, hgm⟩)
  go_ret
  exact ⟨ret_int (by omega), only2 (only_alloc (World.grownBy.refl _ _) _) hgm⟩

set_option maxRecDepth 100000 in
set_option maxHeartbeats 8000000 in
theorem lawAfterPacket_walk (l0 : List Pk) (A0 : Option Addr) (c0 : Nat) (no : Int) (sm : List Int) (A1 : Option Addr) (c1 : Nat) (w : World) (hr0 : PkAt w A0 l0) (hm0 : l0.length ≤ 9223372036854775807 ∧ ∀ p ∈ l0, p.sm.length ≤ 9223372036854775807) (hr1 : RowAt 1 encI w A1 sm) (hm1 : sm.length ≤ 9223372036854775807) :
    Calls Try.prog 5 #[.slice A0 l0.length c0, .agg #[.int .i64 no, .slice A1 sm.length c1]] w fun e w' => e = .returned (.bool true) ∧ Below w.heap.size w w' := by
  obtain ⟨bx, hbx⟩ : ∃ bx, bx = w.alloc (.cells #[.int .i64 no, .slice A1 sm.length c1] 36) := ⟨_, rfl⟩
  have HBX := Lib.hid hbx
  clear hbx
  have hbw : Below w.heap.size w bx := by rw [HBX.out]; exact balloc (bref _) _
  have hxb : w.heap.size < bx.heap.size := by rw [HBX.out]; simp
  have HR0 := Lib.hid (hr0.below hbw)
  have HR1 := Lib.hid (hr1.below hbw)
  have HX0 := Lib.hid (show bx.cell? ⟨w.heap.size, 0, none⟩ = some (.int .i64 no) by rw [HBX.out]; simp [go_sem])
  have HX1 := Lib.hid (show bx.cell? ⟨w.heap.size, 1, none⟩ = some (.slice A1 sm.length c1) by rw [HBX.out]; simp [go_sem])
  have kx : ∀ {W : World}, Below bx.heap.size bx W → W.cell? ⟨w.heap.size, 0, none⟩ = some (.int .i64 no) ∧ W.cell? ⟨w.heap.size, 1, none⟩ = some (.slice A1 sm.length c1) := fun h => ⟨(h.cell (p := ⟨w.heap.size, 0, none⟩) hxb).trans HX0.out, (h.cell (p := ⟨w.heap.size, 1, none⟩) hxb).trans HX1.out⟩
  have HM0 := Lib.hid hm0
  have hml := hm0.1
  clear hr0 hm0 hr1
  by_cases hl0 : tot l0 ≤ 1048576
  · have HT0 := Lib.hid hl0
    have hl1 : l0.length ≤ 1048576 := by unfold tot at hl0; omega
    by_cases hs0 : tot l0 + sm.length ≤ 1048576
    · have HL := Lib.hid hs0
      have hsm : sm.length ≤ 1048576 := by omega
      have htn : (0 : Int) ≤ (tot l0 : Int) := by omega
      have htl : (tot l0 : Int) ≤ 1048576 := by omega
      have htt : (tot l0 : Int) + (sm.length : Int) ≤ 1048576 := by omega
      obtain ⟨M, hM⟩ : ∃ M, aftL (plS l0) (no, sm) = M := ⟨_, rfl⟩
      obtain ⟨O, hO⟩ : ∃ O, goodP (plS l0 ++ [(no, sm)]) = O := ⟨_, rfl⟩
      have HTM := Lib.hid (show ∀ l : List Pk, plS l = M → tot l ≤ 2097152 ∧ l.length = M.length from fun l hl => by
        have hlen : l.length = M.length := by rw [← hl, plS_len]
        refine ⟨?_, hlen⟩
        subst hM
        unfold aftL at hl
        split at hl
        · have : tot l = tot (l0 ++ [(⟨no, sm, none, 0⟩ : Pk)]) := tot_pl (hl.trans (plS_one l0 ⟨no, sm, none, 0⟩).symm)
          rw [this, tot_one]
          simp only
          omega
        · have : l.length = 0 := by rw [← plS_len l, hl]; rfl
          rw [List.length_eq_zero_iff.1 this]
          decide)
      have HS2 := Lib.hid (fun (L : List Pk) (A : Option Addr) (c : Nat) (B : Option Addr) (cb : Nat) (W : World) (hp : L.map Pk.pl = l0.map Pk.pl) (hn : L.length = l0.length) (hr : PkAt W A L) (hs : RowAt 1 encI W B sm) => by
        have h := sAft2_any A c no sm B cb W hp hn hr hs hs0
        rw [hM, hO] at h
        exact h)
      have HI2 := Lib.hid (fun (L : List Pk) (A : Option Addr) (c : Nat) (B : Option Addr) (cb : Nat) (W : World) (hp : L.map Pk.pl = l0.map Pk.pl) (hn : L.length = l0.length) (hr : PkAt W A L) (hs : RowAt 1 encI W B sm) => by
        have h := iAft2_any A c no sm B cb W hp hn hr hs hs0
        rw [hM, hO] at h
        exact h)
      clear hM hO hl0 hs0
      go_enter Try.func5, Try.ntmps5
      go_wp2_with fail
      rw [← HBX.out]
      refine (szPkS_in l0 _ _ 1048576 _ HR0.out (by omega) (by omega)).mono ?_; rintro e w1 ⟨rfl, hb1⟩
      obtain ⟨x0, x1⟩ := kx hb1
      go_wp2_with fail
      refine (szPk1_in no A1 sm.length c1 (1048576 - (tot l0 : Int)) _ (by omega) (by omega)).mono ?_; rintro e w2 ⟨rfl, hb2⟩
      have hbV0 := bstep hb1 hb2
      clear x0 x1
      go_wp2_with fail
      go_region_held3 (fun w' => w'.cell? ⟨w.heap.size, 0, none⟩ = some (.int .i64 no) ∧ w'.cell? ⟨w.heap.size, 1, none⟩ = some (.slice A1 sm.length c1))
        (exact kx (by repeat (first | exact hbV3 | exact hbV2 | exact hbV1 | exact hbV0 | exact bref _ | (refine balloc ?_ _) | (refine bdrew ?_) | (refine bdrewN ?_ _))))
        (first
          | (go_at_call 17; (refine (toPkS_any l0 _ _ _ (HR0.out.below (by repeat (first | exact hbV3 | exact hbV2 | exact hbV1 | exact hbV0 | exact bref _ | (refine balloc ?_ _) | (refine bdrew ?_) | (refine bdrewN ?_ _)))) HT0.out).mono ?_); rintro e w3 ⟨L3, g3, rfl, hp3, hn3, ho3, hb3⟩; have hbV1 : Below bx.heap.size bx w3 := bstep (by repeat (first | exact hbV3 | exact hbV2 | exact hbV1 | exact hbV0 | exact bref _ | (refine balloc ?_ _) | (refine bdrew ?_) | (refine bdrewN ?_ _))) hb3; have HP3 := Lib.hid hp3; have HN3 := Lib.hid hn3; have HA3 := Lib.hid ho3.at_; clear ho3 hp3 hn3)
          | (go_at_call 28; (refine (toPk1_any no sm _ _ _ (HR1.out.below (by repeat (first | exact hbV3 | exact hbV2 | exact hbV1 | exact hbV0 | exact bref _ | (refine balloc ?_ _) | (refine bdrew ?_) | (refine bdrewN ?_ _)))) (by omega)).mono ?_); rintro e w4 ⟨g4, rfl, ho4, hb4⟩; have hbV2 : Below bx.heap.size bx w4 := bstep (by repeat (first | exact hbV3 | exact hbV2 | exact hbV1 | exact hbV0 | exact bref _ | (refine balloc ?_ _) | (refine bdrew ?_) | (refine bdrewN ?_ _))) hb4; have u4 : Below w3.heap.size w3 w4 := bstep (by repeat (first | exact bref _ | (refine balloc ?_ _) | (refine bdrew ?_) | (refine bdrewN ?_ _))) hb4; have HS4 := Lib.hid (RowAt.of_own ho4 encI_len (by omega)); clear ho4)
          | (go_at_call 27; (refine (HS2.out L3 _ _ _ _ _ HP3.out HN3.out (HA3.out.below (by repeat (first | exact u4 | exact bref _ | (refine balloc ?_ _) | (refine bdrew ?_) | (refine bdrewN ?_ _)))) (RowAt.below HS4.out (by repeat (first | exact bref _ | (refine balloc ?_ _) | (refine bdrew ?_) | (refine bdrewN ?_ _))))).mono ?_); rintro e w5 ⟨l5, A5, k5, rfl, hp5, ho5, hb5⟩; have hbV3 : Below bx.heap.size bx w5 := bstep (by repeat (first | exact hbV3 | exact hbV2 | exact hbV1 | exact hbV0 | exact bref _ | (refine balloc ?_ _) | (refine bdrew ?_) | (refine bdrewN ?_ _))) hb5; have u5 : Below w3.heap.size w3 w5 := bstep (by repeat (first | exact u4 | exact bref _ | (refine balloc ?_ _) | (refine bdrew ?_) | (refine bdrewN ?_ _))) hb5)
          | fail)
      have c5 := hbV3
      have HW := Lib.hid ho5.at_
      have HWP := Lib.hid hp5
      clear hbV0 hbV1 hbV2 hbV3 ho5 hp5 hb5 u4 u5 hb3 hb4 HS4 HA3 HP3 HN3 hb1 hb2
      go_wp2_with fail
      refine (toPkS_any l0 _ _ _ (HR0.out.below c5) HT0.out).mono ?_; rintro e w6 ⟨L6, g6, rfl, hp6, hn6, ho6, hb6⟩
      have c6 := bstep c5 hb6
      have HP6 := Lib.hid hp6
      have HN6 := Lib.hid hn6
      have HO6 := Lib.hid ho6
      have HT6 := Lib.hid (tot_pl hp6)
      obtain ⟨x0, x1⟩ := kx c6
      clear hp6 hn6 ho6
      go_wp2_with fail
      refine (toPk1_any no sm _ _ _ (HR1.out.below c6) (by omega)).mono ?_; rintro e w7 ⟨g7, rfl, ho7, hb7⟩
      have c7 := bstep c6 hb7
      have d7 := bstep hb6 hb7
      have HO7 := Lib.hid ho7
      have hg7a := row_mine ho7 g7 rfl
      have hg7b := (ho7.lt g7 rfl).2
      obtain ⟨y0, y1⟩ := boxP w7 no (.slice (some ⟨g7, 0, none⟩) sm.length sm.length)
      have hyb : w7.heap.size < (w7.alloc (.cells #[.int .i64 no, .slice (some ⟨g7, 0, none⟩) sm.length sm.length] 40)).heap.size := by simp
      have hy : Below w7.heap.size w7 (w7.alloc (.cells #[.int .i64 no, .slice (some ⟨g7, 0, none⟩) sm.length sm.length] 40)) := balloc (bref _) _
      clear x0 x1 ho7
      go_wp2_with fail
      generalize w7.alloc (.cells #[.int .i64 no, .slice (some ⟨g7, 0, none⟩) sm.length sm.length] 40) = wy at y0 y1 hyb hy ⊢
      have cy := bstep c7 hy
      have dy := bstep d7 hy
      have HY0 := Lib.hid y0
      have HY1 := Lib.hid y1
      clear y0 y1
      refine (HI2.out L6 _ _ _ _ _ HP6.out HN6.out (HO6.out.at_.below (bstep hb7 hy)) (RowAt.below (RowAt.of_own HO7.out encI_len (by omega)) hy)).mono ?_; rintro e w8 ⟨l8, A8, k8, rfl, hp8, ho8, hb8⟩
      have HR8 := Lib.hid ho8
      have HP8 := Lib.hid hp8
      have HE8 := Lib.hid (HTM.out l8 hp8)
      have c8 := bstep cy hb8
      have d8 := bstep dy hb8
      clear ho8 hp8
      go_wp2_with fail
      refine (eqPk2_same M.length l8 l5 A8 A5 k8 k5 _ (HWP.out.trans HP8.out.symm) HE8.out.2 HR8.out.at_ (HW.out.below d8) HE8.out.1).mono ?_; rintro e w9 ⟨rfl, hb9⟩
      have c9 := bstep c8 hb9
      have d9 := bstep d8 hb9
      have e9 := bstep hb8 hb9
      have f9 := hb9
      clear c8 d8 hb9
      go_wp2_with fail
      refine (toPkS_any l0 _ _ _ (HR0.out.below c9) HT0.out).mono ?_; rintro e w10 ⟨L10, g10, rfl, hp10, hn10, ho10, hb10⟩
      have c10 := bstep c9 hb10
      have d10 := bstep d9 hb10
      have e10 := bstep e9 hb10
      have f10 := bstep f9 hb10
      have HP10 := Lib.hid hp10
      have HA10 := Lib.hid ho10.at_
      clear hp10 hn10 ho10 hb10 c9 d9 e9
      go_wp2_with fail
      refine (eqPk2_same l0.length L6 L10 (some ⟨g6, 0, none⟩) (some ⟨g10, 0, none⟩) _ _ _ (HP10.out.trans HP6.out.symm) HN6.out (HO6.out.at_.below (bstep (bstep hb7 hy) e10)) HA10.out (by rw [HT6.out]; omega)).mono ?_; rintro e w11 ⟨rfl, hb11⟩
      have hbV0 := bstep c10 hb11
      have d11 := bstep d10 hb11
      have e11 := bstep e10 hb11
      have f11 := bstep f10 hb11
      have HYB := Lib.hid hyb
      have ky : ∀ {W : World}, Below wy.heap.size wy W → W.cell? ⟨w7.heap.size, 0, none⟩ = some (.int .i64 no) ∧ W.cell? ⟨w7.heap.size, 1, none⟩ = some (.slice (some ⟨g7, 0, none⟩) sm.length sm.length) := fun h => ⟨(h.cell (p := ⟨w7.heap.size, 0, none⟩) HYB.out).trans HY0.out, (h.cell (p := ⟨w7.heap.size, 1, none⟩) HYB.out).trans HY1.out⟩
      clear c10 d10 e10 hb11 HA10 HP10
      go_wp2_with fail
      go_region_held3 (fun w' => (w'.cell? ⟨w7.heap.size, 0, none⟩ = some (.int .i64 no) ∧ w'.cell? ⟨w7.heap.size, 1, none⟩ = some (.slice (some ⟨g7, 0, none⟩) sm.length sm.length)) ∧ w'.cell? ⟨w.heap.size, 0, none⟩ = some (.int .i64 no) ∧ w'.cell? ⟨w.heap.size, 1, none⟩ = some (.slice A1 sm.length c1))
        (exact ⟨ky (by repeat (first | exact e13 | exact e12 | exact e11 | exact bref _ | (refine balloc ?_ _) | (refine bdrew ?_) | (refine bdrewN ?_ _))), kx (by repeat (first | exact hbV2 | exact hbV1 | exact hbV0 | exact bref _ | (refine balloc ?_ _) | (refine bdrew ?_) | (refine bdrewN ?_ _)))⟩)
        (first
          | (go_at_call 28; (refine (toPk1_any no sm _ _ _ (HR1.out.below (by repeat (first | exact hbV0 | exact bref _ | (refine balloc ?_ _) | (refine bdrew ?_) | (refine bdrewN ?_ _)))) (by omega)).mono ?_); rintro e w12 ⟨g12, rfl, ho12, hb12⟩; have hbV1 : Below bx.heap.size bx w12 := bstep (by repeat (first | exact hbV0 | exact bref _ | (refine balloc ?_ _) | (refine bdrew ?_) | (refine bdrewN ?_ _))) hb12; have d12 : Below w5.heap.size w5 w12 := bstep (by repeat (first | exact d11 | exact bref _ | (refine balloc ?_ _) | (refine bdrew ?_) | (refine bdrewN ?_ _))) hb12; have e12 : Below wy.heap.size wy w12 := bstep (by repeat (first | exact e11 | exact bref _ | (refine balloc ?_ _) | (refine bdrew ?_) | (refine bdrewN ?_ _))) hb12; have f12 : Below w8.heap.size w8 w12 := bstep (by repeat (first | exact f11 | exact bref _ | (refine balloc ?_ _) | (refine bdrew ?_) | (refine bdrewN ?_ _))) hb12; have HS12 := Lib.hid (RowAt.of_own ho12 encI_len (by omega)); clear ho12 hb12)
          | (go_at_call 30; (refine (eqPk1_same no sm _ _ _ _ _ (RowAt.below (RowAt.of_own HO7.out encI_len (by omega)) (bstep hy (by repeat (first | exact e12 | exact bref _ | (refine balloc ?_ _) | (refine bdrew ?_) | (refine bdrewN ?_ _))))) (RowAt.below HS12.out (by repeat (first | exact bref _ | (refine balloc ?_ _) | (refine bdrew ?_) | (refine bdrewN ?_ _)))) (by omega)).mono ?_); rintro e w13 ⟨rfl, hb13⟩; have hbV2 : Below bx.heap.size bx w13 := bstep (by repeat (first | exact hbV1 | exact bref _ | (refine balloc ?_ _) | (refine bdrew ?_) | (refine bdrewN ?_ _))) hb13; have d13 : Below w5.heap.size w5 w13 := bstep (by repeat (first | exact d12 | exact bref _ | (refine balloc ?_ _) | (refine bdrew ?_) | (refine bdrewN ?_ _))) hb13; have e13 : Below wy.heap.size wy w13 := bstep (by repeat (first | exact e12 | exact bref _ | (refine balloc ?_ _) | (refine bdrew ?_) | (refine bdrewN ?_ _))) hb13; have h813 : Below w8.heap.size w8 w13 := bstep (by repeat (first | exact f12 | exact bref _ | (refine balloc ?_ _) | (refine bdrew ?_) | (refine bdrewN ?_ _))) hb13; clear hb13)
          | fail)
      all_goals
        have s76 := hb7.size
        have s65 := hb6.size
        have sy7 := hy.size
        have c13 := hbV2
        have q13 : Below w6.heap.size w6 w13 := bstep (bstep hb7 hy) e13
        have HO13 := Lib.hid (PkOwn.below HO6.out q13)
        have HO7b := Lib.hid (own_below HO7.out (bstep hy e13))
        have HFar := Lib.hid (fun (b : Nat) (hb : w6.heap.size ≤ b) => HO6.out.far_ hb)
        have hyc := ky e13
        have HR13 := Lib.hid (HR8.out.below (show Below w8.heap.size w8 w13 from h813))
        clear hbV0 hbV1 hbV2 e12 e11 d12 d11
        go_wp2_with fail
        refine (markPk2_any l0.length L6 g6 w5.heap.size _ HN6.out HO13.out (by rw [HT6.out]; omega)).mono ?_; rw [HT6.out]; rintro e w14 ⟨rfl, hT⟩
        have hTB := hT.below HO13.out
        have c14 := bturn c13 hTB c5.size
        have d14 := bturn d13 hTB (Nat.le_refl _)
        have y0 := hT.cell hyc.1 (HFar.out _ s76).1 (HFar.out _ s76).2
        have y1 := hT.cell hyc.2 (HFar.out _ s76).1 (HFar.out _ s76).2
        have hO14 := Turned.kept hT HO7b.out (fun b hb => HFar.out b (by cases hb; omega))
        have HR14 := Lib.hid (PkRes.turned HR13.out hT (fun b hb => HFar.out b (by omega)))
        clear hyc
        go_wp2_with fail
        refine (markPk1_any no (1 + (tot l0 : Int)) sm g7 _ w14 hO14 (by omega) (by omega) (by omega)).mono ?_; rintro e w15 ⟨rfl, hg15⟩
        have HR15 := Lib.hid (PkRes.grown HR14.out hg15 (by omega))
        have c15 := bgrown c14 hg15 (fun k hk => by cases hk; have := c5.size; omega)
        have d15 := bgrown d14 hg15 (fun k hk => by cases hk; omega)
        clear y0 y1 hO14
        go_wp2_with fail
        refine (eqPk2_same M.length l8 l5 A8 A5 k8 k5 _ (HWP.out.trans HP8.out.symm) HE8.out.2 HR15.out.at_ (HW.out.below d15) HE8.out.1).mono ?_; rintro e w16 ⟨rfl, hb16⟩
        have c16 := bstep c15 hb16
        have d16 := bstep d15 hb16
        have HR16 := Lib.hid (HR15.out.below hb16)
        have ht8 := HE8.out.1
        have ht80 : (0 : Int) ≤ (tot l8 : Int) := by omega
        have ht81 : (tot l8 : Int) ≤ 2097152 := by omega
        have hy16 : wy.heap.size ≤ w16.heap.size := by
          have h1 := e13.size
          have h2 := hT.size
          have h3 := hg15.size
          have h4 := hb16.size
          omega
        go_wp2_with fail
        refine (markR2_any M.length l8 A8 k8 wy.heap.size _ HE8.out.2 HR16.out hy16 HE8.out.1).mono ?_; rintro e w17 ⟨rfl, hm17, hb17⟩
        have HR17 := Lib.hid hm17
        have hbV0 := bturn c16 hb17 cy.size
        have d17 := bturn d16 hb17 dy.size
        clear hm17
        go_wp2_with fail
        refine (heldR2_any M.length l8 A8 k8 _ HE8.out.2 HR17.out.at_ HE8.out.1).mono ?_; rintro e w' ⟨rfl, rfl⟩
        go_wp2_with fail
        go_region_held3 (fun w' => w'.cell? ⟨w.heap.size, 0, none⟩ = some (.int .i64 no) ∧ w'.cell? ⟨w.heap.size, 1, none⟩ = some (.slice A1 sm.length c1))
          (exact kx (by repeat (first | exact hbV3 | exact hbV2 | exact hbV1 | exact hbV0 | exact bref _ | (refine balloc ?_ _) | (refine bdrew ?_) | (refine bdrewN ?_ _))))
          (first
            | (go_at_call 17; (refine (toPkS_any l0 _ _ _ (HR0.out.below (by repeat (first | exact hbV3 | exact hbV2 | exact hbV1 | exact hbV0 | exact bref _ | (refine balloc ?_ _) | (refine bdrew ?_) | (refine bdrewN ?_ _)))) HT0.out).mono ?_); rintro e w18 ⟨L18, g18, rfl, hp18, hn18, ho18, hb18⟩; have hbV1 : Below bx.heap.size bx w18 := bstep (by repeat (first | exact hbV3 | exact hbV2 | exact hbV1 | exact hbV0 | exact bref _ | (refine balloc ?_ _) | (refine bdrew ?_) | (refine bdrewN ?_ _))) hb18; have HP18 := Lib.hid hp18; have HN18 := Lib.hid hn18; have HA18 := Lib.hid ho18.at_; have d18 : Below w5.heap.size w5 w18 := bstep (by repeat (first | exact d17 | exact bref _ | (refine balloc ?_ _) | (refine bdrew ?_) | (refine bdrewN ?_ _))) hb18; have r18 : Below w17.heap.size w17 w18 := bstep (by repeat (first | exact bref _ | (refine balloc ?_ _) | (refine bdrew ?_) | (refine bdrewN ?_ _))) hb18; clear ho18 hp18 hn18)
            | (go_at_call 28; (refine (toPk1_any no sm _ _ _ (HR1.out.below (by repeat (first | exact hbV3 | exact hbV2 | exact hbV1 | exact hbV0 | exact bref _ | (refine balloc ?_ _) | (refine bdrew ?_) | (refine bdrewN ?_ _)))) (by omega)).mono ?_); rintro e w19 ⟨g19, rfl, ho19, hb19⟩; have hbV2 : Below bx.heap.size bx w19 := bstep (by repeat (first | exact hbV3 | exact hbV2 | exact hbV1 | exact hbV0 | exact bref _ | (refine balloc ?_ _) | (refine bdrew ?_) | (refine bdrewN ?_ _))) hb19; have u19 : Below w18.heap.size w18 w19 := bstep (by repeat (first | exact bref _ | (refine balloc ?_ _) | (refine bdrew ?_) | (refine bdrewN ?_ _))) hb19; have HS19 := Lib.hid (RowAt.of_own ho19 encI_len (by omega)); clear ho19)
            | (go_at_call 29; (refine (HI2.out L18 _ _ _ _ _ HP18.out HN18.out (HA18.out.below (by repeat (first | exact u19 | exact bref _ | (refine balloc ?_ _) | (refine bdrew ?_) | (refine bdrewN ?_ _)))) (RowAt.below HS19.out (by repeat (first | exact bref _ | (refine balloc ?_ _) | (refine bdrew ?_) | (refine bdrewN ?_ _))))).mono ?_); rintro e w20 ⟨l20, A20, k20, rfl, hp20, ho20, hb20⟩; have hbV3 : Below bx.heap.size bx w20 := bstep (by repeat (first | exact hbV3 | exact hbV2 | exact hbV1 | exact hbV0 | exact bref _ | (refine balloc ?_ _) | (refine bdrew ?_) | (refine bdrewN ?_ _))) hb20; have u20 : Below w18.heap.size w18 w20 := bstep (by repeat (first | exact u19 | exact bref _ | (refine balloc ?_ _) | (refine bdrew ?_) | (refine bdrewN ?_ _))) hb20)
            | fail)
        have c20 := hbV3
        have HA20 := Lib.hid ho20.at_
        have HP20 := Lib.hid hp20
        have HE20 := Lib.hid (HTM.out l20 hp20)
        have d20 : Below w5.heap.size w5 w20 := bstep d18 u20
        have r20 : Below w17.heap.size w17 w20 := bstep r18 u20
        clear hbV0 hbV1 hbV2 hbV3 ho20 hp20 hb20 u19 u20 hb18 hb19 HS19 HA18 HP18 HN18 d18 r18
        go_wp2_with fail
        refine (eqPk2_same M.length l20 l5 A20 A5 k20 k5 _ (HWP.out.trans HP20.out.symm) HE20.out.2 HA20.out (HW.out.below d20) HE20.out.1).mono ?_; rintro e w21 ⟨rfl, hb21⟩
        go_wp2_with fail
        refine (heldR2_any M.length l8 A8 k8 _ HE8.out.2 (HR17.out.at_.below (bstep r20 hb21)) HE8.out.1).mono ?_; rintro e w' ⟨rfl, rfl⟩
        go_wp2
        go_ret
        exact ⟨rfl, bstep hbw (bstep c20 hb21)⟩
    · go_enter Try.func5, Try.ntmps5
      go_wp2_with fail
      rw [← HBX.out]
      refine (szPkS_in l0 _ _ 1048576 _ HR0.out (by omega) (by omega)).mono ?_; rintro e w1 ⟨rfl, hb1⟩
      obtain ⟨x0, x1⟩ := kx hb1
      go_wp2_with fail
      refine (szPk1_out no A1 sm.length c1 (1048576 - (tot l0 : Int)) _ (by omega) (by omega) hm1).mono ?_; rintro e w2 ⟨rfl, hb2⟩
      go_wp2
      go_ret
      exact ⟨rfl, bstep hbw (bstep hb1 hb2)⟩
  · go_enter Try.func5, Try.ntmps5
    go_wp2_with fail
    rw [← HBX.out]
    refine (szPkS_out l0 _ _ 1048576 _ HR0.out (by omega) (by omega) (by omega) hml HM0.out.2).mono ?_; rintro e w1 ⟨rfl, hb1⟩
    go_wp2
    go_ret
    exact ⟨rfl, bstep hbw hb1⟩
-- THE ROW --
set_option maxRecDepth 100000 in
theorem lawAfterPacket_lifted (os : Os) (started : os.Started) (H : Type) (enc : TypeId × Value → H) :
    ReturnsInHanded {} Try.checked os 5 .any (Rows.fnExactAfterPacketSpec.pre6 enc Try.prog Try.f5 Rows.fnExactAfterPacketRow.domain false) (Rows.fnExactAfterPacketSpec.post enc Try.prog Try.f5 false true false false) := by
  refine returnsInHanded_of_change (C := Try.checked) Try.own started (by kernel_rfl) Try.func5
    (ChangeSpec.witness6 (enc := enc) (C := Try.checked) false ⟨#[], #[.slice none 0 0, .agg #[.int .i64 0, .slice none 0 0]], []⟩ 8 (by kernel_rfl) (by kernel_rfl) (by kernel_rfl) (by kernel_rfl)) ?_
  intro W base args ds gs before hval0 hW hcnd _
  have hval : ∀ (j : Nat) t v, Try.f5.params[j]? = some t → args[j]? = some v → Value.okWide Try.prog W .any base t v := hval0
  have hW' := hW
  obtain ⟨p, q, hA0, hV, hpq, hfz, hnd⟩ := hW
  have hA : DataW.TrodAll enc Try.prog W 0 (fun _ => true) true Try.f5.params.toList args.toList ds p := hA0
  rw [Try.params5] at hA hval
  obtain ⟨v0, vs0, d0, ds0, p0, q0, hargs, rfl, rfl, h0, r0⟩ := trodAll_cons hA
  obtain ⟨v1, vs1, d1, ds1, p1, q1, rfl, rfl, rfl, h1, r1⟩ := trodAll_cons r0
  obtain ⟨rfl, rfl, rfl⟩ := trodAll_nil r1
  obtain rfl : args = #[v0, v1] := by cases args; simp_all
  obtain ⟨l0, A0, c0, rfl, hr0, hm0⟩ := rowPk (hval 0 22 v0 rfl rfl) h0
  obtain ⟨x10, x11, y10, y11, m1, rfl, rfl, rfl, t10, t11⟩ := Joins.open_agg2 Try.underlying36 (by kernel_rfl) (by kernel_rfl) (hval 1 36 v1 rfl rfl) h1
  obtain ⟨a10, e10, _, w10⟩ := DataW.trod_int Try.underlying3 t10
  simp only [List.cons.injEq, and_true] at e10
  subst e10
  obtain ⟨sm, A1, c1, rfl, hr1, hm1⟩ := rowI_trod t11
  refine (lawAfterPacket_walk l0 A0 c0 a10 sm A1 c1 W hr0 hm0 hr1 hm1).mono fun e W' ⟨he, hb⟩ => ?_
  subst he
  exact law_post Try.laidOut (by kernel_rfl) (by kernel_rfl) Try.underlying4 rfl ⟨rfl, rfl, rfl⟩ hW' hb

theorem lawAfterPacket : Rows.FnExactAfterPacketSaid :=
  OpenClaim.holds_of_wide 5 Try.f5 rfl rfl rfl rfl rfl rfl rfl ⟨rfl, rfl, rfl, rfl, rfl⟩ rfl rfl rfl rfl rfl (by kernel_rfl) Try.func5 (by kernel_rfl)
    (of_decide_eq_true (by kernel_rfl)) (by unfold Func.isWrapper; first | (rw [if_pos (by decide +kernel)]; kernel_rfl) | (rw [if_neg (by decide +kernel)]; exact ⟨rfl, rfl⟩))
    (fun os started H enc _ => lawAfterPacket_lifted os started H enc)
end Go.Proofs.Ytifkakpiipoadaa
