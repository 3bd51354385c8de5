/-
  Proved here: for every argument, impl.PutQuake and spec.PutQuake answer alike and leave the arguments as they were, and the result shares no memory (FnExactPutQuake returns true). No condition.
-/
import Derived.Test.YtlinjkfbcekepaaQuPutQ
import Derived.Test.YtlinjkfbcekepaaQuSz
import Derived.Test.YtlinjkfbcekepaaQuRow
namespace Go.Proofs.Ytlinjkfbcekepaa
set_option linter.unusedVariables false
set_option linter.unusedSimpArgs false
set_option linter.unnecessarySimpa false
open Go.RowKit Go.WideShapes Go.ChangeShapes Go.ChangeAt

theorem keepPutQuake {w W : World} {a10 : Int} {a11 : Int} {a12 : Int} {a13 : Int} (h : (w.alloc (.cells #[.int .i64 a10, .int .i64 a11, .int .i64 a12, .int .i64 a13] 23)).cell? ⟨w.heap.size, 0, none⟩ = some (.int .i64 a10) ∧ (w.alloc (.cells #[.int .i64 a10, .int .i64 a11, .int .i64 a12, .int .i64 a13] 23)).cell? ⟨w.heap.size, 1, none⟩ = some (.int .i64 a11) ∧ (w.alloc (.cells #[.int .i64 a10, .int .i64 a11, .int .i64 a12, .int .i64 a13] 23)).cell? ⟨w.heap.size, 2, none⟩ = some (.int .i64 a12) ∧ (w.alloc (.cells #[.int .i64 a10, .int .i64 a11, .int .i64 a12, .int .i64 a13] 23)).cell? ⟨w.heap.size, 3, none⟩ = some (.int .i64 a13)) (hz : Below (w.alloc (.cells #[.int .i64 a10, .int .i64 a11, .int .i64 a12, .int .i64 a13] 23)).heap.size (w.alloc (.cells #[.int .i64 a10, .int .i64 a11, .int .i64 a12, .int .i64 a13] 23)) W) : W.cell? ⟨w.heap.size, 0, none⟩ = some (.int .i64 a10) ∧ W.cell? ⟨w.heap.size, 1, none⟩ = some (.int .i64 a11) ∧ W.cell? ⟨w.heap.size, 2, none⟩ = some (.int .i64 a12) ∧ W.cell? ⟨w.heap.size, 3, none⟩ = some (.int .i64 a13) :=
  ⟨(hz.cell (p := ⟨w.heap.size, 0, none⟩) (by simp)).trans h.1, (hz.cell (p := ⟨w.heap.size, 1, none⟩) (by simp)).trans h.2.1, (hz.cell (p := ⟨w.heap.size, 2, none⟩) (by simp)).trans h.2.2.1, (hz.cell (p := ⟨w.heap.size, 3, none⟩) (by simp)).trans h.2.2.2⟩

set_option maxRecDepth 100000 in
set_option maxHeartbeats 8000000 in
theorem lawPutQuake_walk (l0 : List Qu) (A0 : Option Addr) (c0 : Nat) (a10 : Int) (a11 : Int) (a12 : Int) (a13 : Int) (w : World) (hr0 : RowAt 4 encQu w A0 l0) (hm0 : l0.length ≤ 9223372036854775807) (b10 : -9223372036854775808 ≤ a10 ∧ a10 ≤ 9223372036854775807) (b11 : -9223372036854775808 ≤ a11 ∧ a11 ≤ 9223372036854775807) (b12 : -9223372036854775808 ≤ a12 ∧ a12 ≤ 9223372036854775807) (b13 : -9223372036854775808 ≤ a13 ∧ a13 ≤ 9223372036854775807) :
    Calls Try.prog 11 #[.slice A0 l0.length c0, .agg #[.int .i64 a10, .int .i64 a11, .int .i64 a12, .int .i64 a13]] w fun e w' => e = .returned (.bool true) ∧ Below w.heap.size w w' := by
  have hr0' := Lib.hid (hr0.below (balloc (bref w) (.cells #[.int .i64 a10, .int .i64 a11, .int .i64 a12, .int .i64 a13] 23)))
  have HB0 := Lib.hid (show (w.alloc (.cells #[.int .i64 a10, .int .i64 a11, .int .i64 a12, .int .i64 a13] 23)).cell? ⟨w.heap.size, 0, none⟩ = some (.int .i64 a10) ∧ (w.alloc (.cells #[.int .i64 a10, .int .i64 a11, .int .i64 a12, .int .i64 a13] 23)).cell? ⟨w.heap.size, 1, none⟩ = some (.int .i64 a11) ∧ (w.alloc (.cells #[.int .i64 a10, .int .i64 a11, .int .i64 a12, .int .i64 a13] 23)).cell? ⟨w.heap.size, 2, none⟩ = some (.int .i64 a12) ∧ (w.alloc (.cells #[.int .i64 a10, .int .i64 a11, .int .i64 a12, .int .i64 a13] 23)).cell? ⟨w.heap.size, 3, none⟩ = some (.int .i64 a13) by simp [go_sem])
  clear hr0
  by_cases hl0 : l0.length ≤ 1048576
  · skip
    have hn : (putL l0 ⟨a10, a11, a12, a13⟩).length ≤ 2097152 := by have := putL_le l0 ⟨a10, a11, a12, a13⟩; omega
    go_enter Try.func11, Try.ntmps11
    go_wp2_with fail
    refine (szQuS_in _ l0.length _ (1048576) _ (by omega) (by omega)).mono ?_; rintro e w' ⟨rfl, rfl⟩
    go_wp2_with fail
    go_region_held3 (fun w' => w'.cell? ⟨w.heap.size, 0, none⟩ = some (.int .i64 a10) ∧ w'.cell? ⟨w.heap.size, 1, none⟩ = some (.int .i64 a11) ∧ w'.cell? ⟨w.heap.size, 2, none⟩ = some (.int .i64 a12) ∧ w'.cell? ⟨w.heap.size, 3, none⟩ = some (.int .i64 a13)) (exact keepPutQuake HB0.out (by repeat (first | exact bref _ | exact hk3 | exact hk2 | exact hk1 | (refine bdrew ?_) | (refine bdrewN ?_ _))))
      (first
      | (go_at_call 34; (refine (toQuS_any l0 _ _ _ (RowAt.below hr0'.out (by repeat (first | exact (bref _) | (refine bdrew ?_) | (refine bdrewN ?_ _)))) (by omega)).mono ?_); rintro e w1 ⟨A21, c21, rfl, ho1, hz1⟩; have hb1 : Below (w.alloc (.cells #[.int .i64 a10, .int .i64 a11, .int .i64 a12, .int .i64 a13] 23)).heap.size (w.alloc (.cells #[.int .i64 a10, .int .i64 a11, .int .i64 a12, .int .i64 a13] 23)) w1 := bstep (by repeat (first | exact (bref _) | (refine bdrew ?_) | (refine bdrewN ?_ _))) hz1; have hk1 : Below (w.alloc (.cells #[.int .i64 a10, .int .i64 a11, .int .i64 a12, .int .i64 a13] 23)).heap.size (w.alloc (.cells #[.int .i64 a10, .int .i64 a11, .int .i64 a12, .int .i64 a13] 23)) w1 := hb1; have hx1 := Lib.hid (RowAt.of_own ho1 encQu_len (by omega)); have kc1 := own_cap ho1; have kf1 := af_own ho1)
      | (go_at_call 15; (refine (toQu_any _ _ _ _ _).mono ?_); rintro e w2 ⟨rfl, hz2⟩; have hb2 : Below w1.heap.size w1 w2 := bstep (by repeat (first | exact (bref _) | (refine bdrew ?_) | (refine bdrewN ?_ _))) hz2; have hk2 : Below (w.alloc (.cells #[.int .i64 a10, .int .i64 a11, .int .i64 a12, .int .i64 a13] 23)).heap.size (w.alloc (.cells #[.int .i64 a10, .int .i64 a11, .int .i64 a12, .int .i64 a13] 23)) w2 := (bstep hb1 hb2))
      | (go_at_call 47; (refine (sPutQ_any l0 ⟨a10, a11, a12, a13⟩ _ _ _ (RowAt.below hx1.out (by repeat (first | exact hb2 | (refine bdrew ?_) | (refine bdrewN ?_ _)))) kf1 kc1 (by omega)).mono ?_); rintro e w3 ⟨A23, c23, rfl, ho3, hz3⟩; have hb3 : Below w2.heap.size w2 w3 := bstep (by repeat (first | exact (bref _) | (refine bdrew ?_) | (refine bdrewN ?_ _))) hz3; have hk3 : Below (w.alloc (.cells #[.int .i64 a10, .int .i64 a11, .int .i64 a12, .int .i64 a13] 23)).heap.size (w.alloc (.cells #[.int .i64 a10, .int .i64 a11, .int .i64 a12, .int .i64 a13] 23)) w3 := (bstep (bstep hb1 hb2) hb3))
      | fail)
    have hw := Lib.hid (RowAt.of_own ho3 encQu_len (by omega))
    clear ho3
    go_wp2_with fail
    refine (toQuS_any l0 _ _ _ (RowAt.below hr0'.out (bstep (bstep hb1 hb2) hb3)) (by omega)).mono ?_; rintro e w4 ⟨A24, c24, rfl, ho4, hb4⟩
    have hx4 := Lib.hid (RowAt.of_own ho4 encQu_len (by omega))
    have kc4 := own_cap ho4
    have kf4 := af_own ho4
    have ho4 := Lib.hid ho4
    have hk4 : Below (w.alloc (.cells #[.int .i64 a10, .int .i64 a11, .int .i64 a12, .int .i64 a13] 23)).heap.size (w.alloc (.cells #[.int .i64 a10, .int .i64 a11, .int .i64 a12, .int .i64 a13] 23)) w4 := (bstep (bstep (bstep hb1 hb2) hb3) hb4)
    have s4 : w.heap.size < w4.heap.size := Nat.lt_of_lt_of_le (by simp) hk4.size
    obtain ⟨y0, y1, y2, y3⟩ : w4.cell? ⟨w.heap.size, 0, none⟩ = some (.int .i64 a10) ∧ w4.cell? ⟨w.heap.size, 1, none⟩ = some (.int .i64 a11) ∧ w4.cell? ⟨w.heap.size, 2, none⟩ = some (.int .i64 a12) ∧ w4.cell? ⟨w.heap.size, 3, none⟩ = some (.int .i64 a13) := by
      have h := HB0.out
      refine ⟨(hk4.cell (p := ⟨w.heap.size, 0, none⟩) (by simp)).trans h.1, (hk4.cell (p := ⟨w.heap.size, 1, none⟩) (by simp)).trans h.2.1, (hk4.cell (p := ⟨w.heap.size, 2, none⟩) (by simp)).trans h.2.2.1, (hk4.cell (p := ⟨w.heap.size, 3, none⟩) (by simp)).trans h.2.2.2⟩
    go_wp2_with fail
    refine (toQu_any _ _ _ _ _).mono ?_; rintro e w5 ⟨rfl, hb5⟩
    go_wp2_with fail
    refine (iPutQ_any l0 ⟨a10, a11, a12, a13⟩ _ _ _ (RowAt.below hx4.out hb5) (by omega)).mono ?_; rintro e w6 ⟨A26, c26, rfl, ho6, hb6⟩
    have hg6 := Lib.hid (RowAt.of_own ho6 encQu_len (by omega))
    have ho6 := Lib.hid ho6
    go_wp2_with fail
    refine (eqQuS_same (putL l0 ⟨a10, a11, a12, a13⟩) _ _ _ _ _ hg6.out (RowAt.below hw.out (bstep (bstep hb4 hb5) hb6)) (by omega)).mono ?_; rintro e w7 ⟨rfl, hb7⟩
    go_wp2_with fail
    refine (toQuS_any l0 _ _ _ (RowAt.below hr0'.out (bstep (bstep (bstep (bstep (bstep (bstep hb1 hb2) hb3) hb4) hb5) hb6) hb7)) (by omega)).mono ?_; rintro e w8 ⟨A28, c28, rfl, ho8, hb8⟩
    have hx8 := Lib.hid (RowAt.of_own ho8 encQu_len (by omega))
    have kc8 := own_cap ho8
    have kf8 := af_own ho8
    clear ho8
    go_wp2_with fail
    refine (eqQuS_same l0 _ _ _ _ _ (RowAt.below hx4.out (bstep (bstep (bstep hb5 hb6) hb7) hb8)) hx8.out (by omega)).mono ?_; rintro e w9 ⟨rfl, hb9⟩
    go_wp2_with fail
    refine (markQuS_any (1) _ _ _ _ _ _ (own_below ho4.out (bstep (bstep (bstep (bstep hb5 hb6) hb7) hb8) hb9)) (by omega) (by omega) (by omega)).mono ?_; rintro e w10 ⟨rfl, hm10, hgr10⟩
    have r4 := row_mine ho4.out
    have t4 := ho4.out.lt
    have hog10 := Lib.hid (World.ownsRow.kept (own_below ho6.out (bstep (bstep hb7 hb8) hb9)) hgr10 (own_apart ho6.out (fun k hk => Nat.lt_of_lt_of_le (t4 k hk).2 hb5.size)))
    clear hm10
    go_wp2_with fail
    have hg10 := Lib.hid (RowAt.of_own hog10.out encQu_len (by omega))
    refine (eqQuS_same (putL l0 ⟨a10, a11, a12, a13⟩) _ _ _ _ _ hg10.out (RowAt.below hw.out (bgrown (bstep (bstep (bstep (bstep (bstep hb4 hb5) hb6) hb7) hb8) hb9) hgr10 r4)) (by omega)).mono ?_; rintro e w11 ⟨rfl, hb11⟩
    go_wp2_with fail
    refine (markQuS_any 1 _ _ _ _ _ _ (own_below hog10.out hb11) (by omega) (by omega) (by omega)).mono ?_; rintro e w12 ⟨rfl, hm12, hgr12⟩
    have r6 := row_mine ho6.out
    have t6 := ho6.out.lt
    have hmm := Lib.hid (RowAt.of_own hm12 encQu_len (by omega))
    clear hm12
    go_wp2_with fail
    refine (heldQuS_any 1 _ _ _ _ hmm.out (by omega) (by omega) (by omega)).mono ?_; rintro e w' ⟨rfl, rfl⟩
    go_wp2_with fail
    have hk12 : Below (w.alloc (.cells #[.int .i64 a10, .int .i64 a11, .int .i64 a12, .int .i64 a13] 23)).heap.size (w.alloc (.cells #[.int .i64 a10, .int .i64 a11, .int .i64 a12, .int .i64 a13] 23)) w12 := (bgrown (bstep (bgrown (bstep (bstep (bstep (bstep (bstep (bstep (bstep (bstep hb1 hb2) hb3) hb4) hb5) hb6) hb7) hb8) hb9) hgr10 (fun k hk => Nat.le_trans (bstep (bstep hb1 hb2) hb3).size (r4 k hk))) hb11) hgr12 (fun k hk => Nat.le_trans (bstep (bstep (bstep (bstep hb1 hb2) hb3) hb4) hb5).size (r6 k hk)))
    go_region_held3 (fun w' => w'.cell? ⟨w.heap.size, 0, none⟩ = some (.int .i64 a10) ∧ w'.cell? ⟨w.heap.size, 1, none⟩ = some (.int .i64 a11) ∧ w'.cell? ⟨w.heap.size, 2, none⟩ = some (.int .i64 a12) ∧ w'.cell? ⟨w.heap.size, 3, none⟩ = some (.int .i64 a13)) (exact keepPutQuake HB0.out (by repeat (first | exact bref _ | exact hk15 | exact hk14 | exact hk13 | exact hk12 | (refine bdrew ?_) | (refine bdrewN ?_ _))))
      (first
      | (go_at_call 34; (refine (toQuS_any l0 _ _ _ (RowAt.below hr0'.out (by repeat (first | exact (bgrown (bstep (bgrown (bstep (bstep (bstep (bstep (bstep (bstep (bstep (bstep hb1 hb2) hb3) hb4) hb5) hb6) hb7) hb8) hb9) hgr10 (fun k hk => Nat.le_trans (bstep (bstep hb1 hb2) hb3).size (r4 k hk))) hb11) hgr12 (fun k hk => Nat.le_trans (bstep (bstep (bstep (bstep hb1 hb2) hb3) hb4) hb5).size (r6 k hk))) | (refine bdrew ?_) | (refine bdrewN ?_ _)))) (by omega)).mono ?_); rintro e w13 ⟨A33, c33, rfl, ho13, hz13⟩; have hb13 : Below w12.heap.size w12 w13 := bstep (by repeat (first | exact (bref _) | (refine bdrew ?_) | (refine bdrewN ?_ _))) hz13; have hk13 : Below (w.alloc (.cells #[.int .i64 a10, .int .i64 a11, .int .i64 a12, .int .i64 a13] 23)).heap.size (w.alloc (.cells #[.int .i64 a10, .int .i64 a11, .int .i64 a12, .int .i64 a13] 23)) w13 := (bstep (bgrown (bstep (bgrown (bstep (bstep (bstep (bstep (bstep (bstep (bstep (bstep hb1 hb2) hb3) hb4) hb5) hb6) hb7) hb8) hb9) hgr10 (fun k hk => Nat.le_trans (bstep (bstep hb1 hb2) hb3).size (r4 k hk))) hb11) hgr12 (fun k hk => Nat.le_trans (bstep (bstep (bstep (bstep hb1 hb2) hb3) hb4) hb5).size (r6 k hk))) hb13); have hx13 := Lib.hid (RowAt.of_own ho13 encQu_len (by omega)); have kc13 := own_cap ho13; have kf13 := af_own ho13)
      | (go_at_call 15; (refine (toQu_any _ _ _ _ _).mono ?_); rintro e w14 ⟨rfl, hz14⟩; have hb14 : Below w13.heap.size w13 w14 := bstep (by repeat (first | exact (bref _) | (refine bdrew ?_) | (refine bdrewN ?_ _))) hz14; have hk14 : Below (w.alloc (.cells #[.int .i64 a10, .int .i64 a11, .int .i64 a12, .int .i64 a13] 23)).heap.size (w.alloc (.cells #[.int .i64 a10, .int .i64 a11, .int .i64 a12, .int .i64 a13] 23)) w14 := (bstep (bstep (bgrown (bstep (bgrown (bstep (bstep (bstep (bstep (bstep (bstep (bstep (bstep hb1 hb2) hb3) hb4) hb5) hb6) hb7) hb8) hb9) hgr10 (fun k hk => Nat.le_trans (bstep (bstep hb1 hb2) hb3).size (r4 k hk))) hb11) hgr12 (fun k hk => Nat.le_trans (bstep (bstep (bstep (bstep hb1 hb2) hb3) hb4) hb5).size (r6 k hk))) hb13) hb14))
      | (go_at_call 48; (refine (iPutQ_any l0 ⟨a10, a11, a12, a13⟩ _ _ _ (RowAt.below hx13.out (by repeat (first | exact hb14 | (refine bdrew ?_) | (refine bdrewN ?_ _)))) (by omega)).mono ?_); rintro e w15 ⟨A35, c35, rfl, ho15, hz15⟩; have hb15 : Below w14.heap.size w14 w15 := bstep (by repeat (first | exact (bref _) | (refine bdrew ?_) | (refine bdrewN ?_ _))) hz15; have hk15 : Below (w.alloc (.cells #[.int .i64 a10, .int .i64 a11, .int .i64 a12, .int .i64 a13] 23)).heap.size (w.alloc (.cells #[.int .i64 a10, .int .i64 a11, .int .i64 a12, .int .i64 a13] 23)) w15 := (bstep (bstep (bstep (bgrown (bstep (bgrown (bstep (bstep (bstep (bstep (bstep (bstep (bstep (bstep hb1 hb2) hb3) hb4) hb5) hb6) hb7) hb8) hb9) hgr10 (fun k hk => Nat.le_trans (bstep (bstep hb1 hb2) hb3).size (r4 k hk))) hb11) hgr12 (fun k hk => Nat.le_trans (bstep (bstep (bstep (bstep hb1 hb2) hb3) hb4) hb5).size (r6 k hk))) hb13) hb14) hb15))
      | fail)
    have hg15 := Lib.hid (RowAt.of_own ho15 encQu_len (by omega))
    clear ho15
    go_wp2_with fail
    refine (eqQuS_same (putL l0 ⟨a10, a11, a12, a13⟩) _ _ _ _ _ hg15.out (RowAt.below hw.out (bstep (bstep (bstep (bgrown (bstep (bgrown (bstep (bstep (bstep (bstep (bstep hb4 hb5) hb6) hb7) hb8) hb9) hgr10 r4) hb11) hgr12 (fun k hk => Nat.le_trans (bstep hb4 hb5).size (r6 k hk))) hb13) hb14) hb15)) (by omega)).mono ?_; rintro e w16 ⟨rfl, hb16⟩
    go_wp2_with fail
    refine (heldQuS_any 1 _ _ _ _ (RowAt.below hmm.out (bstep (bstep (bstep hb13 hb14) hb15) hb16)) (by omega) (by omega) (by omega)).mono ?_; rintro e w' ⟨rfl, rfl⟩
    go_wp2
    go_ret
    exact ⟨rfl, (bstep (balloc (bref _) _) (bstep (bstep (bstep (bstep (bgrown (bstep (bgrown (bstep (bstep (bstep (bstep (bstep (bstep (bstep (bstep hb1 hb2) hb3) hb4) hb5) hb6) hb7) hb8) hb9) hgr10 (fun k hk => Nat.le_trans (bstep (bstep hb1 hb2) hb3).size (r4 k hk))) hb11) hgr12 (fun k hk => Nat.le_trans (bstep (bstep (bstep (bstep hb1 hb2) hb3) hb4) hb5).size (r6 k hk))) hb13) hb14) hb15) hb16))⟩
  · go_enter Try.func11, Try.ntmps11
    go_wp2_with fail
    refine (szQuS_out _ l0.length _ (1048576) _ (by omega) (by omega) (by omega)).mono ?_; rintro e w' ⟨rfl, rfl⟩
    go_wp2
    go_ret
    exact ⟨rfl, (by repeat (first | exact bref _ | (refine balloc ?_ _) | (refine bdrew ?_) | (refine bdrewN ?_ _) | (refine bstep ?_ (by assumption))))⟩

-- THE ROW --
set_option maxRecDepth 100000 in
theorem lawPutQuake_lifted (os : Os) (started : os.Started) (H : Type) (enc : TypeId × Value → H) :
    ReturnsInHanded {} Try.checked os 11 .any (Rows.fnExactPutQuakeSpec.pre6 enc Try.prog Try.f11 Rows.fnExactPutQuakeRow.domain false) (Rows.fnExactPutQuakeSpec.post enc Try.prog Try.f11 false true false false) := by
  refine returnsInHanded_of_change (C := Try.checked) Try.own started (by kernel_rfl) Try.func11
    (ChangeSpec.witness6 (enc := enc) (C := Try.checked) false ⟨#[], #[.slice none 0 0, .agg #[.int .i64 0, .int .i64 0, .int .i64 0, .int .i64 0]], []⟩ 8 (by kernel_rfl) (by kernel_rfl) (by kernel_rfl) (by kernel_rfl)) ?_
  intro W base args ds gs before hval0 hW hcnd _
  have hval : ∀ (j : Nat) t v, Try.f11.params[j]? = some t → args[j]? = some v → Value.okWide Try.prog W .any base t v := hval0
  have hW' := hW
  obtain ⟨p, q, hA0, hV, hpq, hfz, hnd⟩ := hW
  have hA : DataW.TrodAll enc Try.prog W 0 (fun _ => true) true Try.f11.params.toList args.toList ds p := hA0
  rw [Try.params11] at hA hval
  obtain ⟨v0, vs0, d0, ds0, p0, q0, hargs, rfl, rfl, h0, r0⟩ := trodAll_cons hA
  obtain ⟨v1, vs1, d1, ds1, p1, q1, rfl, rfl, rfl, h1, r1⟩ := trodAll_cons r0
  obtain ⟨rfl, rfl, rfl⟩ := trodAll_nil r1
  obtain rfl : args = #[v0, v1] := by cases args; simp_all
  obtain ⟨l0, A0, c0, rfl, hr0, hm0⟩ := rowQu (hval 0 46 v0 rfl rfl) h0
  obtain ⟨x10, x11, x12, x13, y10, y11, y12, y13, m1, rfl, rfl, rfl, t10, t11, t12, t13⟩ := Joins.open_agg4 Try.underlying23 (by kernel_rfl) (by kernel_rfl) (hval 1 23 v1 rfl rfl) h1
  obtain ⟨a10, e10, _, w10⟩ := DataW.trod_int Try.underlying3 t10
  simp only [List.cons.injEq, and_true] at e10
  subst e10
  have b10 := bounds_i64 w10
  obtain ⟨a11, e11, _, w11⟩ := DataW.trod_int Try.underlying3 t11
  simp only [List.cons.injEq, and_true] at e11
  subst e11
  have b11 := bounds_i64 w11
  obtain ⟨a12, e12, _, w12⟩ := DataW.trod_int Try.underlying3 t12
  simp only [List.cons.injEq, and_true] at e12
  subst e12
  have b12 := bounds_i64 w12
  obtain ⟨a13, e13, _, w13⟩ := DataW.trod_int Try.underlying3 t13
  simp only [List.cons.injEq, and_true] at e13
  subst e13
  have b13 := bounds_i64 w13
  refine (lawPutQuake_walk l0 A0 c0 a10 a11 a12 a13 W hr0 hm0 b10 b11 b12 b13).mono fun e W' ⟨he, hb⟩ => ?_
  subst he
  exact law_post Try.laidOut (by kernel_rfl) (by kernel_rfl) Try.underlying4 rfl ⟨rfl, rfl, rfl⟩ hW' hb

theorem lawPutQuake : Rows.FnExactPutQuakeSaid :=
  OpenClaim.holds_of_wide 11 Try.f11 rfl rfl rfl rfl rfl rfl rfl ⟨rfl, rfl, rfl, rfl, rfl⟩ rfl rfl rfl rfl rfl (by kernel_rfl) Try.func11 (by kernel_rfl)
    (of_decide_eq_true (by kernel_rfl)) (by unfold Func.isWrapper; first | (rw [if_pos (by decide +kernel)]; kernel_rfl) | (rw [if_neg (by decide +kernel)]; exact ⟨rfl, rfl⟩))
    (fun os started H enc _ => lawPutQuake_lifted os started H enc)
end Go.Proofs.Ytlinjkfbcekepaa
