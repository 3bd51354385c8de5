/-
  The draws of module quakes: what FnPairings asks for.
-/
import Derived.Test.YtlinjkfbcekepaaQuDrw
import Derived.Test.YtlinjkfbcekepaaP20
import Derived.Test.YtlinjkfbcekepaaBox4
import Derived.Test.YtlinjkfbcekepaaQuLngL
namespace Go.Proofs.Ytlinjkfbcekepaa
set_option linter.unusedVariables false
set_option linter.unusedSimpArgs false
set_option linter.unnecessarySimpa false
open Go.RowKit
attribute [local go_sem] ext_cell ext_frozen

set_option maxRecDepth 100000 in
set_option maxHeartbeats 2000000 in
theorem drawLng_any (A : Option Addr) (n c : Nat) (w : World) (h : CodeAt w A n) (hn : n ≤ 65536) :
    Calls Try.prog 18 #[.slice A n c] w fun e w' => ∃ (a b : List Qu) (B D : Option Addr) (cb cd : Nat) (t f : Int), e = .returned (.tuple #[.slice B a.length cb, .slice D b.length cd, .int .i64 t, .int .i64 f]) ∧ (a.length ≤ 11 ∧ b.length ≤ 11) ∧ w'.ownsRow w.heap.size 26 4 (.slice B a.length cb) a.length (a.flatMap encQu) ∧ w'.ownsRow w.heap.size 26 4 (.slice D b.length cd) b.length (b.flatMap encQu) ∧ Below w.heap.size w w' := by
  have HH := Lib.hid h
  clear h
  go_enter Try.func18, Try.ntmps18
  go_wp2_with (go_at_call 29; (with_reducible refine (drawMat_any A n c _ HH.out hn).mono ?_); rintro e w1 ⟨a, b, B, D, cb, cd, t, f, rfl, hl, ho1, ho2, hb1⟩)
  exact bodyPost_ret (v := .tuple #[.slice B a.length cb, .slice D b.length cd, .int .i64 t, .int .i64 f]) (by simp [results, Try.results18, go_sem]) rfl ⟨a, b, B, D, cb, cd, t, f, rfl, hl, ho1, ho2, hb1⟩
set_option maxRecDepth 100000 in
set_option maxHeartbeats 4000000 in
theorem drawDo_any (A : Option Addr) (n c : Nat) (w : World) (h : CodeAt w A n) (hn : n ≤ 65536) :
    Calls Try.prog 28 #[.slice A n c] w fun e w' => ∃ (p q : Qu) (t f : Int), e = .returned (.tuple #[.agg #[.int .i64 p.tk, .int .i64 p.x, .int .i64 p.y, .int .i64 p.sz], .agg #[.int .i64 q.tk, .int .i64 q.x, .int .i64 q.y, .int .i64 q.sz], .int .i64 t, .int .i64 f]) ∧ Below w.heap.size w w' := by
  have hD := dr_new (w := (w.alloc (.cells #[.int .i64 0, .int .i64 0, .int .i64 0, .int .i64 0] 26)).alloc (.cells #[.int .i64 0, .int .i64 0, .int .i64 0, .int .i64 0] 26)) (c := c) (E := 80) (h.grown (only_of_below (balloc (balloc (bref w) (.cells #[.int .i64 0, .int .i64 0, .int .i64 0, .int .i64 0] 26)) (.cells #[.int .i64 0, .int .i64 0, .int .i64 0, .int .i64 0] 26)) none) (fun _ _ _ e => by cases e))
  have b1 := box4_of (blk_alloc (blk_alloc (heap_new1 w (.cells #[.int .i64 0, .int .i64 0, .int .i64 0, .int .i64 0] 26)) (.cells #[.int .i64 0, .int .i64 0, .int .i64 0, .int .i64 0] 26)) (.cells #[.slice A n c, .int .i64 0, .int .u64 0] 80))
  have b2 := box4_of (blk_alloc (heap_new1 (w.alloc (.cells #[.int .i64 0, .int .i64 0, .int .i64 0, .int .i64 0] 26)) (.cells #[.int .i64 0, .int .i64 0, .int .i64 0, .int .i64 0] 26)) (.cells #[.slice A n c, .int .i64 0, .int .u64 0] 80))
  simp only [World.size_alloc] at hD b2
  have HD := Lib.hid hD
  have HB1 := Lib.hid b1
  have HB2 := Lib.hid b2
  clear h hD b1 b2
  go_enter Try.func28, Try.ntmps28
  go_wp2_with fail
  refine (quakeWindow_any _ HD.out (by omega) (by omega)).mono ?_; rintro e w1 ⟨t, f, rfl, hd1, hg1⟩
  go_wp2_with fail
  refine (oneQuake_any _ hd1 (by omega) (by omega)).mono ?_; rintro e w2 ⟨p, rfl, hd2, hg2⟩
  go_wp2_with fail
  refine (oneQuake_any _ hd2 (by omega) (by omega)).mono ?_; rintro e w3 ⟨q, rfl, hd3, hg3⟩
  have hgg := only_two hg1 (only_two hg2 hg3)
  have hb3 : Below w.heap.size w w3 := bgrown (balloc (balloc (balloc (bref w) _) _) _) hgg (fun k hk => by cases hk; omega)
  obtain ⟨_, ⟨z0, z1, z2, z3⟩, y0, y1, y2, y3⟩ := HB1.out.moved hgg (by omega)
  obtain ⟨_, ⟨u0, u1, u2, u3⟩, v0, v1, v2, v3⟩ := HB2.out.moved hgg (by omega)
  have ne1 : w.heap.size + 1 ≠ w.heap.size := by omega
  have ne2 : w.heap.size ≠ w.heap.size + 1 := by omega
  obtain ⟨s0, s1, s2, s3⟩ := set4 (.int .i64 p.tk) (.int .i64 p.x) (.int .i64 p.y) (.int .i64 p.sz) z0 z1 z2 z3
  have HU := Lib.hid (show ((((w3.setCell ⟨w.heap.size, 0, none⟩ (.int .i64 p.tk)).setCell ⟨w.heap.size, 1, none⟩ (.int .i64 p.x)).setCell ⟨w.heap.size, 2, none⟩ (.int .i64 p.y)).setCell ⟨w.heap.size, 3, none⟩ (.int .i64 p.sz)).cell? ⟨w.heap.size + 1, 0, none⟩ = some (.int .i64 0) ∧ ((((w3.setCell ⟨w.heap.size, 0, none⟩ (.int .i64 p.tk)).setCell ⟨w.heap.size, 1, none⟩ (.int .i64 p.x)).setCell ⟨w.heap.size, 2, none⟩ (.int .i64 p.y)).setCell ⟨w.heap.size, 3, none⟩ (.int .i64 p.sz)).cell? ⟨w.heap.size + 1, 1, none⟩ = some (.int .i64 0) ∧ ((((w3.setCell ⟨w.heap.size, 0, none⟩ (.int .i64 p.tk)).setCell ⟨w.heap.size, 1, none⟩ (.int .i64 p.x)).setCell ⟨w.heap.size, 2, none⟩ (.int .i64 p.y)).setCell ⟨w.heap.size, 3, none⟩ (.int .i64 p.sz)).cell? ⟨w.heap.size + 1, 2, none⟩ = some (.int .i64 0) ∧ ((((w3.setCell ⟨w.heap.size, 0, none⟩ (.int .i64 p.tk)).setCell ⟨w.heap.size, 1, none⟩ (.int .i64 p.x)).setCell ⟨w.heap.size, 2, none⟩ (.int .i64 p.y)).setCell ⟨w.heap.size, 3, none⟩ (.int .i64 p.sz)).cell? ⟨w.heap.size + 1, 3, none⟩ = some (.int .i64 0) from ⟨(set_far (set_far (set_far (set_far u0 ne1) ne1) ne1) ne1), (set_far (set_far (set_far (set_far u1 ne1) ne1) ne1) ne1), (set_far (set_far (set_far (set_far u2 ne1) ne1) ne1) ne1), (set_far (set_far (set_far (set_far u3 ne1) ne1) ne1) ne1)⟩)
  have HW := Lib.hid (show Below w.heap.size w ((((w3.setCell ⟨w.heap.size, 0, none⟩ (.int .i64 p.tk)).setCell ⟨w.heap.size, 1, none⟩ (.int .i64 p.x)).setCell ⟨w.heap.size, 2, none⟩ (.int .i64 p.y)).setCell ⟨w.heap.size, 3, none⟩ (.int .i64 p.sz)) from (bset (bset (bset (bset hb3 (p := ⟨w.heap.size, 0, none⟩) (by simp) _) (p := ⟨w.heap.size, 1, none⟩) (by simp) _) (p := ⟨w.heap.size, 2, none⟩) (by simp) _) (p := ⟨w.heap.size, 3, none⟩) (by simp) _))
  go_wp2_with fail
  generalize ((((w3.setCell ⟨w.heap.size, 0, none⟩ (.int .i64 p.tk)).setCell ⟨w.heap.size, 1, none⟩ (.int .i64 p.x)).setCell ⟨w.heap.size, 2, none⟩ (.int .i64 p.y)).setCell ⟨w.heap.size, 3, none⟩ (.int .i64 p.sz)) = W1 at s0 s1 s2 s3 HU HW ⊢
  obtain ⟨t0, t1, t2, t3⟩ := set4 (.int .i64 q.tk) (.int .i64 q.x) (.int .i64 q.y) (.int .i64 q.sz) HU.out.1 HU.out.2.1 HU.out.2.2.1 HU.out.2.2.2
  have HS := Lib.hid (show ((((W1.setCell ⟨(w.heap.size + 1), 0, none⟩ (.int .i64 q.tk)).setCell ⟨(w.heap.size + 1), 1, none⟩ (.int .i64 q.x)).setCell ⟨(w.heap.size + 1), 2, none⟩ (.int .i64 q.y)).setCell ⟨(w.heap.size + 1), 3, none⟩ (.int .i64 q.sz)).cell? ⟨w.heap.size, 0, none⟩ = some (.int .i64 p.tk) ∧ ((((W1.setCell ⟨(w.heap.size + 1), 0, none⟩ (.int .i64 q.tk)).setCell ⟨(w.heap.size + 1), 1, none⟩ (.int .i64 q.x)).setCell ⟨(w.heap.size + 1), 2, none⟩ (.int .i64 q.y)).setCell ⟨(w.heap.size + 1), 3, none⟩ (.int .i64 q.sz)).cell? ⟨w.heap.size, 1, none⟩ = some (.int .i64 p.x) ∧ ((((W1.setCell ⟨(w.heap.size + 1), 0, none⟩ (.int .i64 q.tk)).setCell ⟨(w.heap.size + 1), 1, none⟩ (.int .i64 q.x)).setCell ⟨(w.heap.size + 1), 2, none⟩ (.int .i64 q.y)).setCell ⟨(w.heap.size + 1), 3, none⟩ (.int .i64 q.sz)).cell? ⟨w.heap.size, 2, none⟩ = some (.int .i64 p.y) ∧ ((((W1.setCell ⟨(w.heap.size + 1), 0, none⟩ (.int .i64 q.tk)).setCell ⟨(w.heap.size + 1), 1, none⟩ (.int .i64 q.x)).setCell ⟨(w.heap.size + 1), 2, none⟩ (.int .i64 q.y)).setCell ⟨(w.heap.size + 1), 3, none⟩ (.int .i64 q.sz)).cell? ⟨w.heap.size, 3, none⟩ = some (.int .i64 p.sz) from ⟨(set_far (set_far (set_far (set_far s0 ne2) ne2) ne2) ne2), (set_far (set_far (set_far (set_far s1 ne2) ne2) ne2) ne2), (set_far (set_far (set_far (set_far s2 ne2) ne2) ne2) ne2), (set_far (set_far (set_far (set_far s3 ne2) ne2) ne2) ne2)⟩)
  have HW2 := Lib.hid (show Below w.heap.size w ((((W1.setCell ⟨(w.heap.size + 1), 0, none⟩ (.int .i64 q.tk)).setCell ⟨(w.heap.size + 1), 1, none⟩ (.int .i64 q.x)).setCell ⟨(w.heap.size + 1), 2, none⟩ (.int .i64 q.y)).setCell ⟨(w.heap.size + 1), 3, none⟩ (.int .i64 q.sz)) from (bset (bset (bset (bset HW.out (p := ⟨(w.heap.size + 1), 0, none⟩) (by simp) _) (p := ⟨(w.heap.size + 1), 1, none⟩) (by simp) _) (p := ⟨(w.heap.size + 1), 2, none⟩) (by simp) _) (p := ⟨(w.heap.size + 1), 3, none⟩) (by simp) _))
  clear s0 s1 s2 s3 HU HW
  generalize ((((W1.setCell ⟨(w.heap.size + 1), 0, none⟩ (.int .i64 q.tk)).setCell ⟨(w.heap.size + 1), 1, none⟩ (.int .i64 q.x)).setCell ⟨(w.heap.size + 1), 2, none⟩ (.int .i64 q.y)).setCell ⟨(w.heap.size + 1), 3, none⟩ (.int .i64 q.sz)) = W2 at t0 t1 t2 t3 HS HW2 ⊢
  obtain ⟨s0, s1, s2, s3⟩ := HS.out
  exact bodyPost_ret (v := .tuple #[.agg #[.int .i64 p.tk, .int .i64 p.x, .int .i64 p.y, .int .i64 p.sz], .agg #[.int .i64 q.tk, .int .i64 q.x, .int .i64 q.y, .int .i64 q.sz], .int .i64 t, .int .i64 f]) (by simp [results, Try.results28, go_sem, s0, s1, s2, s3, t0, t1, t2, t3]) rfl ⟨p, q, t, f, rfl, HW2.out⟩
set_option maxRecDepth 100000 in
set_option maxHeartbeats 8000000 in
theorem drawPair_any (A : Option Addr) (n c : Nat) (w : World) (h : CodeAt w A n) (hn : n ≤ 65536) :
    Calls Try.prog 26 #[.slice A n c] w fun e w' => ∃ (a b : List Qu) (l : List P2) (B D X : Option Addr) (cb cd cx : Nat) (t f : Int), e = .returned (.tuple #[.slice B a.length cb, .slice D b.length cd, .int .i64 t, .int .i64 f, .slice X l.length cx]) ∧ (a.length ≤ 11 ∧ b.length ≤ 11 ∧ l.length ≤ 11) ∧ RowAt 4 encQu w' B a ∧ RowAt 4 encQu w' D b ∧ RowAt 2 encP2 w' X l ∧ Below w.heap.size w w' := by
  have HD := Lib.hid (dr_new (c := c) (E := 80) h)
  clear h
  have hp : w.heap.size < (w.alloc (.cells #[.slice A n c, .int .i64 0, .int .u64 0] 80)).heap.size := by simp
  go_enter Try.func26, Try.ntmps26
  go_wp2_with fail
  refine (twins_any _ HD.out (by omega) (by omega)).mono ?_; rintro e w1 ⟨a, b, B, D, cb, cd, rfl, ⟨hla, hlb⟩, ho1, ho2, hd1, hg1⟩
  have HO1 := Lib.hid ho1
  have HO2 := Lib.hid ho2
  clear ho1 ho2
  go_wp2_with fail
  refine (quakeWindow_any _ hd1 (by omega) (by omega)).mono ?_; rintro e w2 ⟨t, f, rfl, hd2, hg2⟩
  have HO1 := Lib.hid (own_dr HO1.out hg2 hp)
  have HO2 := Lib.hid (own_dr HO2.out hg2 hp)
  have HG2 := Lib.hid (only_two hg1 hg2)
  have hs2 := hg2.size
  have HD2 := Lib.hid hd2
  clear hg1 hg2 hd1 hd2
  have hpw2 : w.heap.size < w2.heap.size := by have := HG2.out.size; simp at this; omega
  obtain ⟨O, hO⟩ : ∃ O, bothB a b t f = O := ⟨_, rfl⟩
  have HO := Lib.hid hO
  have hll := lngL_le a b t f
  clear hO
  go_wp2_with fail
  refine (sLng_any a b B D cb cd t f _ (RowAt.of_own HO1.out encQu_len (by decide)) (RowAt.of_own HO2.out encQu_len (by decide)) (by omega) (by omega)).mono ?_; rw [HO.out]; rintro e w3 ⟨A3, k3, rfl, ho3, hb3⟩
  have HP3 := Lib.hid ho3
  have HA3 := Lib.hid (own_below HO1.out hb3)
  have HB3 := Lib.hid (own_below HO2.out hb3)
  have HD3 := Lib.hid (HD2.out.below hb3)
  have HG3 := Lib.hid (only_two HG2.out (only_of_below hb3 _))
  clear ho3 hb3
  cases O
  case' false =>
    go_wp2_with fail
    have HAx := HA3
    have HBx := HB3
    have HDx := Lib.hid (HD3.out.more (show _ ≤ 600 by omega))
    have HGx := HG3
    obtain ⟨wx, hwx⟩ : ∃ wx, wx = w3 := ⟨_, rfl⟩
    rw [← hwx] at HAx HBx HDx HGx ⊢
    clear hwx
  case' true =>
    go_wp2_with fail
    refine (one_dr 4 _ HD3.out (by omega) (by omega) (by decide)).mono ?_; rintro e w4 ⟨b4, rfl, hd4, hg4⟩
    have HA4 := Lib.hid (own_dr HA3.out hg4 hp)
    have HB4 := Lib.hid (own_dr HB3.out hg4 hp)
    have HP4 := Lib.hid (own_dr HP3.out hg4 hpw2)
    have HG4 := Lib.hid (only_two HG3.out hg4)
    have HD4 := Lib.hid hd4
    clear hd4 hg4
    cases b4
    case false =>
      go_wp2_with fail
      exact bodyPost_ret (v := .tuple #[.slice B a.length cb, .slice D b.length cd, .int .i64 t, .int .i64 f, .slice A3 (lngL a b t f).length k3]) (by simp [results, Try.results26, go_sem]) rfl ⟨a, b, lngL a b t f, B, D, A3, cb, cd, k3, t, f, rfl, ⟨hla, hlb, by omega⟩, RowAt.of_own HA4.out encQu_len (by decide), RowAt.of_own HB4.out encQu_len (by decide), RowAt.of_own HP4.out encP2_len (by decide), below_new HG4.out⟩
    case' true =>
      go_wp2_with fail
      have HAx := HA4
      have HBx := HB4
      have HDx := Lib.hid (HD4.out.more (show _ ≤ 600 by omega))
      have HGx := HG4
      obtain ⟨wx, hwx⟩ : ∃ wx, wx = w4 := ⟨_, rfl⟩
      rw [← hwx] at HAx HBx HDx HGx ⊢
      clear hwx
  all_goals
    refine (pick_dr 3 _ HDx.out (by omega) (by omega) (by decide)).mono ?_; rintro e w5 ⟨r5, rfl, hr5, hd5, hg5⟩
    go_wp2_with fail
    refine (pick_dr 3 _ hd5 (by omega) (by omega) (by decide)).mono ?_; rintro e w6 ⟨r6, rfl, hr6, hd6, hg6⟩
    go_wp2_with fail
    refine (pick_dr 4 _ hd6 (by omega) (by omega) (by decide)).mono ?_; rintro e w7 ⟨r7, rfl, hr7, hd7, hg7⟩
    go_wp2_with fail
    refine (pick_dr 9 _ hd7 (by omega) (by omega) (by decide)).mono ?_; rintro e w8 ⟨r8, rfl, hr8, hd8, hg8⟩
    have hgg := only_two hg5 (only_two hg6 (only_two hg7 hg8))
    have HA8 := Lib.hid (own_dr HAx.out hgg hp)
    have HB8 := Lib.hid (own_dr HBx.out hgg hp)
    have HG8 := Lib.hid (only_two HGx.out hgg)
    go_wp2_with fail
    have ho : Below w8.heap.size w8 (w8.alloc (.cells #[.int .i64 r5, .int .i64 r6, .int .i64 (r7 - r8 / 8), .int .i64 2] 66)) := balloc (bref w8) _
    exact bodyPost_ret (v := .tuple #[.slice B a.length cb, .slice D b.length cd, .int .i64 t, .int .i64 f, .slice (some ⟨w8.heap.size, 0, none⟩) 2 2]) (by simp [results, Try.results26, go_sem]) rfl ⟨a, b, [⟨r5, r6⟩, ⟨r7 - r8 / 8, 2⟩], B, D, _, cb, cd, 2, t, f, rfl, ⟨hla, hlb, by simp⟩, RowAt.below (RowAt.of_own HA8.out encQu_len (by decide)) ho, RowAt.below (RowAt.of_own HB8.out encQu_len (by decide)) ho, RowAt.of_block encP2_len (heap_new1 w8 _) rfl, below_new (only_alloc HG8.out _)⟩
end Go.Proofs.Ytlinjkfbcekepaa
