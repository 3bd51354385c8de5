/-
  The draws of module motions: what the laws ask for.
-/
import Derived.Test.YtefofllkeghfnaaMoDr2
namespace Go.Proofs.Ytefofllkeghfnaa
open Go.RowKit
attribute [local go_sem] ext_cell ext_frozen

theorem heap_was2 (w : World) (a o : Obj) : ((w.alloc a).alloc o).heap[w.heap.size]? = some a := (Below.heap_alloc _ _ _ (by simp)).trans (heap_new1 w a)
def MoRow (base : Nat) (w : World) (l : List Mo) (B : Option Addr) (cb : Nat) : Prop := l.length ≤ 13 ∧ w.ownsRow base 33 4 (.slice B l.length cb) l.length (l.flatMap encMo)

set_option maxRecDepth 100000 in
set_option maxHeartbeats 4000000 in
theorem drawAreMo_any (A : Option Addr) (n c : Nat) (w : World) (h : CodeAt w A n) (hn : n ≤ 65536) :
    Calls Try.prog 71 #[.slice A n c] w fun e w' => ∃ (l : List Mo) (B : Option Addr) (cb : Nat), e = .returned (.slice B l.length cb) ∧ MoRow w.heap.size w' l B cb ∧ Below w.heap.size w w' := by
  have HD := Lib.hid (dr_new (c := c) (E := 77) h)
  clear h
  go_enter Try.func71, Try.ntmps71
  go_wp2_with (go_at_call 72; (with_reducible refine (motions_any _ HD.out (by omega) (by omega)).mono ?_); rintro e w1 ⟨l, B, cb, rfl, hl, ho1, hd1, hg1⟩)
  have hp : w.heap.size < (w.alloc (.cells #[.slice A n c, .int .i64 0, .int .u64 0] 77)).heap.size := by simp
  go_ret
  exact ⟨l, B, cb, rfl, ⟨hl, own_base ho1 (by simp)⟩, below_new hg1⟩

set_option maxHeartbeats 1000000 in
theorem drawTurn_any (A : Option Addr) (n c : Nat) (w : World) (h : CodeAt w A n) (hn : n ≤ 65536) :
    Calls Try.prog 50 #[.slice A n c] w fun e w' => ∃ (l : List Mo) (B : Option Addr) (cb : Nat), e = .returned (.slice B l.length cb) ∧ MoRow w.heap.size w' l B cb ∧ Below w.heap.size w w' := by
  have HH := Lib.hid h
  clear h
  go_enter Try.func50, Try.ntmps50
  go_wp2_with (go_at_call 71; (with_reducible refine (drawAreMo_any A n c _ HH.out hn).mono ?_); rintro e w1 ⟨l, B, cb, rfl, ho1, hb1⟩)
  go_ret
  exact ⟨l, B, cb, rfl, ho1, hb1⟩
set_option maxHeartbeats 1000000 in
theorem drawFlip_any (A : Option Addr) (n c : Nat) (w : World) (h : CodeAt w A n) (hn : n ≤ 65536) :
    Calls Try.prog 52 #[.slice A n c] w fun e w' => ∃ (l : List Mo) (B : Option Addr) (cb : Nat), e = .returned (.slice B l.length cb) ∧ MoRow w.heap.size w' l B cb ∧ Below w.heap.size w w' := by
  have HH := Lib.hid h
  clear h
  go_enter Try.func52, Try.ntmps52
  go_wp2_with (go_at_call 71; (with_reducible refine (drawAreMo_any A n c _ HH.out hn).mono ?_); rintro e w1 ⟨l, B, cb, rfl, ho1, hb1⟩)
  go_ret
  exact ⟨l, B, cb, rfl, ho1, hb1⟩
set_option maxHeartbeats 1000000 in
theorem drawBest_any (A : Option Addr) (n c : Nat) (w : World) (h : CodeAt w A n) (hn : n ≤ 65536) :
    Calls Try.prog 42 #[.slice A n c] w fun e w' => ∃ (l : List Mo) (B : Option Addr) (cb : Nat), e = .returned (.slice B l.length cb) ∧ MoRow w.heap.size w' l B cb ∧ Below w.heap.size w w' := by
  have HH := Lib.hid h
  clear h
  go_enter Try.func42, Try.ntmps42
  go_wp2_with (go_at_call 71; (with_reducible refine (drawAreMo_any A n c _ HH.out hn).mono ?_); rintro e w1 ⟨l, B, cb, rfl, ho1, hb1⟩)
  go_ret
  exact ⟨l, B, cb, rfl, ho1, hb1⟩

set_option maxRecDepth 100000 in
set_option maxHeartbeats 4000000 in
theorem drawQuad_any (A : Option Addr) (n c : Nat) (w : World) (h : CodeAt w A n) (hn : n ≤ 65536) :
    Calls Try.prog 49 #[.slice A n c] w fun e w' => ∃ (m : Mo) (k : Int), e = .returned (.tuple #[.agg #[.int .i64 m.st, .int .i64 m.x, .int .i64 m.y, .int .i64 m.sg], .int .i64 k]) ∧ Below w.heap.size w w' := by
  have hD := dr_new (c := c) (E := 77) (h.grown (only_of_below (balloc (bref w) (.cells #[.int .i64 0, .int .i64 0, .int .i64 0, .int .i64 0] 33)) none) (fun _ _ _ e => by cases e))
  simp only [World.size_alloc] at hD
  have HD := Lib.hid hD
  clear h hD
  go_enter Try.func49, Try.ntmps49
  go_wp2_with first | (go_at_call 75; (with_reducible refine (motion_any _ _ HD.out (by omega) (by omega)).mono ?_); rintro e w1 ⟨m, rfl, hd1, hg1⟩; have HD1 := Lib.hid hd1; clear hd1; have HZ1 := Lib.hid (blk_kept (heap_was2 _ _ _) hg1 (by simp))) | (go_at_call 74; first | ((with_reducible refine (pick_dr 17 _ HD1.out (by omega) (by omega) (by decide)).mono ?_); rintro e w2 ⟨r2, rfl, hr2, hd2, hg2⟩; have HD2 := Lib.hid hd2; clear hd2; have HZ2 := Lib.hid (blk_kept HZ1.out hg2 (by simp))) | ((with_reducible refine (pick_dr 9 _ HD2.out (by omega) (by omega) (by decide)).mono ?_); rintro e w3 ⟨r3, rfl, hr3, hd3, hg3⟩; have HZ3 := Lib.hid (blk_kept HZ2.out hg3 (by simp)); obtain ⟨z0, z1, z2, z3, y0, y1, y2, y3⟩ := cells4 HZ3.out))
  obtain ⟨s0, s1, s2, s3⟩ := set4 (.int .i64 m.st) (.int .i64 m.x) (.int .i64 m.y) (.int .i64 m.sg) z0 z1 z2 z3
  have hB0 : Below w.heap.size w w3 := bgrown (balloc (balloc (bref w) _) _) (only_two (only_two hg1 hg2) hg3) (fun k hk => by cases hk; omega)
  have HB := Lib.hid (bset (bset (bset (bset hB0 (p := ⟨w.heap.size, 0, none⟩) (Nat.le_refl _) (.int .i64 m.st)) (p := ⟨w.heap.size, 1, none⟩) (Nat.le_refl _) (.int .i64 m.x)) (p := ⟨w.heap.size, 2, none⟩) (Nat.le_refl _) (.int .i64 m.y)) (p := ⟨w.heap.size, 3, none⟩) (Nat.le_refl _) (.int .i64 m.sg))
  generalize (((w3.setCell ⟨w.heap.size, 0, none⟩ (.int .i64 m.st)).setCell ⟨w.heap.size, 1, none⟩ (.int .i64 m.x)).setCell ⟨w.heap.size, 2, none⟩ (.int .i64 m.y)).setCell ⟨w.heap.size, 3, none⟩ (.int .i64 m.sg) = W at s0 s1 s2 s3 HB ⊢
  refine bodyPost_ret (v := .tuple #[.agg #[.int .i64 m.st, .int .i64 m.x, .int .i64 m.y, .int .i64 m.sg], _]) (by simp [results, Try.results49, go_sem, s0, s1, s2, s3]; rfl) rfl ⟨m, _, rfl, HB.out⟩

set_option maxRecDepth 100000 in
set_option maxHeartbeats 4000000 in
theorem drawExpl_any (A : Option Addr) (n c : Nat) (w : World) (h : CodeAt w A n) (hn : n ≤ 65536) :
    Calls Try.prog 47 #[.slice A n c] w fun e w' => ∃ (l : List Mo) (B : Option Addr) (cb : Nat) (p q : Int), e = .returned (.tuple #[.slice B l.length cb, .int .i64 p, .int .i64 q]) ∧ MoRow w.heap.size w' l B cb ∧ Below w.heap.size w w' := by
  have HD := Lib.hid (dr_new (c := c) (E := 77) h)
  clear h
  go_enter Try.func47, Try.ntmps47
  go_wp2_with first | (go_at_call 72; (with_reducible refine (motions_any _ HD.out (by omega) (by omega)).mono ?_); rintro e w1 ⟨l, B, cb, rfl, hl, ho1, hd1, hg1⟩; have HD1 := Lib.hid hd1; clear hd1) | (go_at_call 74; first | ((with_reducible refine (pick_dr 17 _ HD1.out (by omega) (by omega) (by decide)).mono ?_); rintro e w2 ⟨r2, rfl, hr2, hd2, hg2⟩; have HD2 := Lib.hid hd2; clear hd2) | ((with_reducible refine (pick_dr 17 _ HD2.out (by omega) (by omega) (by decide)).mono ?_); rintro e w3 ⟨r3, rfl, hr3, hd3, hg3⟩; have HD3 := Lib.hid hd3; clear hd3; have hlt3 := HD3.out.lt)) | (go_at_call 73; (with_reducible refine (among_dr [1, 1, -1, -1, 0, 2] 6 _ _ _ (HD3.out.alloc _) (by omega) (by omega) ?_ ?_ ?_ (by decide) (by decide)).mono ?_); exact RowAt.of_block encI_len (heap_new1 _ _) rfl; omega; rfl; rintro e w4 ⟨v4, rfl, hv4, hd4, hg4⟩)
  have hp : w.heap.size < (w.alloc (.cells #[.slice A n c, .int .i64 0, .int .u64 0] 77)).heap.size := by simp
  have hg := only_two (only_two (only_alloc (World.grownBy.refl _ _) _) hg4) (World.grownBy.refl _ (some w.heap.size))
  have hgA := only_two (only_two hg2 hg3) hg
  go_ret3
  exact ⟨l, B, cb, _, _, rfl, ⟨hl, own_base (own_dr ho1 hgA hp) (by simp)⟩, below_new (only_two hg1 hgA)⟩

set_option maxHeartbeats 1000000 in
theorem drawNot_any (A : Option Addr) (n c : Nat) (w : World) (h : CodeAt w A n) (hn : n ≤ 65536) :
    Calls Try.prog 48 #[.slice A n c] w fun e w' => ∃ (l : List Mo) (B : Option Addr) (cb : Nat) (p q : Int), e = .returned (.tuple #[.slice B l.length cb, .int .i64 p, .int .i64 q]) ∧ MoRow w.heap.size w' l B cb ∧ Below w.heap.size w w' := by
  have HH := Lib.hid h
  clear h
  go_enter Try.func48, Try.ntmps48
  go_wp2_with (go_at_call 47; (with_reducible refine (drawExpl_any A n c _ HH.out hn).mono ?_); rintro e w1 ⟨l, B, cb, p, q, rfl, ho1, hb1⟩)
  go_ret3
  exact ⟨l, B, cb, _, _, rfl, ho1, hb1⟩

set_option maxRecDepth 100000 in
set_option maxHeartbeats 4000000 in
theorem drawWith_any (A : Option Addr) (n c : Nat) (w : World) (h : CodeAt w A n) (hn : n ≤ 65536) :
    Calls Try.prog 44 #[.slice A n c] w fun e w' => ∃ (l : List Mo) (B : Option Addr) (cb : Nat) (p : Int), e = .returned (.tuple #[.slice B l.length cb, .int .i64 p]) ∧ MoRow w.heap.size w' l B cb ∧ Below w.heap.size w w' := by
  have HD := Lib.hid (dr_new (c := c) (E := 77) h)
  clear h
  go_enter Try.func44, Try.ntmps44
  go_wp2_with first | (go_at_call 72; (with_reducible refine (motions_any _ HD.out (by omega) (by omega)).mono ?_); rintro e w1 ⟨l, B, cb, rfl, hl, ho1, hd1, hg1⟩; have HD1 := Lib.hid hd1; clear hd1; have hlt1 := HD1.out.lt) | (go_at_call 73; (with_reducible refine (among_dr [0, 0, 1, 2, 12, 13, -1] 7 _ _ _ (HD1.out.alloc _) (by omega) (by omega) ?_ ?_ ?_ (by decide) (by decide)).mono ?_); exact RowAt.of_block encI_len (heap_new1 _ _) rfl; omega; rfl; rintro e w4 ⟨v4, rfl, hv4, hd4, hg4⟩)
  have hp : w.heap.size < (w.alloc (.cells #[.slice A n c, .int .i64 0, .int .u64 0] 77)).heap.size := by simp
  have hgA := only_two (only_alloc (World.grownBy.refl w1 (some w.heap.size)) _) hg4
  go_ret2
  exact ⟨l, B, cb, _, rfl, ⟨hl, own_base (own_dr ho1 hgA hp) (by simp)⟩, below_new (only_two hg1 hgA)⟩
end Go.Proofs.Ytefofllkeghfnaa
