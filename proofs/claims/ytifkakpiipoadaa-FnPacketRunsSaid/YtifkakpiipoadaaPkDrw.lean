/-
  The draws of module packets: what the laws ask for.
-/
import Derived.Test.YtifkakpiipoadaaPkDr4
namespace Go.Proofs.Ytifkakpiipoadaa
set_option linter.unusedVariables false
set_option linter.unusedSimpArgs false
set_option linter.unnecessarySimpa false
open Go.RowKit
attribute [local go_sem] ext_cell ext_frozen

theorem heap_was2 (w : World) (a o : Obj) : ((w.alloc a).alloc o).heap[w.heap.size]? = some a := (Below.heap_alloc _ _ _ (by simp)).trans (heap_new1 w a)
def PkRow (base : Nat) (w : World) (L : List Pk) (B : Option Addr) (cb : Nat) : Prop := L.length ≤ 14 ∧ few9 L ∧ PkRes base w B cb L

set_option maxRecDepth 100000 in
set_option maxHeartbeats 4000000 in
theorem drawArePk_any (A : Option Addr) (n c : Nat) (w : World) (h : CodeAt w A n) (hn : n ≤ 65536) :
    Calls Try.prog 88 #[.slice A n c] w fun e w' => ∃ (L : List Pk) (B : Option Addr) (cb : Nat), e = .returned (.slice B L.length cb) ∧ PkRow w.heap.size w' L B cb ∧ Below w.heap.size w w' := by
  have HD := Lib.hid (dr_new (c := c) (E := 75) h)
  clear h
  go_enter Try.func88, Try.ntmps88
  go_wp2_with (go_at_call 89; (with_reducible refine (packets_any _ HD.out (by omega) (by omega)).mono ?_); rintro e w1 ⟨L, B, cb, rfl, hl, h9, hp1, hd1, hg1⟩)
  go_ret
  exact ⟨L, B, cb, rfl, ⟨hl, h9, hp1.base_ (by simp)⟩, below_new hg1⟩
set_option maxHeartbeats 1000000 in
theorem drawLostNumbers_any (A : Option Addr) (n c : Nat) (w : World) (h : CodeAt w A n) (hn : n ≤ 65536) :
    Calls Try.prog 58 #[.slice A n c] w fun e w' => ∃ (L : List Pk) (B : Option Addr) (cb : Nat), e = .returned (.slice B L.length cb) ∧ PkRow w.heap.size w' L B cb ∧ Below w.heap.size w w' := by
  have HH := Lib.hid h
  clear h
  go_enter Try.func58, Try.ntmps58
  go_wp2_with (go_at_call 88; (with_reducible refine (drawArePk_any A n c _ HH.out hn).mono ?_); rintro e w1 ⟨l, B, cb, rfl, ho1, hb1⟩)
  go_ret
  exact ⟨l, B, cb, rfl, ho1, hb1⟩
set_option maxHeartbeats 1000000 in
theorem drawRunsOf_any (A : Option Addr) (n c : Nat) (w : World) (h : CodeAt w A n) (hn : n ≤ 65536) :
    Calls Try.prog 51 #[.slice A n c] w fun e w' => ∃ (L : List Pk) (B : Option Addr) (cb : Nat), e = .returned (.slice B L.length cb) ∧ PkRow w.heap.size w' L B cb ∧ Below w.heap.size w w' := by
  have HH := Lib.hid h
  clear h
  go_enter Try.func51, Try.ntmps51
  go_wp2_with (go_at_call 88; (with_reducible refine (drawArePk_any A n c _ HH.out hn).mono ?_); rintro e w1 ⟨l, B, cb, rfl, ho1, hb1⟩)
  go_ret
  exact ⟨l, B, cb, rfl, ho1, hb1⟩
set_option maxRecDepth 100000 in
set_option maxHeartbeats 4000000 in
theorem drawAsk_any (A : Option Addr) (n c : Nat) (w : World) (h : CodeAt w A n) (hn : n ≤ 65536) :
    Calls Try.prog 60 #[.slice A n c] w fun e w' => ∃ (L : List Pk) (B : Option Addr) (cb : Nat) (q : Int), e = .returned (.tuple #[.slice B L.length cb, .int .i64 q]) ∧ PkRow w.heap.size w' L B cb ∧ Below w.heap.size w w' := by
  have HD := Lib.hid (dr_new (c := c) (E := 75) h)
  clear h
  have hp : w.heap.size < (w.alloc (.cells #[.slice A n c, .int .i64 0, .int .u64 0] 75)).heap.size := by simp
  go_enter Try.func60, Try.ntmps60
  go_wp2_with first
    | (go_at_call 89; (with_reducible refine (packets_any _ HD.out (by omega) (by omega)).mono ?_); rintro e w1 ⟨L, B, cb, rfl, hl, h9, hp1, hd1, hg1⟩; have hlt1 := hd1.lt)
    | (go_at_call 92; ((with_reducible refine (among_dr [0, 1, 2, 5, 100, 101, -1] 7 _ _ _ (hd1.alloc _) (by omega) (by omega) ?_ ?_ ?_ (by decide) (by decide)).mono ?_); exact RowAt.of_block encI_len (heap_new1 _ _) rfl; omega; rfl; rintro e w2 ⟨v2, rfl, hv2, hd2, hg2⟩))
    | fail
  have hgA := only_two (only_alloc (World.grownBy.refl w1 (some w.heap.size)) _) hg2
  go_ret2
  exact ⟨L, B, cb, _, rfl, ⟨hl, h9, (hp1.draw hgA hp).base_ (by simp)⟩, below_new (only_two hg1 hgA)⟩
set_option maxRecDepth 100000 in
set_option maxHeartbeats 4000000 in
theorem drawSmp_any (A : Option Addr) (n c : Nat) (w : World) (h : CodeAt w A n) (hn : n ≤ 65536) :
    Calls Try.prog 55 #[.slice A n c] w fun e w' => ∃ (L : List Pk) (B : Option Addr) (cb : Nat) (q : Int), e = .returned (.tuple #[.slice B L.length cb, .int .i64 q]) ∧ PkRow w.heap.size w' L B cb ∧ Below w.heap.size w w' := by
  have HD := Lib.hid (dr_new (c := c) (E := 75) h)
  clear h
  have hp : w.heap.size < (w.alloc (.cells #[.slice A n c, .int .i64 0, .int .u64 0] 75)).heap.size := by simp
  go_enter Try.func55, Try.ntmps55
  go_wp2_with fail
  refine (packets_any _ HD.out (by omega) (by omega)).mono ?_; rintro e w1 ⟨L, B, cb, rfl, hl, h9, hp1, hd1, hg1⟩
  have hlt1 := hd1.lt
  have HP1 := Lib.hid hp1
  have HD1 := Lib.hid hd1
  have HG1 := Lib.hid hg1
  clear hp1 hd1 hg1
  by_cases h0 : 0 < L.length
  case' pos =>
    have h0' : (0 : Int) < (L.length : Int) := by omega
    go_wp2_with fail
    refine (one_dr 6 _ HD1.out (by omega) (by omega) (by decide)).mono ?_; rintro e w2 ⟨b2, rfl, hd2, hg2⟩
    have HP2 := Lib.hid (HP1.out.draw hg2 hp)
    have HG2 := Lib.hid (only_two HG1.out hg2)
    have HD2 := Lib.hid hd2
    have hlt2 := hd2.lt
    clear hd2 hg2
    cases b2
    case false =>
      go_wp2_with fail
      go_region_with (first
        | (go_at_call 91; ((with_reducible refine (pick_dr (w0 := w.alloc (.cells #[.slice A n c, .int .i64 0, .int .u64 0] 75)) (A := A) (n := n) (c := c) (L.length : Int) _ (HD2.out.below (by repeat (first | exact bref _ | (refine bdrew ?_) | (refine bdrewN ?_ _)))) (by omega) (by omega) (by omega)).mono ?_)); rintro e w3 ⟨r3, rfl, hr3, hd3, hg3⟩; have hgX := only_two (show w2.grownBy _ (some w.heap.size) by (repeat (first | exact World.grownBy.refl _ _ | (refine only_drew ?_) | (refine only_drewN ?_ _)))) hg3; obtain ⟨i, hi⟩ : ∃ i : Nat, r3 = (i : Int) := ⟨r3.toNat, by omega⟩; subst hi; have hiL : i < L.length := (by omega); have HP3 := Lib.hid (HP2.out.draw hgX hp); obtain ⟨m, hm⟩ := some_get hiL; have i0 := ib0 i; have i1 := ib1 hiL; obtain ⟨b, off, rfl, hb, q0, q1⟩ := RowAt.pkc HP3.out.at_.1 hm)
        | fail)
      all_goals
        go_wp2_with fail
        go_ret2
        exact ⟨L, _, cb, m.no, rfl, ⟨hl, h9, HP3.out.base_ (by simp)⟩, below_new (only_two HG2.out hgX)⟩
    case true =>
      go_wp2_with fail
      refine (among_dr [0, 6, 1000, -1] 4 _ _ _ (HD2.out.alloc _) (by omega) (by omega) ?_ ?_ ?_ (by decide) (by decide)).mono ?_
      · exact RowAt.of_block encI_len (heap_new1 _ _) rfl
      · omega
      · rfl
      rintro e w4 ⟨v4, rfl, hv4, hd4, hg4⟩
      have hgA := only_two (only_alloc (World.grownBy.refl w2 (some w.heap.size)) _) hg4
      go_wp2_with fail
      go_ret2
      exact ⟨L, B, cb, v4, rfl, ⟨hl, h9, (HP2.out.draw hgA hp).base_ (by simp)⟩, below_new (only_two HG2.out hgA)⟩
  case neg =>
    go_wp2_with fail
    refine (among_dr [0, 6, 1000, -1] 4 _ _ _ (HD1.out.alloc _) (by omega) (by omega) ?_ ?_ ?_ (by decide) (by decide)).mono ?_
    · exact RowAt.of_block encI_len (heap_new1 _ _) rfl
    · omega
    · rfl
    rintro e w4 ⟨v4, rfl, hv4, hd4, hg4⟩
    have hgA := only_two (only_alloc (World.grownBy.refl w1 (some w.heap.size)) _) hg4
    go_wp2_with fail
    go_ret2
    exact ⟨L, B, cb, v4, rfl, ⟨hl, h9, (HP1.out.draw hgA hp).base_ (by simp)⟩, below_new (only_two HG1.out hgA)⟩

theorem set2 {w : World} {g : Nat} {a b : Value} (a' b' : Value) (h0 : w.cell? ⟨g, 0, none⟩ = some a) (h1 : w.cell? ⟨g, 1, none⟩ = some b) :
    ((w.setCell ⟨g, 0, none⟩ a').setCell ⟨g, 1, none⟩ b').cell? ⟨g, 0, none⟩ = some a' ∧ ((w.setCell ⟨g, 0, none⟩ a').setCell ⟨g, 1, none⟩ b').cell? ⟨g, 1, none⟩ = some b' := by
  refine ⟨?_, ?_⟩
  · rw [World.cell?_setCell_other, World.cell?_setCell_same _ _ _ h0]; simp
  · rw [World.cell?_setCell_same _ _ _ (show (w.setCell ⟨g, 0, none⟩ a').cell? ⟨g, 1, none⟩ = some b by rw [World.cell?_setCell_other, h1]; simp)]
set_option maxRecDepth 100000 in
set_option maxHeartbeats 4000000 in
theorem drawAft_any (A : Option Addr) (n c : Nat) (w : World) (h : CodeAt w A n) (hn : n ≤ 65536) :
    Calls Try.prog 56 #[.slice A n c] w fun e w' => ∃ (L : List Pk) (B : Option Addr) (cb : Nat) (no : Int) (sm : List Int) (g cs : Nat), e = .returned (.tuple #[.slice B L.length cb, .agg #[.int .i64 no, .slice (some ⟨g, 0, none⟩) sm.length cs]]) ∧ PkRow w.heap.size w' L B cb ∧ sm.length ≤ 9 ∧ RowAt 1 encI w' (some ⟨g, 0, none⟩) sm ∧ Below w.heap.size w w' := by
  have hD := dr_new (c := c) (E := 75) (h.grown (only_of_below (balloc (bref w) (.cells #[.int .i64 0, .slice none 0 0] 40)) none) (fun _ _ _ e => by cases e))
  have hp : w.heap.size + 1 < ((w.alloc (.cells #[.int .i64 0, .slice none 0 0] 40)).alloc (.cells #[.slice A n c, .int .i64 0, .int .u64 0] 75)).heap.size := by simp
  simp only [World.size_alloc] at hD
  have HD := Lib.hid hD
  clear h hD
  go_enter Try.func56, Try.ntmps56
  go_wp2_with first
    | (go_at_call 89; (with_reducible refine (packets_any _ HD.out (by omega) (by omega)).mono ?_); rintro e w1 ⟨L, B, cb, rfl, hl, h9, hp1, hd1, hg1⟩; have HP1 := Lib.hid hp1; have HD1 := Lib.hid hd1; have hs1 := hg1.size; have HZ1 := Lib.hid (blk_kept (heap_was2 _ _ _) hg1 (by simp)); clear hp1 hd1)
    | (go_at_call 93; (with_reducible refine (packet_any _ HD1.out (by omega) (by omega)).mono ?_); rintro e w2 ⟨no, sm, g, cs, rfl, hsm, ho2, hd2, hg2⟩; have HZ2 := Lib.hid (blk_kept HZ1.out hg2 (by simp)); obtain ⟨_, ⟨z0, z1⟩, y0, y1⟩ := box2_of HZ2.out)
    | fail
  obtain ⟨s0, s1⟩ := set2 (.int .i64 no) (.slice (some ⟨g, 0, none⟩) sm.length cs) z0 z1
  have hB0 : Below w.heap.size w w2 := bgrown (balloc (balloc (bref w) _) _) (only_two hg1 hg2) (fun k hk => by cases hk; omega)
  have hP2 := HP1.out.draw hg2 (by omega)
  have hst : w2.grownBy ((w2.setCell ⟨w.heap.size, 0, none⟩ (.int .i64 no)).setCell ⟨w.heap.size, 1, none⟩ (.slice (some ⟨g, 0, none⟩) sm.length cs)) (some w.heap.size) := only_setCell (p := ⟨w.heap.size, 1, none⟩) (only_setCell (p := ⟨w.heap.size, 0, none⟩) (World.grownBy.refl w2 (some w.heap.size)) (.inl rfl) _) (.inl rfl) _
  have hP3 := hP2.draw hst (by omega)
  have hgl := (ho2.lt g rfl).1
  have hO3 := World.ownsRow.kept ho2 hst (.inr (by simp [Value.ownBlock]; omega))
  have HB := Lib.hid (bset (bset hB0 (p := ⟨w.heap.size, 0, none⟩) (Nat.le_refl _) (.int .i64 no)) (p := ⟨w.heap.size, 1, none⟩) (Nat.le_refl _) (.slice (some ⟨g, 0, none⟩) sm.length cs))
  generalize (w2.setCell ⟨w.heap.size, 0, none⟩ (.int .i64 no)).setCell ⟨w.heap.size, 1, none⟩ (.slice (some ⟨g, 0, none⟩) sm.length cs) = W at s0 s1 HB hP3 hO3 ⊢
  refine bodyPost_ret (v := .tuple #[.slice B L.length cb, .agg #[.int .i64 no, .slice (some ⟨g, 0, none⟩) sm.length cs]]) (by simp [results, Try.results56, go_sem, s0, s1]) rfl ⟨L, B, cb, no, sm, g, cs, rfl, ⟨hl, h9, hP3.base_ (by simp; omega)⟩, hsm, RowAt.of_own hO3 encI_len (by decide), HB.out⟩
end Go.Proofs.Ytifkakpiipoadaa
