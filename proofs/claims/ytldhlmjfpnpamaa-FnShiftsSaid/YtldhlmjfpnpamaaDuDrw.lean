/-
  The draws of module duties: what the laws ask for.
-/
import Derived.Test.YtldhlmjfpnpamaaDuDr2
import Derived.Test.YtldhlmjfpnpamaaByte
namespace Go.Proofs.Ytldhlmjfpnpamaa
open Go.RowKit
attribute [local go_sem] ext_cell ext_frozen

def DuRw (base : Nat) (w : World) (l : List Du) (B : Option Addr) (cb : Nat) : Prop := l.length ≤ 13 ∧ w.ownsRow base 25 4 (.slice B l.length cb) l.length (l.flatMap encDu)
theorem DuRw.at_ {base : Nat} {w : World} {l : List Du} {B : Option Addr} {cb : Nat} (h : DuRw base w l B cb) : RowAt 4 encDu w B l := RowAt.of_own h.2 encDu_len (by decide)
set_option maxRecDepth 100000 in
set_option maxHeartbeats 4000000 in
theorem drawAreDu_any (A : Option Addr) (n c : Nat) (w : World) (h : CodeAt w A n) (hn : n ≤ 65536) :
    Calls Try.prog 82 #[.slice A n c] w fun e w' => ∃ (l : List Du) (B : Option Addr) (cb : Nat), e = .returned (.slice B l.length cb) ∧ DuRw w.heap.size w' l B cb ∧ Below w.heap.size w w' := by
  have HD := Lib.hid (dr_new (c := c) (E := 83) h)
  clear h
  have hp : w.heap.size < (w.alloc (.cells #[.slice A n c, .int .i64 0, .int .u64 0] 83)).heap.size := by simp
  go_enter Try.func82, Try.ntmps82
  go_wp2_with fail
  refine (duties_any _ HD.out (by omega) (by omega)).mono ?_; rintro e w1 ⟨l, B, cb, rfl, hl, ho1, hd1, hg1⟩
  have HO1 := Lib.hid ho1
  have HD1 := Lib.hid hd1
  have HG1 := Lib.hid hg1
  have hlt1 := hd1.lt
  clear ho1 hd1 hg1
  go_wp2_with fail
  go_ret
  exact ⟨l, B, cb, rfl, ⟨hl, own_base HO1.out (by simp)⟩, below_new HG1.out⟩
set_option maxHeartbeats 1000000 in
theorem drawFair_any (A : Option Addr) (n c : Nat) (w : World) (h : CodeAt w A n) (hn : n ≤ 65536) :
    Calls Try.prog 49 #[.slice A n c] w fun e w' => ∃ (l : List Du) (B : Option Addr) (cb : Nat), e = .returned (.slice B l.length cb) ∧ DuRw w.heap.size w' l B cb ∧ Below w.heap.size w w' := by
  have HH := Lib.hid h
  clear h
  go_enter Try.func49, Try.ntmps49
  go_wp2_with (go_at_call 82; (with_reducible refine (drawAreDu_any A n c _ HH.out hn).mono ?_); rintro e w1 ⟨l, B, cb, rfl, ho1, hb1⟩)
  go_ret
  exact ⟨l, B, cb, rfl, ho1, hb1⟩
set_option maxRecDepth 100000 in
set_option maxHeartbeats 4000000 in
theorem drawHours_any (A : Option Addr) (n c : Nat) (w : World) (h : CodeAt w A n) (hn : n ≤ 65536) :
    Calls Try.prog 50 #[.slice A n c] w fun e w' => ∃ (l : List Du) (B : Option Addr) (cb : Nat) (t : Int), e = .returned (.tuple #[.slice B l.length cb, .int .i64 t]) ∧ DuRw w.heap.size w' l B cb ∧ Below w.heap.size w w' := by
  have HD := Lib.hid (dr_new (c := c) (E := 83) h)
  clear h
  have hp : w.heap.size < (w.alloc (.cells #[.slice A n c, .int .i64 0, .int .u64 0] 83)).heap.size := by simp
  have HOW := Lib.hid (fun (w : World) => own_made (E := 3) (K := 1) (n := 7) (cur := #[.int .i64 1, .int .i64 2, .int .i64 3, .int .i64 50, .int .i64 9, .int .i64 0, .int .i64 51]) (w := w) rfl (by decide))
  go_enter Try.func50, Try.ntmps50
  go_wp2_with fail
  refine (duties_any _ HD.out (by omega) (by omega)).mono ?_; rintro e w1 ⟨l, B, cb, rfl, hl, ho1, hd1, hg1⟩
  have HO1 := Lib.hid ho1
  have HD1 := Lib.hid hd1
  have HG1 := Lib.hid hg1
  have hlt1 := hd1.lt
  clear ho1 hd1 hg1
  go_wp2_with fail
  refine (pick_dr 24 _ (HD1.out.alloc _) (by omega) (by omega) (by decide)).mono ?_; rintro e v2 ⟨r2, rfl, hr2, hd, hg⟩
  have HR2 := Lib.hid (RowAt.of_own (l := [1, 2, 3, 50, 9, 0, 51]) (own_dr (HOW.out w1) hg hlt1) encI_len (by decide))
  have hq2 : r2 / 11 = 0 ∨ r2 / 11 = 1 ∨ r2 / 11 = 2 := by omega
  have HO2a := Lib.hid (own_dr (HO1.out.alloc _) hg hp)
  have HG2a := Lib.hid (only_two HG1.out (only_two (only_alloc (World.grownBy.refl w1 (some w.heap.size)) _) hg))
  have HD2a := Lib.hid hd
  clear hd hg hr2
  rcases hq2 with hq2 | hq2 | hq2
  · go_wp2_with fail
    refine (among_dr [1, 2, 3, 50, 9] 5 _ _ _ HD2a.out (by omega) (by omega) (row_front 5 HR2.out) (by omega) rfl (by decide) (by decide)).mono ?_; rintro e w2 ⟨x2, rfl, hx2, hd, hg⟩
    have HO2 := Lib.hid (own_dr HO2a.out hg hp)
    have HG2 := Lib.hid (only_two HG2a.out hg)
    have hlt2 := hd.lt
    have HD2 := Lib.hid hd
    clear hd hg hx2
    go_wp2_with fail
    go_ret2
    exact ⟨l, B, cb, x2, rfl, ⟨hl, own_base HO2.out (by simp)⟩, below_new HG2.out⟩
  · go_wp2_with fail
    refine (among_dr [1, 2, 3, 50, 9, 0] 6 _ _ _ HD2a.out (by omega) (by omega) (row_front 6 HR2.out) (by omega) rfl (by decide) (by decide)).mono ?_; rintro e w2 ⟨x2, rfl, hx2, hd, hg⟩
    have HO2 := Lib.hid (own_dr HO2a.out hg hp)
    have HG2 := Lib.hid (only_two HG2a.out hg)
    have hlt2 := hd.lt
    have HD2 := Lib.hid hd
    clear hd hg hx2
    go_wp2_with fail
    go_ret2
    exact ⟨l, B, cb, x2, rfl, ⟨hl, own_base HO2.out (by simp)⟩, below_new HG2.out⟩
  · go_wp2_with fail
    refine (among_dr [1, 2, 3, 50, 9, 0, 51] 7 _ _ _ HD2a.out (by omega) (by omega) (row_front 7 HR2.out) (by omega) rfl (by decide) (by decide)).mono ?_; rintro e w2 ⟨x2, rfl, hx2, hd, hg⟩
    have HO2 := Lib.hid (own_dr HO2a.out hg hp)
    have HG2 := Lib.hid (only_two HG2a.out hg)
    have hlt2 := hd.lt
    have HD2 := Lib.hid hd
    clear hd hg hx2
    go_wp2_with fail
    go_ret2
    exact ⟨l, B, cb, x2, rfl, ⟨hl, own_base HO2.out (by simp)⟩, below_new HG2.out⟩
set_option maxRecDepth 100000 in
set_option maxHeartbeats 4000000 in
theorem drawOn_any (A : Option Addr) (n c : Nat) (w : World) (h : CodeAt w A n) (hn : n ≤ 65536) :
    Calls Try.prog 84 #[.slice A n c] w fun e w' => ∃ (l : List Du) (B : Option Addr) (cb : Nat) (t : Int), e = .returned (.tuple #[.slice B l.length cb, .int .i64 t]) ∧ DuRw w.heap.size w' l B cb ∧ Below w.heap.size w w' := by
  have HD := Lib.hid (dr_new (c := c) (E := 83) h)
  clear h
  have hp : w.heap.size < (w.alloc (.cells #[.slice A n c, .int .i64 0, .int .u64 0] 83)).heap.size := by simp
  go_enter Try.func84, Try.ntmps84
  go_wp2_with fail
  refine (duties_any _ HD.out (by omega) (by omega)).mono ?_; rintro e w1 ⟨l, B, cb, rfl, hl, ho1, hd1, hg1⟩
  have HO1 := Lib.hid ho1
  have HD1 := Lib.hid hd1
  have HG1 := Lib.hid hg1
  have hlt1 := hd1.lt
  clear ho1 hd1 hg1
  go_wp2_with fail
  refine (hour17_any _ HD1.out (by omega) (by omega)).mono ?_; rintro e w2 ⟨v2, rfl, hd2, hg2⟩
  go_wp2_with fail
  go_ret2
  exact ⟨l, B, cb, v2, rfl, ⟨hl, own_base (own_dr HO1.out hg2 hp) (by simp)⟩, below_new (only_two HG1.out hg2)⟩
set_option maxHeartbeats 1000000 in
theorem drawLead_any (A : Option Addr) (n c : Nat) (w : World) (h : CodeAt w A n) (hn : n ≤ 65536) :
    Calls Try.prog 51 #[.slice A n c] w fun e w' => ∃ (l : List Du) (B : Option Addr) (cb : Nat) (t : Int), e = .returned (.tuple #[.slice B l.length cb, .int .i64 t]) ∧ DuRw w.heap.size w' l B cb ∧ Below w.heap.size w w' := by
  have HH := Lib.hid h
  clear h
  go_enter Try.func51, Try.ntmps51
  go_wp2_with (go_at_call 84; (with_reducible refine (drawOn_any A n c _ HH.out hn).mono ?_); rintro e w1 ⟨l, B, cb, v, rfl, ho1, hb1⟩)
  go_ret2
  exact ⟨l, B, cb, v, rfl, ho1, hb1⟩
set_option maxRecDepth 100000 in
set_option maxHeartbeats 4000000 in
theorem drawSwap_any (A : Option Addr) (n c : Nat) (w : World) (h : CodeAt w A n) (hn : n ≤ 65536) :
    Calls Try.prog 47 #[.slice A n c] w fun e w' => ∃ (l : List Du) (B : Option Addr) (cb : Nat) (a b : Int), e = .returned (.tuple #[.slice B l.length cb, .int .i64 a, .int .i64 b]) ∧ DuRw w.heap.size w' l B cb ∧ Below w.heap.size w w' := by
  have HD := Lib.hid (dr_new (c := c) (E := 83) h)
  clear h
  have hp : w.heap.size < (w.alloc (.cells #[.slice A n c, .int .i64 0, .int .u64 0] 83)).heap.size := by simp
  go_enter Try.func47, Try.ntmps47
  go_wp2_with fail
  refine (duties_any _ HD.out (by omega) (by omega)).mono ?_; rintro e w1 ⟨l, B, cb, rfl, hl, ho1, hd1, hg1⟩
  have HO1 := Lib.hid ho1
  have HD1 := Lib.hid hd1
  have HG1 := Lib.hid hg1
  have hlt1 := hd1.lt
  clear ho1 hd1 hg1
  go_wp2_with fail
  refine (pick_dr ((l.length : Int) + 1) _ HD1.out (by omega) (by omega) (by omega)).mono ?_; rintro e w2 ⟨r2, rfl, hr2, hd2, hg2⟩
  go_wp2_with fail
  refine (pick_dr 20 _ hd2 (by omega) (by omega) (by decide)).mono ?_; rintro e w3 ⟨r3, rfl, hr3, hd3, hg3⟩
  go_wp2_with fail
  refine (pick_dr ((l.length : Int) + 1) _ hd3 (by omega) (by omega) (by omega)).mono ?_; rintro e w4 ⟨r4, rfl, hr4, hd4, hg4⟩
  have hgg := only_two hg2 (only_two hg3 hg4)
  have HO4 := Lib.hid (own_dr HO1.out hgg hp)
  have HG4 := Lib.hid (only_two HG1.out hgg)
  have hr5 : 0 ≤ r2 - r3 / 19 + 1 ∧ r2 - r3 / 19 ≤ 100 := by omega
  go_wp2_with fail
  exact bodyPost_ret (v := .tuple #[.slice B l.length cb, .int .i64 (r2 - r3 / 19), .int .i64 r4]) (by simp [results, Try.results47, go_sem]) rfl ⟨l, B, cb, _, _, rfl, ⟨hl, own_base HO4.out (by simp)⟩, below_new HG4.out⟩
end Go.Proofs.Ytldhlmjfpnpamaa
