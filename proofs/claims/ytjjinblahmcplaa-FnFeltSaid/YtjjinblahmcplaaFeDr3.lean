/-
  The draws of module felt reports, second part: a size of cells, the arguments of CellsOf, FeltRadius and LevelOf.
-/
import Derived.Test.YtjjinblahmcplaaFeDrw
import Derived.Deep.CutBlock
import Derived.Deep.CutRange
namespace Go.Proofs.Ytjjinblahmcplaa
open Go.RowKit
attribute [local go_sem] ext_cell ext_frozen

set_option maxRecDepth 100000 in
set_option maxHeartbeats 4000000 in
theorem size14_any {w0 : World} {p : Nat} {A : Option Addr} {n c K : Nat} (w : World) (h : Dr w0 w p A n c K) (hk : K ≤ 800000) (hn : n ≤ 9223372036854775807) :
    Calls Try.prog 101 #[.pointer (some ⟨p, 0, none⟩)] w fun e w' => ∃ x : Int, e = .returned (.int .i64 x) ∧ (0 ≤ x ∧ x ≤ 501) ∧ Dr w0 w' p A n c (K + 4) ∧ w.grownBy w' (some p) := by
  have hlt := h.lt
  have HD := Lib.hid h
  have HOW := Lib.hid (fun (w : World) => own_made (E := 3) (K := 1) (n := 7) (cur := #[.int .i64 1, .int .i64 5, .int .i64 11, .int .i64 50, .int .i64 500, .int .i64 0, .int .i64 501]) (w := w) rfl (by decide))
  clear h
  go_enter Try.func101, Try.ntmps101
  go_wp2_with fail
  refine (pick_dr 24 _ (HD.out.alloc _) (by omega) hn (by decide)).mono ?_; rintro e w1 ⟨r1, rfl, hr1, hd1, hg1⟩
  have HR1 := Lib.hid (RowAt.of_own (l := [1, 5, 11, 50, 500, 0, 501]) (own_dr (HOW.out w) hg1 hlt) encI_len (by decide))
  have hq : r1 / 11 = 0 ∨ r1 / 11 = 1 ∨ r1 / 11 = 2 := by omega
  have hG := Lib.hid (only_two (only_alloc (World.grownBy.refl w (some p)) _) hg1)
  have HD1 := Lib.hid hd1
  clear hd1 hg1 hr1
  rcases hq with hq | hq | hq
  · go_wp2_with fail
    refine (among_dr [1, 5, 11, 50, 500] 5 _ _ _ HD1.out (by omega) hn (row_front 5 HR1.out) (by omega) rfl (by decide) (by decide)).mono ?_; rintro e w2 ⟨v2, rfl, hv2, hd2, hg2⟩
    have hbv : 0 ≤ v2 ∧ v2 ≤ 501 := by
      simp only [List.mem_cons, List.not_mem_nil, or_false] at hv2
      omega
    go_wp2_with fail
    go_ret
    exact ⟨v2, rfl, hbv, hd2, only_two hG.out hg2⟩
  · go_wp2_with fail
    refine (among_dr [1, 5, 11, 50, 500, 0] 6 _ _ _ HD1.out (by omega) hn (row_front 6 HR1.out) (by omega) rfl (by decide) (by decide)).mono ?_; rintro e w2 ⟨v2, rfl, hv2, hd2, hg2⟩
    have hbv : 0 ≤ v2 ∧ v2 ≤ 501 := by
      simp only [List.mem_cons, List.not_mem_nil, or_false] at hv2
      omega
    go_wp2_with fail
    go_ret
    exact ⟨v2, rfl, hbv, hd2, only_two hG.out hg2⟩
  · go_wp2_with fail
    refine (among_dr [1, 5, 11, 50, 500, 0, 501] 7 _ _ _ HD1.out (by omega) hn (row_front 7 HR1.out) (by omega) rfl (by decide) (by decide)).mono ?_; rintro e w2 ⟨v2, rfl, hv2, hd2, hg2⟩
    have hbv : 0 ≤ v2 ∧ v2 ≤ 501 := by
      simp only [List.mem_cons, List.not_mem_nil, or_false] at hv2
      omega
    go_wp2_with fail
    go_ret
    exact ⟨v2, rfl, hbv, hd2, only_two hG.out hg2⟩
set_option maxRecDepth 100000 in
set_option maxHeartbeats 4000000 in
theorem drawCel_any (A : Option Addr) (n c : Nat) (w : World) (h : CodeAt w A n) (hn : n ≤ 65536) :
    Calls Try.prog 55 #[.slice A n c] w fun e w' => ∃ (l : List Fe) (B : Option Addr) (cb : Nat) (s : Int), e = .returned (.tuple #[.slice B l.length cb, .int .i64 s]) ∧ FeRow w.heap.size w' l B cb ∧ Below w.heap.size w w' := by
  have HD := Lib.hid (dr_new (c := c) (E := 101) h)
  clear h
  have hp : w.heap.size < (w.alloc (.cells #[.slice A n c, .int .i64 0, .int .u64 0] 101)).heap.size := by simp
  go_enter Try.func55, Try.ntmps55
  go_wp2_with fail
  refine (felts_any _ HD.out (by omega) (by omega)).mono ?_; rintro e w1 ⟨l, B, cb, rfl, hl, ho1, hd1, hg1⟩
  have HO1 := Lib.hid ho1
  have HD1 := Lib.hid hd1
  have HG1 := Lib.hid hg1
  have hlt1 := hd1.lt
  clear ho1 hd1 hg1
  go_wp2_with fail
  refine (size14_any _ HD1.out (by omega) (by omega)).mono ?_; rintro e w2 ⟨s, rfl, hs, hd2, hg2⟩
  have HO2 := Lib.hid (own_dr HO1.out hg2 hp)
  have HG2 := Lib.hid (only_two HG1.out hg2)
  clear hd2 hg2
  go_wp2_with fail
  go_ret2
  exact ⟨l, B, cb, s, rfl, ⟨hl, own_base HO2.out (by simp)⟩, below_new HG2.out⟩
set_option maxRecDepth 100000 in
set_option maxHeartbeats 4000000 in
theorem drawRad_any (A : Option Addr) (n c : Nat) (w : World) (h : CodeAt w A n) (hn : n ≤ 65536) :
    Calls Try.prog 57 #[.slice A n c] w fun e w' => ∃ (l : List Fe) (B : Option Addr) (cb : Nat) (x y : Int), e = .returned (.tuple #[.slice B l.length cb, .int .i64 x, .int .i64 y]) ∧ FeRow w.heap.size w' l B cb ∧ Below w.heap.size w w' := by
  have HD := Lib.hid (dr_new (c := c) (E := 101) h)
  clear h
  have hp : w.heap.size < (w.alloc (.cells #[.slice A n c, .int .i64 0, .int .u64 0] 101)).heap.size := by simp
  go_enter Try.func57, Try.ntmps57
  go_wp2_with fail
  refine (felts_any _ HD.out (by omega) (by omega)).mono ?_; rintro e w1 ⟨l, B, cb, rfl, hl, ho1, hd1, hg1⟩
  have HO1 := Lib.hid ho1
  have HD1 := Lib.hid hd1
  have HG1 := Lib.hid hg1
  have hlt1 := hd1.lt
  clear ho1 hd1 hg1
  go_wp2_with fail
  refine (place_any _ HD1.out (by omega) (by omega)).mono ?_; rintro e w2 ⟨x, y, rfl, hd2, hg2⟩
  have HO2 := Lib.hid (own_dr HO1.out hg2 hp)
  have HG2 := Lib.hid (only_two HG1.out hg2)
  clear hd2 hg2
  go_wp2_with fail
  exact bodyPost_ret (v := .tuple #[.slice B l.length cb, .int .i64 x, .int .i64 y]) (by simp [results, Try.results57, go_sem]) rfl ⟨l, B, cb, x, y, rfl, ⟨hl, own_base HO2.out (by simp)⟩, below_new HG2.out⟩
set_option maxRecDepth 100000 in
set_option maxHeartbeats 4000000 in
theorem drawLev_any (A : Option Addr) (n c : Nat) (w : World) (h : CodeAt w A n) (hn : n ≤ 65536) :
    Calls Try.prog 60 #[.slice A n c] w fun e w' => ∃ (l : List Fe) (B : Option Addr) (cb : Nat) (s a b : Int), e = .returned (.tuple #[.slice B l.length cb, .int .i64 s, .int .i64 a, .int .i64 b]) ∧ FeRow w.heap.size w' l B cb ∧ Below w.heap.size w w' := by
  have HD := Lib.hid (dr_new (c := c) (E := 101) h)
  clear h
  have hp : w.heap.size < (w.alloc (.cells #[.slice A n c, .int .i64 0, .int .u64 0] 101)).heap.size := by simp
  go_enter Try.func60, Try.ntmps60
  go_wp2_with fail
  refine (felts_any _ HD.out (by omega) (by omega)).mono ?_; rintro e w1 ⟨l, B, cb, rfl, hl, ho1, hd1, hg1⟩
  have HO1 := Lib.hid ho1
  have HD1 := Lib.hid hd1
  have HG1 := Lib.hid hg1
  have hlt1 := hd1.lt
  clear ho1 hd1 hg1
  go_wp2_with fail
  refine (size14_any _ HD1.out (by omega) (by omega)).mono ?_; rintro e w2 ⟨s, rfl, hs, hd2, hg2⟩
  have HO2 := Lib.hid (own_dr HO1.out hg2 hp)
  have HG2 := Lib.hid (only_two HG1.out hg2)
  have HD2 := Lib.hid hd2
  clear hd2 hg2 HO1 HG1 HD1
  by_cases h1 : 0 < l.length
  case' pos =>
    have h1i : (0 : Int) < (l.length : Int) := by omega
    by_cases h2 : 0 < s
    case' pos =>
      go_wp2_with fail
      refine (one_dr 5 _ HD2.out (by omega) (by omega) (by decide)).mono ?_; rintro e w3 ⟨b1, rfl, hd3, hg3⟩
      have HO3 := Lib.hid (own_dr HO2.out hg3 hp)
      have HG3 := Lib.hid (only_two HG2.out hg3)
      have HD3 := Lib.hid hd3
      clear hd3 hg3
      cases b1
      case' false =>
        go_wp2_with fail
        refine (pick_dr (l.length : Int) _ HD3.out (by omega) (by omega) (by omega)).mono ?_; rintro e w4 ⟨r4, rfl, hr4, hd4, hg4⟩
        obtain ⟨k, rfl⟩ : ∃ k : Nat, r4 = (k : Int) := ⟨r4.toNat, by omega⟩
        have hk : k < l.length := by omega
        obtain ⟨m, hm⟩ := some_get hk
        have i0 := ib0 k
        have i1 := ib1 hk
        have HO4 := Lib.hid (own_dr HO3.out hg4 hp)
        have HG4 := Lib.hid (only_two HG3.out hg4)
        obtain ⟨bb, ob, eA, hbb, q0, q1, q2, q3, q4⟩ := (RowAt.of_own HO4.out encFe_len (by decide)).fe hm
        have hs4 := HG4.out.size
        subst eA
        clear hm hd4 hg4 hr4 HO3 HG3 HD3 HO2 HG2 HD2
        go_upto_region 6 with fail
        have hx := balloc (bref w4) (.cells #[.int .i64 m.id, .int .i64 m.x, .int .i64 m.y, .int .i64 m.lv, .int .i64 m.pp] 25)
        have x1 : (w4.alloc (.cells #[.int .i64 m.id, .int .i64 m.x, .int .i64 m.y, .int .i64 m.lv, .int .i64 m.pp] 25)).cell? ⟨w4.heap.size, 1, none⟩ = some (.int .i64 m.x) := by simp [go_sem]
        have x2 : (w4.alloc (.cells #[.int .i64 m.id, .int .i64 m.x, .int .i64 m.y, .int .i64 m.lv, .int .i64 m.pp] 25)).cell? ⟨w4.heap.size, 2, none⟩ = some (.int .i64 m.y) := by simp [go_sem]
        have hz : w4.heap.size < (w4.alloc (.cells #[.int .i64 m.id, .int .i64 m.x, .int .i64 m.y, .int .i64 m.lv, .int .i64 m.pp] 25)).heap.size := by simp
        generalize w4.alloc (.cells #[.int .i64 m.id, .int .i64 m.x, .int .i64 m.y, .int .i64 m.lv, .int .i64 m.pp] 25) = w5 at hx x1 x2 hz ⊢
        have hs0 : ¬ s = 0 := by omega
        clear q0 q1 q2 q3 q4
        (refine wp_region_calm (by kernel_rfl) (by kernel_rfl) ?_; (repeat (go_big_quiet_step ((fail)))); refine wpQuiet_nil ?_; intro xw; have hb6 := xw.is; generalize xw.w = w6 at hb6 ⊢; clear xw)
        go_wp2_with fail
        exact bodyPost_ret (v := .tuple #[.slice (some ⟨bb, ob, none⟩) l.length cb, .int .i64 s, .int .i64 (wrap64 (m.x.tdiv s)), .int .i64 (wrap64 (m.y.tdiv s))]) (by simp [results, Try.results60, go_sem]) rfl ⟨l, some ⟨bb, ob, none⟩, cb, s, _, _, rfl, ⟨hl, own_below (own_below (own_base HO4.out (by simp)) hx) hb6⟩, bstep (bstep (below_new HG4.out) hx) hb6⟩
  all_goals (try (have h1n : ¬ (0 : Int) < (l.length : Int) := by omega))
  all_goals
    go_wp2_with fail
    refine (pick_dr 4 _ (by first | exact HD3.out | exact HD2.out) (by omega) (by omega) (by decide)).mono ?_; rintro e w7 ⟨r7, rfl, hr7, hd7, hg7⟩
    have HO7 := Lib.hid (own_dr (by first | exact HO3.out | exact HO2.out) hg7 hp)
    have HG7 := Lib.hid (only_two (by first | exact HG3.out | exact HG2.out) hg7)
    go_wp2_with fail
    refine (pick_dr 4 _ hd7 (by omega) (by omega) (by decide)).mono ?_; rintro e w8 ⟨r8, rfl, hr8, hd8, hg8⟩
    have HO8 := Lib.hid (own_dr HO7.out hg8 hp)
    have HG8 := Lib.hid (only_two HG7.out hg8)
    clear hd7 hg7 hd8 hg8
    go_wp2_with fail
    exact bodyPost_ret (v := .tuple #[.slice B l.length cb, .int .i64 s, .int .i64 (r7 - 1), .int .i64 r8]) (by simp [results, Try.results60, go_sem]) rfl ⟨l, B, cb, s, _, _, rfl, ⟨hl, own_base HO8.out (by simp)⟩, below_new HG8.out⟩
end Go.Proofs.Ytjjinblahmcplaa
