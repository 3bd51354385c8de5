/-
  The draws of module quakes: what FnMerging asks for.
-/
import Derived.Test.YtlinjkfbcekepaaQuDrw
import Derived.Test.YtlinjkfbcekepaaBox4
namespace Go.Proofs.Ytlinjkfbcekepaa
set_option linter.unusedVariables false
set_option linter.unusedSimpArgs false
set_option linter.unnecessarySimpa false
open Go.RowKit
attribute [local go_sem] ext_cell ext_frozen

theorem heap_was2 (w : World) (a o : Obj) : ((w.alloc a).alloc o).heap[w.heap.size]? = some a := (Below.heap_alloc _ _ _ (by simp)).trans (heap_new1 w a)
set_option maxRecDepth 100000 in
set_option maxHeartbeats 2000000 in
theorem drawMrg_any (A : Option Addr) (n c : Nat) (w : World) (h : CodeAt w A n) (hn : n ≤ 65536) :
    Calls Try.prog 52 #[.slice A n c] w fun e w' => ∃ (a b : List Qu) (B D : Option Addr) (cb cd : Nat) (t f : Int), e = .returned (.tuple #[.slice B a.length cb, .slice D b.length cd, .int .i64 t, .int .i64 f]) ∧ (a.length ≤ 11 ∧ b.length ≤ 11) ∧ w'.ownsRow w.heap.size 26 4 (.slice B a.length cb) a.length (a.flatMap encQu) ∧ w'.ownsRow w.heap.size 26 4 (.slice D b.length cd) b.length (b.flatMap encQu) ∧ Below w.heap.size w w' := by
  have HH := Lib.hid h
  clear h
  go_enter Try.func52, Try.ntmps52
  go_wp2_with (go_at_call 29; (with_reducible refine (drawMat_any A n c _ HH.out hn).mono ?_); rintro e w1 ⟨a, b, B, D, cb, cd, t, f, rfl, hl, ho1, ho2, hb1⟩)
  exact bodyPost_ret (v := .tuple #[.slice B a.length cb, .slice D b.length cd, .int .i64 t, .int .i64 f]) (by simp [results, Try.results52, go_sem]) rfl ⟨a, b, B, D, cb, cd, t, f, rfl, hl, ho1, ho2, hb1⟩
set_option maxRecDepth 100000 in
set_option maxHeartbeats 2000000 in
theorem drawOnl_any (A : Option Addr) (n c : Nat) (w : World) (h : CodeAt w A n) (hn : n ≤ 65536) :
    Calls Try.prog 54 #[.slice A n c] w fun e w' => ∃ (a b : List Qu) (B D : Option Addr) (cb cd : Nat) (t f : Int), e = .returned (.tuple #[.slice B a.length cb, .slice D b.length cd, .int .i64 t, .int .i64 f]) ∧ (a.length ≤ 11 ∧ b.length ≤ 11) ∧ w'.ownsRow w.heap.size 26 4 (.slice B a.length cb) a.length (a.flatMap encQu) ∧ w'.ownsRow w.heap.size 26 4 (.slice D b.length cd) b.length (b.flatMap encQu) ∧ Below w.heap.size w w' := by
  have HH := Lib.hid h
  clear h
  go_enter Try.func54, Try.ntmps54
  go_wp2_with (go_at_call 29; (with_reducible refine (drawMat_any A n c _ HH.out hn).mono ?_); rintro e w1 ⟨a, b, B, D, cb, cd, t, f, rfl, hl, ho1, ho2, hb1⟩)
  exact bodyPost_ret (v := .tuple #[.slice B a.length cb, .slice D b.length cd, .int .i64 t, .int .i64 f]) (by simp [results, Try.results54, go_sem]) rfl ⟨a, b, B, D, cb, cd, t, f, rfl, hl, ho1, ho2, hb1⟩
set_option maxRecDepth 100000 in
set_option maxHeartbeats 8000000 in
theorem drawPut_any (A : Option Addr) (n c : Nat) (w : World) (h : CodeAt w A n) (hn : n ≤ 65536) :
    Calls Try.prog 57 #[.slice A n c] w fun e w' => ∃ (l : List Qu) (B : Option Addr) (cb : Nat) (q : Qu), e = .returned (.tuple #[.slice B l.length cb, .agg #[.int .i64 q.tk, .int .i64 q.x, .int .i64 q.y, .int .i64 q.sz]]) ∧ l.length ≤ 11 ∧ w'.ownsRow w.heap.size 26 4 (.slice B l.length cb) l.length (l.flatMap encQu) ∧ Below w.heap.size w w' := by
  have hD := dr_new (c := c) (E := 80) (h.grown (only_of_below (balloc (bref w) (.cells #[.int .i64 0, .int .i64 0, .int .i64 0, .int .i64 0] 26)) none) (fun _ _ _ e => by cases e))
  have hp : w.heap.size + 1 < ((w.alloc (.cells #[.int .i64 0, .int .i64 0, .int .i64 0, .int .i64 0] 26)).alloc (.cells #[.slice A n c, .int .i64 0, .int .u64 0] 80)).heap.size := by simp
  simp only [World.size_alloc] at hD
  have HD := Lib.hid hD
  clear h hD
  go_enter Try.func57, Try.ntmps57
  go_wp2_with fail
  refine (catalogue_any _ HD.out (by omega) (by omega)).mono ?_; rintro e w1 ⟨l, B, cb, rfl, hl, ho1, hd1, hg1⟩
  have HO1 := Lib.hid ho1
  have HD1 := Lib.hid hd1
  have HG1 := Lib.hid hg1
  have hs1 := hg1.size
  have HQ1 := Lib.hid (box4_of (blk_kept (heap_was2 _ _ _) hg1 (by simp)))
  have FIN := Lib.hid (fun (W : World) (q : Qu) (ho : W.ownsRow w.heap.size 26 4 (.slice B l.length cb) l.length (l.flatMap encQu)) (hgt : ∀ g, (Value.slice B l.length cb).ownBlock = some g → w.heap.size < g) (hb : Below w.heap.size w W) (hq : Box4 W w.heap.size (.int .i64 0) (.int .i64 0) (.int .i64 0) (.int .i64 0)) =>
    show (((((W.setCell ⟨w.heap.size, 0, none⟩ (.int .i64 q.tk)).setCell ⟨w.heap.size, 1, none⟩ (.int .i64 q.x)).setCell ⟨w.heap.size, 2, none⟩ (.int .i64 q.y)).setCell ⟨w.heap.size, 3, none⟩ (.int .i64 q.sz)).ownsRow w.heap.size 26 4 (.slice B l.length cb) l.length (l.flatMap encQu)) ∧ Below w.heap.size w ((((W.setCell ⟨w.heap.size, 0, none⟩ (.int .i64 q.tk)).setCell ⟨w.heap.size, 1, none⟩ (.int .i64 q.x)).setCell ⟨w.heap.size, 2, none⟩ (.int .i64 q.y)).setCell ⟨w.heap.size, 3, none⟩ (.int .i64 q.sz)) from
    ⟨World.ownsRow.kept ho (only_setCell (p := ⟨w.heap.size, 3, none⟩) (only_setCell (p := ⟨w.heap.size, 2, none⟩) (only_setCell (p := ⟨w.heap.size, 1, none⟩) (only_setCell (p := ⟨w.heap.size, 0, none⟩) (World.grownBy.refl W (some w.heap.size)) (.inl rfl) _) (.inl rfl) _) (.inl rfl) _) (.inl rfl) _) (by
      cases e : (Value.slice B l.length cb).ownBlock with
      | none => exact .inl rfl
      | some g =>
        right
        intro e2
        have := hgt g e
        cases e2
        omega), bset (bset (bset (bset hb (p := ⟨w.heap.size, 0, none⟩) (Nat.le_refl _) _) (p := ⟨w.heap.size, 1, none⟩) (Nat.le_refl _) _) (p := ⟨w.heap.size, 2, none⟩) (Nat.le_refl _) _) (p := ⟨w.heap.size, 3, none⟩) (Nat.le_refl _) _⟩)
  have hgt : ∀ g, (Value.slice B l.length cb).ownBlock = some g → w.heap.size < g := fun g hg => by have := (ho1.lt g hg).1; simp at this; omega
  clear ho1 hd1 hg1
  by_cases h0 : 0 < l.length
  case' pos =>
    have h0' : (0 : Int) < (l.length : Int) := by omega
    go_wp2_with fail
    refine (one_dr 6 _ HD1.out (by omega) (by omega) (by decide)).mono ?_; rintro e w2 ⟨b2, rfl, hd2, hg2⟩
    have HO2 := Lib.hid (own_dr HO1.out hg2 (by simp))
    have HG2 := Lib.hid (only_two HG1.out hg2)
    have HD2 := Lib.hid hd2
    have HQ2 := Lib.hid (HQ1.out.moved hg2 (by omega))
    clear hd2 hg2
    cases b2
    case true =>
      go_wp2_with fail
      go_region_with (first
        | (go_at_call 75; ((with_reducible refine (pick_dr (w0 := (w.alloc (.cells #[.int .i64 0, .int .i64 0, .int .i64 0, .int .i64 0] 26)).alloc (.cells #[.slice A n c, .int .i64 0, .int .u64 0] 80)) (A := A) (n := n) (c := c) (l.length : Int) _ (HD2.out.below (by repeat (first | exact bref _ | (refine bdrew ?_) | (refine bdrewN ?_ _)))) (by omega) (by omega) (by omega)).mono ?_)); rintro e w3 ⟨r3, rfl, hr3, hd3, hg3⟩; have hgX := only_two (show w2.grownBy _ (some (w.heap.size + 1)) by (repeat (first | exact World.grownBy.refl _ _ | (refine only_drew ?_) | (refine only_drewN ?_ _)))) hg3; obtain ⟨i, hi⟩ : ∃ i : Nat, r3 = (i : Int) := ⟨r3.toNat, by omega⟩; subst hi; have hiL : i < l.length := (by omega); have HO3 := Lib.hid (own_dr HO2.out hgX (by simp)); have HQ3 := Lib.hid (HQ2.out.moved hgX (by omega)); have HG3 := Lib.hid (only_two HG2.out hgX); obtain ⟨m, hm⟩ := some_get hiL; have i0 := ib0 i; have i1 := ib1 hiL; obtain ⟨b, off, rfl, hb, q0, q1, q2, q3⟩ := (RowAt.of_own HO3.out encQu_len (by decide)).qu hm; obtain ⟨_, ⟨z0, z1, z2, z3⟩, y0, y1, y2, y3⟩ := HQ3.out)
        | fail)
      all_goals
        have hb3 : Below w.heap.size w w3 := bgrown (balloc (balloc (bref w) _) _) HG3.out (fun k hk => by cases hk; omega)
        obtain ⟨FO, FB⟩ := FIN.out w3 m (own_base HO3.out (by simp; omega)) hgt hb3 HQ3.out
        obtain ⟨s0, s1, s2, s3⟩ := set4 (.int .i64 m.tk) (.int .i64 m.x) (.int .i64 m.y) (.int .i64 m.sz) z0 z1 z2 z3
        go_wp2_with fail
        trace_state
        generalize ((((w3.setCell ⟨w.heap.size, 0, none⟩ (.int .i64 m.tk)).setCell ⟨w.heap.size, 1, none⟩ (.int .i64 m.x)).setCell ⟨w.heap.size, 2, none⟩ (.int .i64 m.y)).setCell ⟨w.heap.size, 3, none⟩ (.int .i64 m.sz)) = W at s0 s1 s2 s3 FO FB ⊢
        exact bodyPost_ret (v := .tuple #[.slice (some ⟨b, off, none⟩) l.length cb, .agg #[.int .i64 m.tk, .int .i64 m.x, .int .i64 m.y, .int .i64 m.sz]]) (by simp [results, Try.results57, go_sem, s0, s1, s2, s3]) rfl ⟨l, _, cb, m, rfl, hl, FO, FB⟩
    case' false =>
      go_wp2_with fail
      have HX : Hid (w2.ownsRow (w.heap.size + 1 + 1) 26 4 (.slice B l.length cb) l.length (l.flatMap encQu)) := Lib.hid (by have := HO2.out; simpa using this)
      obtain ⟨wx, hwx⟩ : ∃ wx, wx = w2 := ⟨_, rfl⟩
      have HDX := HD2.out.more (show _ ≤ 300 by omega)
      have HGX := HG2.out
      have HQX := HQ2.out
      rw [← hwx] at HX HDX HGX HQX ⊢
      clear hwx
  case' neg =>
    go_wp2_with fail
    have HX : Hid (w1.ownsRow (w.heap.size + 1 + 1) 26 4 (.slice B l.length cb) l.length (l.flatMap encQu)) := Lib.hid (by have := HO1.out; simpa using this)
    obtain ⟨wx, hwx⟩ : ∃ wx, wx = w1 := ⟨_, rfl⟩
    have HDX := HD1.out.more (show _ ≤ 300 by omega)
    have HGX := HG1.out
    have HQX := HQ1.out
    rw [← hwx] at HX HDX HGX HQX ⊢
    clear hwx
  all_goals
    refine (oneQuake_any _ HDX (by omega) (by omega)).mono ?_; rintro e w4 ⟨q, rfl, hd4, hg4⟩
    have HQ4 := HQX.moved hg4 (by omega)
    obtain ⟨_, ⟨z0, z1, z2, z3⟩, y0, y1, y2, y3⟩ := HQX.moved hg4 (by omega)
    have hb4 : Below w.heap.size w w4 := bgrown (balloc (balloc (bref w) _) _) (only_two HGX hg4) (fun k hk => by cases hk; omega)
    obtain ⟨FO, FB⟩ := FIN.out w4 q (own_base (own_dr HX.out hg4 (by omega)) (by omega)) hgt hb4 HQ4
    obtain ⟨s0, s1, s2, s3⟩ := set4 (.int .i64 q.tk) (.int .i64 q.x) (.int .i64 q.y) (.int .i64 q.sz) z0 z1 z2 z3
    go_wp2_with fail
    generalize ((((w4.setCell ⟨w.heap.size, 0, none⟩ (.int .i64 q.tk)).setCell ⟨w.heap.size, 1, none⟩ (.int .i64 q.x)).setCell ⟨w.heap.size, 2, none⟩ (.int .i64 q.y)).setCell ⟨w.heap.size, 3, none⟩ (.int .i64 q.sz)) = W at s0 s1 s2 s3 FO FB ⊢
    exact bodyPost_ret (v := .tuple #[.slice B l.length cb, .agg #[.int .i64 q.tk, .int .i64 q.x, .int .i64 q.y, .int .i64 q.sz]]) (by simp [results, Try.results57, go_sem, s0, s1, s2, s3]) rfl ⟨l, B, cb, q, rfl, hl, FO, FB⟩
end Go.Proofs.Ytlinjkfbcekepaa
