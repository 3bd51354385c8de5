/-
  The draws: spec.l1Cur's next, pick, one, among answer bounded numbers and change only their own struct.
-/
import Derived.Test.YtifkakpiipoadaaInts1
import Derived.Test.YtifkakpiipoadaaKit
namespace Go.Proofs.Ytifkakpiipoadaa
set_option linter.unusedVariables false
set_option linter.unusedSimpArgs false
set_option linter.unnecessarySimpa false
open Go.RowKit
attribute [local go_sem] ext_cell ext_frozen

def CodeAt (w : World) (A : Option Addr) (n : Nat) : Prop := ∀ k, k < n → ∃ (b off : Nat) (v : Int), A = some ⟨b, off, none⟩ ∧ b < w.heap.size ∧ w.cell? ⟨b, off + k, none⟩ = some (.int .u8 v) ∧ 0 ≤ v ∧ v ≤ 255
def Cur (w : World) (p : Nat) (A : Option Addr) (n c k : Nat) (s : Int) : Prop :=
  p < w.heap.size ∧ w.cell? ⟨p, 0, none⟩ = some (.slice A n c) ∧ w.cell? ⟨p, 1, none⟩ = some (.int .i64 k) ∧ w.cell? ⟨p, 2, none⟩ = some (.int .u64 s) ∧ w.frozen? ⟨p, 1, none⟩ = false ∧ w.frozen? ⟨p, 2, none⟩ = false ∧ CodeAt w A n ∧ (0 < n → ∀ b off, A = some ⟨b, off, none⟩ → b ≠ p)
def CurK (w : World) (p : Nat) (A : Option Addr) (n c k : Nat) : Prop := ∃ s, Cur w p A n c k s
theorem CodeAt.grown {w w' : World} {A : Option Addr} {n : Nat} {row : Option Nat} (h : CodeAt w A n) (hg : w.grownBy w' row) (hne : ∀ b off, A = some ⟨b, off, none⟩ → some b ≠ row) : CodeAt w' A n := fun k hk => by
  obtain ⟨b, off, v, e, hb, hc, h0, h1⟩ := h k hk
  exact ⟨b, off, v, e, Nat.lt_of_lt_of_le hb hg.size, (hg.cell_far ⟨b, off + k, none⟩ hb (hne b off e)).trans hc, h0, h1⟩
theorem Cur.below {w w' : World} {p : Nat} {A : Option Addr} {n c k : Nat} {s : Int} (h : Cur w p A n c k s) (hb : Below w.heap.size w w') : Cur w' p A n c k s := by
  obtain ⟨hp, x0, x1, x2, f1, f2, hc, hne⟩ := h
  exact ⟨Nat.lt_of_lt_of_le hp hb.size, (hb.cell (p := ⟨p, 0, none⟩) hp).trans x0, (hb.cell (p := ⟨p, 1, none⟩) hp).trans x1, (hb.cell (p := ⟨p, 2, none⟩) hp).trans x2, (hb.frozen (p := ⟨p, 1, none⟩) hp).trans f1, (hb.frozen (p := ⟨p, 2, none⟩) hp).trans f2, hc.grown (only_of_below hb none) (fun _ _ _ e => by cases e), hne⟩
theorem Cur.step {w : World} {p : Nat} {A : Option Addr} {n c k : Nat} {s : Int} (h : Cur w p A n c k s) (k' : Nat) (s' : Int) : Cur ((w.setCell ⟨p, 1, none⟩ (.int .i64 k')).setCell ⟨p, 2, none⟩ (.int .u64 s')) p A n c k' s' := by
  obtain ⟨hp, x0, x1, x2, f1, f2, hc, hne⟩ := h
  refine ⟨by simpa [World.setCell] using hp, ?_, ?_, ?_, by simpa using f1, by simpa using f2, fun j hj => ?_, hne⟩
  · rw [World.cell?_setCell_other, World.cell?_setCell_other, x0] <;> simp
  · rw [World.cell?_setCell_other, World.cell?_setCell_same _ _ _ x1]; simp
  · rw [World.cell?_setCell_same _ _ _ (show (w.setCell ⟨p, 1, none⟩ (.int .i64 k')).cell? ⟨p, 2, none⟩ = some (.int .u64 s) by rw [World.cell?_setCell_other, x2]; simp)]
  · obtain ⟨b, off, v, e, hb, hcc, h0, h1⟩ := hc j hj
    have hbp := hne (by omega) b off e
    refine ⟨b, off, v, e, by simpa [World.setCell] using hb, ?_, h0, h1⟩
    rw [World.cell?_setCell_other, World.cell?_setCell_other, hcc] <;> (intro e2; simp only [Addr.mk.injEq] at e2; exact hbp e2.1.symm)
set_option maxHeartbeats 1000000 in
theorem only_steps (w : World) (p : Nat) (u v : Value) : w.grownBy ((w.setCell ⟨p, 1, none⟩ u).setCell ⟨p, 2, none⟩ v) (some p) := only_setCell (p := ⟨p, 2, none⟩) (only_setCell (p := ⟨p, 1, none⟩) (World.grownBy.refl w (some p)) (.inl rfl) u) (.inl rfl) v
theorem only_two {a w w' : World} {r : Option Nat} (h1 : a.grownBy w r) (h2 : w.grownBy w' r) : a.grownBy w' r :=
  ⟨h2.os.trans h1.os, h2.tape.trans h1.tape, h2.output.trans h1.output, Nat.le_trans h1.size h2.size, fun i hi hne => (h2.block i (Nat.lt_of_lt_of_le hi h1.size) hne).trans (h1.block i hi hne)⟩
theorem and_low (x : Int) : 0 ≤ bits BinOp.and IntKind.u64 x 255 ∧ bits BinOp.and IntKind.u64 x 255 ≤ 255 := by
  have e : (BitVec.ofInt 64 (255 : Int)).toNat = 255 := by decide
  have h : (BitVec.ofInt 64 x &&& BitVec.ofInt 64 255).toNat ≤ 255 := by
    rw [BitVec.toNat_and, e]
    exact Nat.and_le_right
  have e2 : bits BinOp.and IntKind.u64 x 255 = IntKind.u64.wrap ((BitVec.ofInt 64 x &&& BitVec.ofInt 64 255).toNat : Int) := rfl
  rw [e2]
  generalize (BitVec.ofInt 64 x &&& BitVec.ofInt 64 255).toNat = m at h
  have e3 : IntKind.u64.wrap (m : Int) = (m : Int) := by
    rw [IntKind.wrap_u64]; omega
  rw [e3]; omega
set_option maxRecDepth 100000 in
set_option maxHeartbeats 4000000 in
theorem next_any (p : Nat) (A : Option Addr) (n c k : Nat) (s : Int) (w : World) (h : Cur w p A n c k s) (hk : k ≤ 1000000) (hn : n ≤ 9223372036854775807) :
    Calls Try.prog 104 #[.pointer (some ⟨p, 0, none⟩)] w fun e w' => ∃ r : Int, e = .returned (.int .i64 r) ∧ (0 ≤ r ∧ r ≤ 255) ∧ CurK w' p A n c (k + 1) ∧ w.grownBy w' (some p) := by
  have HC := Lib.hid h
  obtain ⟨hp, x0, x1, x2, f1, f2, hcode, hne⟩ := h
  have k0 := ib0 k
  by_cases hlt : k < n
  · have k1 := ib1 hlt
    obtain ⟨b, off, v, rfl, hb, hcc, h0, h1⟩ := hcode k hlt
    clear hcode hne
    go_enter Try.func104, Try.ntmps104
    go_wp2_with fail
    (refine wp_region_calm (by kernel_rfl) (by kernel_rfl) ?_; (repeat (go_big_quiet_step ((fail)))); refine wpQuiet_nil ?_; intro xw; have hb2 := xw.is; generalize xw.w = w2 at hb2 ⊢; clear xw)
    obtain ⟨hp, x0, x1, x2, f1, f2, hcode, hne⟩ := HC.out.below hb2
    have hcc := (hb2.cell (p := ⟨b, off + k, none⟩) hb).trans hcc
    have hb := Nat.lt_of_lt_of_le hb hb2.size
    clear hcode hne
    go_wp2_with fail
    (refine wp_region_calm (by kernel_rfl) (by kernel_rfl) ?_; (repeat (go_big_quiet_step ((fail)))); refine wpQuiet_nil ?_; intro xw; have hb3 := xw.is; generalize xw.w = w3 at hb3 ⊢; clear xw)
    obtain ⟨hp, x0, x1, x2, f1, f2, hcode, hne⟩ := HC.out.below (bstep hb2 hb3)
    clear hcode hne
    go_wp2_with fail
    generalize IntKind.u64.wrap (IntKind.u64.wrap (IntKind.u64.wrap (s * 6364136223846793005) + v) + 101717) = s'
    have HC4 := Lib.hid ((HC.out.below (bstep hb2 hb3)).step (k + 1) s')
    have hg4 := Lib.hid (only_two (only_of_below (bstep hb2 hb3) (some p)) (only_steps w3 p (.int .i64 ((k + 1 : Nat) : Int)) (.int .u64 s')))
    have ek : ((k + 1 : Nat) : Int) = (k : Int) + 1 := by omega
    rw [ek] at HC4 hg4
    clear x0 x1 x2 f1 f2 hp hcc hb
    generalize (w3.setCell ⟨p, 1, none⟩ (.int .i64 ((k : Int) + 1))).setCell ⟨p, 2, none⟩ (.int .u64 s') = w4 at HC4 hg4 ⊢
    obtain ⟨hp, x0, x1, x2, f1, f2, hcode, hne⟩ := HC4.out
    rw [ek] at x1
    have g1 : (k : Int) + 1 ≤ (n : Int) := by omega
    clear hcode hne
    (refine wp_region_calm (by kernel_rfl) (by kernel_rfl) ?_; (repeat (go_big_quiet_step ((fail)))); refine wpQuiet_nil ?_; intro xw; have hb5 := xw.is; generalize xw.w = w5 at hb5 ⊢; clear xw)
    go_wp2_with fail
    go_ret
    exact ⟨v, rfl, ⟨h0, h1⟩, ⟨s', HC4.out.below hb5⟩, only_two hg4.out (only_of_below hb5 _)⟩
  · have k1 : ¬ (k : Int) < (n : Int) := by omega
    clear hcode hne
    go_enter Try.func104, Try.ntmps104
    go_wp2_with fail
    (refine wp_region_calm (by kernel_rfl) (by kernel_rfl) ?_; (repeat (go_big_quiet_step ((fail)))); refine wpQuiet_nil ?_; intro xw; have hb2 := xw.is; generalize xw.w = w2 at hb2 ⊢; clear xw)
    obtain ⟨hp, x0, x1, x2, f1, f2, hcode, hne⟩ := HC.out.below hb2
    clear hcode hne
    go_wp2_with fail
    generalize IntKind.u64.wrap (IntKind.u64.wrap (IntKind.u64.wrap (s * 6364136223846793005)) + 101717) = s'
    have HC4 := Lib.hid ((HC.out.below hb2).step (k + 1) s')
    have hg4 := Lib.hid (only_two (only_of_below hb2 (some p)) (only_steps w2 p (.int .i64 ((k + 1 : Nat) : Int)) (.int .u64 s')))
    have ek : ((k + 1 : Nat) : Int) = (k : Int) + 1 := by omega
    rw [ek] at HC4 hg4
    clear x0 x1 x2 f1 f2 hp
    generalize (w2.setCell ⟨p, 1, none⟩ (.int .i64 ((k : Int) + 1))).setCell ⟨p, 2, none⟩ (.int .u64 s') = w4 at HC4 hg4 ⊢
    obtain ⟨hp, x0, x1, x2, f1, f2, hcode, hne⟩ := HC4.out
    rw [ek] at x1
    have g1 : ¬ (k : Int) + 1 ≤ (n : Int) := by omega
    clear hcode hne
    (refine wp_region_calm (by kernel_rfl) (by kernel_rfl) ?_; (repeat (go_big_quiet_step ((fail)))); refine wpQuiet_nil ?_; intro xw; have hb5 := xw.is; generalize xw.w = w5 at hb5 ⊢; clear xw)
    obtain ⟨hp, x0, x1, x2, f1, f2, hcode, hne⟩ := HC4.out.below hb5
    clear hcode hne
    have hwa : ∀ z, IntKind.i64.wrap (bits BinOp.and IntKind.u64 z 255) = bits BinOp.and IntKind.u64 z 255 := fun z => by
      have := and_low z
      rw [IntKind.wrap_i64]; omega
    go_wp2_with fail
    go_ret
    exact ⟨_, rfl, and_low _, ⟨s', HC4.out.below hb5⟩, only_two hg4.out (only_of_below hb5 _)⟩
/-- The contract's last part: the draws went on, and only the draws' own struct was changed. -/
def Went (w w' : World) (p : Nat) (A : Option Addr) (n c k d : Nat) : Prop := (∃ k', k ≤ k' ∧ k' ≤ k + d ∧ CurK w' p A n c k') ∧ w.grownBy w' (some p)
theorem RowAt.far {α : Type} {enc : α → List Value} {K : Nat} {w w' : World} {B : Option Addr} {l : List α} {row : Option Nat} (h : RowAt K enc w B l) (hg : w.grownBy w' row) (hne : ∀ b off, B = some ⟨b, off, none⟩ → some b ≠ row) : RowAt K enc w' B l := fun hl => by
  obtain ⟨b, off, e, hb, hc⟩ := h hl
  exact ⟨b, off, e, Nat.lt_of_lt_of_le hb hg.size, fun i m hi j u hj => (hg.cell_far _ hb (hne b off e)).trans (hc i m hi j u hj)⟩
set_option maxRecDepth 100000 in
set_option maxHeartbeats 4000000 in
theorem pick_any (p : Nat) (A : Option Addr) (n c k : Nat) (m : Int) (w : World) (h : CurK w p A n c k) (hk : k ≤ 900000) (hn : n ≤ 9223372036854775807) (hm : 0 ≤ m ∧ m ≤ 60000) :
    Calls Try.prog 91 #[.pointer (some ⟨p, 0, none⟩), .int .i64 m] w fun e w' => ∃ r : Int, e = .returned (.int .i64 r) ∧ (0 ≤ r ∧ (r = 0 ∨ r < m)) ∧ Went w w' p A n c k 2 := by
  obtain ⟨s, h⟩ := h
  have HC := Lib.hid h
  clear h
  by_cases h1 : m ≤ 1
  · go_enter Try.func91, Try.ntmps91
    go_wp2_with fail
    go_ret
    exact ⟨0, rfl, ⟨by omega, .inl rfl⟩, ⟨k, Nat.le_refl _, by omega, s, HC.out⟩, World.grownBy.refl _ _⟩
  · have H1 := Lib.hid (next_any p A n c k s w HC.out (by omega) hn)
    have H2 := Lib.hid (fun (W : World) s' (hW : Cur W p A n c (k + 1) s') => next_any p A n c (k + 1) s' W hW (by omega) hn)
    have hm0 : m ≠ 0 := by omega
    by_cases h2 : m > 200
    · go_enter Try.func91, Try.ntmps91
      go_wp2_with (go_at_call 104; first | (with_reducible refine H1.out.mono ?_; rintro e w1 ⟨r1, rfl, hr1, hs1, hg1⟩; have HS1 := Lib.hid hs1; clear hs1) | (obtain ⟨s1, hc1⟩ := HS1.out; with_reducible refine (H2.out w1 s1 hc1).mono ?_; rintro e w2 ⟨r2, rfl, hr2, hs2, hg2⟩; have HS2 := Lib.hid hs2; clear hs2; have hq : (0 : Int) ≤ r1 * 256 + r2 := (by omega); have hq0 := Int.emod_nonneg (r1 * 256 + r2) hm0; have hq1 := Int.emod_lt_of_pos (r1 * 256 + r2) (show 0 < m by omega)))
      go_ret
      obtain ⟨s2, hc2⟩ := HS2.out
      exact ⟨_, rfl, ⟨hq0, .inr hq1⟩, ⟨k + 1 + 1, by omega, by omega, s2, hc2⟩, only_two hg1 hg2⟩
    · go_enter Try.func91, Try.ntmps91
      go_wp2_with (go_at_call 104; with_reducible refine H1.out.mono ?_; rintro e w1 ⟨r1, rfl, hr1, hs1, hg1⟩; have HS1 := Lib.hid hs1; clear hs1; have hq0 := Int.emod_nonneg r1 hm0; have hq1 := Int.emod_lt_of_pos r1 (show 0 < m by omega))
      go_ret
      obtain ⟨s1, hc1⟩ := HS1.out
      exact ⟨_, rfl, ⟨hq0, .inr hq1⟩, ⟨k + 1, by omega, by omega, s1, hc1⟩, hg1⟩
set_option maxRecDepth 100000 in
set_option maxHeartbeats 1000000 in
theorem one_any (p : Nat) (A : Option Addr) (n c k : Nat) (m : Int) (w : World) (h : CurK w p A n c k) (hk : k ≤ 900000) (hn : n ≤ 9223372036854775807) (hm : 0 ≤ m ∧ m ≤ 60000) :
    Calls Try.prog 90 #[.pointer (some ⟨p, 0, none⟩), .int .i64 m] w fun e w' => ∃ b : Bool, e = .returned (.bool b) ∧ Went w w' p A n c k 2 := by
  have HP := Lib.hid (pick_any p A n c k m w h hk hn hm)
  clear h
  go_enter Try.func90, Try.ntmps90
  go_wp2_with (go_at_call 91; (with_reducible refine (HP.out).mono ?_); rintro e w1 ⟨r, rfl, hr, hw⟩)
  go_ret
  exact ⟨_, rfl, hw⟩
set_option maxRecDepth 100000 in
set_option maxHeartbeats 2000000 in
theorem among_any (p : Nat) (A : Option Addr) (n c k : Nat) (l : List Int) (B : Option Addr) (cb : Nat) (w : World) (h : CurK w p A n c k) (hk : k ≤ 900000) (hn : n ≤ 9223372036854775807) (hr : RowAt 1 encI w B l) (hB : ∀ b off, B = some ⟨b, off, none⟩ → b ≠ p) (hl : 0 < l.length) (hl2 : l.length ≤ 1000) :
    Calls Try.prog 92 #[.pointer (some ⟨p, 0, none⟩), .slice B l.length cb] w fun e w' => ∃ v : Int, e = .returned (.int .i64 v) ∧ v ∈ l ∧ Went w w' p A n c k 2 := by
  have HP := Lib.hid (pick_any p A n c k (l.length : Int) w h hk hn (by omega))
  have HR := Lib.hid (fun (w' : World) (hg : w.grownBy w' (some p)) => hr.far hg (fun b off e e2 => hB b off e (by simpa using e2)))
  clear h hr hB
  go_enter Try.func92, Try.ntmps92
  go_wp2_with (go_at_call 91; (with_reducible refine (HP.out).mono ?_); rintro e w1 ⟨r, rfl, hr, hw⟩; have HW := Lib.hid hw; clear hw; obtain ⟨i, rfl⟩ : ∃ i : Nat, r = (i : Int) := ⟨r.toNat, by omega⟩; have hil : i < l.length := (by omega); obtain ⟨v, hv⟩ := some_get hil; obtain ⟨b, off, e9, hb, q0⟩ := (HR.out w1 HW.out.2).i hv; subst e9; have i0 := ib0 i; have i1 := ib1 hil; have HM := Lib.hid (List.mem_of_getElem? hv); clear hv)
  go_ret
  exact ⟨_, rfl, HM.out, HW.out⟩
end Go.Proofs.Ytifkakpiipoadaa
