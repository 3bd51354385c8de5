/-
  Texts joined: what each says stands at its head.
-/
import Derived.Test.YtaobbkiepggafaaGreatInts1
import Derived.Test.YtaobbkiepggafaaGreatKit
/-
  The draws: spec.l1Cur's next, pick, one, among answer bounded numbers and change only their own struct.
-/
namespace Go.Proofs.YtaobbkiepggafaaGreat
set_option linter.unusedVariables false
set_option linter.unusedSimpArgs false
set_option linter.unnecessarySimpa false
open Go.RowKit
attribute [local go_sem] ext_cell ext_frozen

def CodeAt (w : World) (A : Option Addr) (n : Nat) : Prop := ∀ k, k < n → ∃ (b off : Nat) (v : Int), A = some ⟨b, off, none⟩ ∧ b < w.heap.size ∧ w.cell? ⟨b, off + k, none⟩ = some (.int .u8 v) ∧ 0 ≤ v ∧ v ≤ 255
def Cur (w : World) (p : Nat) (A : Option Addr) (n c k : Nat) (s : Int) : Prop :=
  p < w.heap.size ∧ w.cell? ⟨p, 0, none⟩ = some (.slice A n c) ∧ w.cell? ⟨p, 1, none⟩ = some (.int .i64 k) ∧ w.cell? ⟨p, 2, none⟩ = some (.int .u64 s) ∧ w.frozen? ⟨p, 1, none⟩ = false ∧ w.frozen? ⟨p, 2, none⟩ = false ∧ CodeAt w A n ∧ (0 < n → ∀ b off, A = some ⟨b, off, none⟩ → b ≠ p)
def CurK (w : World) (p : Nat) (A : Option Addr) (n c k : Nat) : Prop := ∃ s, Cur w p A n c k s
theorem CodeAt.grown {w w' : World} {A : Option Addr} {n : Nat} {row : Option Nat} (h : CodeAt w A n) (hg : w.grownBy w' row) (hne : ∀ b off, A = some ⟨b, off, none⟩ → some b ≠ row) : CodeAt w' A n := fun k hk => by
  obtain ⟨b, off, v, e, hb, hc, h0, h1⟩ := h k hk
  exact ⟨b, off, v, e, Nat.lt_of_lt_of_le hb hg.size, (hg.cell_far ⟨b, off + k, none⟩ hb (hne b off e)).trans hc, h0, h1⟩
theorem Cur.below {w w' : World} {p : Nat} {A : Option Addr} {n c k : Nat} {s : Int} (h : Cur w p A n c k s) (hb : Below w.heap.size w w') : Cur w' p A n c k s := by
  obtain ⟨hp, x0, x1, x2, f1, f2, hc, hne⟩ := h
  exact ⟨Nat.lt_of_lt_of_le hp hb.size, (hb.cell (p := ⟨p, 0, none⟩) hp).trans x0, (hb.cell (p := ⟨p, 1, none⟩) hp).trans x1, (hb.cell (p := ⟨p, 2, none⟩) hp).trans x2, (hb.frozen (p := ⟨p, 1, none⟩) hp).trans f1, (hb.frozen (p := ⟨p, 2, none⟩) hp).trans f2, hc.grown (only_of_below hb none) (fun _ _ _ e => by cases e), hne⟩
theorem Cur.step {w : World} {p : Nat} {A : Option Addr} {n c k : Nat} {s : Int} (h : Cur w p A n c k s) (k' : Nat) (s' : Int) : Cur ((w.setCell ⟨p, 1, none⟩ (.int .i64 k')).setCell ⟨p, 2, none⟩ (.int .u64 s')) p A n c k' s' := by
  obtain ⟨hp, x0, x1, x2, f1, f2, hc, hne⟩ := h
  refine ⟨by simpa [World.setCell] using hp, ?_, ?_, ?_, by simpa using f1, by simpa using f2, fun j hj => ?_, hne⟩
  · rw [World.cell?_setCell_other, World.cell?_setCell_other, x0] <;> simp
  · rw [World.cell?_setCell_other, World.cell?_setCell_same _ _ _ x1]; simp
  · rw [World.cell?_setCell_same _ _ _ (show (w.setCell ⟨p, 1, none⟩ (.int .i64 k')).cell? ⟨p, 2, none⟩ = some (.int .u64 s) by rw [World.cell?_setCell_other, x2]; simp)]
  · obtain ⟨b, off, v, e, hb, hcc, h0, h1⟩ := hc j hj
    have hbp := hne (by omega) b off e
    refine ⟨b, off, v, e, by simpa [World.setCell] using hb, ?_, h0, h1⟩
    rw [World.cell?_setCell_other, World.cell?_setCell_other, hcc] <;> (intro e2; simp only [Addr.mk.injEq] at e2; exact hbp e2.1.symm)
set_option maxHeartbeats 1000000 in
theorem only_steps (w : World) (p : Nat) (u v : Value) : w.grownBy ((w.setCell ⟨p, 1, none⟩ u).setCell ⟨p, 2, none⟩ v) (some p) := only_setCell (p := ⟨p, 2, none⟩) (only_setCell (p := ⟨p, 1, none⟩) (World.grownBy.refl w (some p)) (.inl rfl) u) (.inl rfl) v
theorem only_two {a w w' : World} {r : Option Nat} (h1 : a.grownBy w r) (h2 : w.grownBy w' r) : a.grownBy w' r :=
  ⟨h2.os.trans h1.os, h2.tape.trans h1.tape, h2.output.trans h1.output, Nat.le_trans h1.size h2.size, fun i hi hne => (h2.block i (Nat.lt_of_lt_of_le hi h1.size) hne).trans (h1.block i hi hne)⟩
theorem and_low (x : Int) : 0 ≤ bits BinOp.and IntKind.u64 x 255 ∧ bits BinOp.and IntKind.u64 x 255 ≤ 255 := by
  have e : (BitVec.ofInt 64 (255 : Int)).toNat = 255 := by decide
  have h : (BitVec.ofInt 64 x &&& BitVec.ofInt 64 255).toNat ≤ 255 := by
    rw [BitVec.toNat_and, e]
    exact Nat.and_le_right
  have e2 : bits BinOp.and IntKind.u64 x 255 = IntKind.u64.wrap ((BitVec.ofInt 64 x &&& BitVec.ofInt 64 255).toNat : Int) := rfl
  rw [e2]
  generalize (BitVec.ofInt 64 x &&& BitVec.ofInt 64 255).toNat = m at h
  have e3 : IntKind.u64.wrap (m : Int) = (m : Int) := by
    rw [IntKind.wrap_u64]; omega
  rw [e3]; omega
set_option maxRecDepth 100000 in
set_option maxHeartbeats 4000000 in
theorem next_any (p : Nat) (A : Option Addr) (n c k : Nat) (s : Int) (w : World) (h : Cur w p A n c k s) (hk : k ≤ 1000000) (hn : n ≤ 9223372036854775807) :
    Calls Tryz.prog 85 #[.pointer (some ⟨p, 0, none⟩)] w fun e w' => ∃ r : Int, e = .returned (.int .i64 r) ∧ (0 ≤ r ∧ r ≤ 255) ∧ CurK w' p A n c (k + 1) ∧ w.grownBy w' (some p) := by
  have HC := Lib.hid h
  obtain ⟨hp, x0, x1, x2, f1, f2, hcode, hne⟩ := h
  have k0 := ib0 k
  by_cases hlt : k < n
  · have k1 := ib1 hlt
    obtain ⟨b, off, v, rfl, hb, hcc, h0, h1⟩ := hcode k hlt
    clear hcode hne
    go_enter Tryz.func85, Tryz.ntmps85
    go_wp2_with fail
    (refine wp_region_calm (by kernel_rfl) (by kernel_rfl) ?_; (repeat (go_big_quiet_step ((fail)))); refine wpQuiet_nil ?_; intro xw; have hb2 := xw.is; generalize xw.w = w2 at hb2 ⊢; clear xw)
    obtain ⟨hp, x0, x1, x2, f1, f2, hcode, hne⟩ := HC.out.below hb2
    have hcc := (hb2.cell (p := ⟨b, off + k, none⟩) hb).trans hcc
    have hb := Nat.lt_of_lt_of_le hb hb2.size
    clear hcode hne
    go_wp2_with fail
    (refine wp_region_calm (by kernel_rfl) (by kernel_rfl) ?_; (repeat (go_big_quiet_step ((fail)))); refine wpQuiet_nil ?_; intro xw; have hb3 := xw.is; generalize xw.w = w3 at hb3 ⊢; clear xw)
    obtain ⟨hp, x0, x1, x2, f1, f2, hcode, hne⟩ := HC.out.below (bstep hb2 hb3)
    clear hcode hne
    go_wp2_with fail
    generalize IntKind.u64.wrap (IntKind.u64.wrap (IntKind.u64.wrap (s * 6364136223846793005) + v) + 101717) = s'
    have HC4 := Lib.hid ((HC.out.below (bstep hb2 hb3)).step (k + 1) s')
    have hg4 := Lib.hid (only_two (only_of_below (bstep hb2 hb3) (some p)) (only_steps w3 p (.int .i64 ((k + 1 : Nat) : Int)) (.int .u64 s')))
    have ek : ((k + 1 : Nat) : Int) = (k : Int) + 1 := by omega
    rw [ek] at HC4 hg4
    clear x0 x1 x2 f1 f2 hp hcc hb
    generalize (w3.setCell ⟨p, 1, none⟩ (.int .i64 ((k : Int) + 1))).setCell ⟨p, 2, none⟩ (.int .u64 s') = w4 at HC4 hg4 ⊢
    obtain ⟨hp, x0, x1, x2, f1, f2, hcode, hne⟩ := HC4.out
    rw [ek] at x1
    have g1 : (k : Int) + 1 ≤ (n : Int) := by omega
    clear hcode hne
    (refine wp_region_calm (by kernel_rfl) (by kernel_rfl) ?_; (repeat (go_big_quiet_step ((fail)))); refine wpQuiet_nil ?_; intro xw; have hb5 := xw.is; generalize xw.w = w5 at hb5 ⊢; clear xw)
    go_wp2_with fail
    go_ret
    exact ⟨v, rfl, ⟨h0, h1⟩, ⟨s', HC4.out.below hb5⟩, only_two hg4.out (only_of_below hb5 _)⟩
  · have k1 : ¬ (k : Int) < (n : Int) := by omega
    clear hcode hne
    go_enter Tryz.func85, Tryz.ntmps85
    go_wp2_with fail
    (refine wp_region_calm (by kernel_rfl) (by kernel_rfl) ?_; (repeat (go_big_quiet_step ((fail)))); refine wpQuiet_nil ?_; intro xw; have hb2 := xw.is; generalize xw.w = w2 at hb2 ⊢; clear xw)
    obtain ⟨hp, x0, x1, x2, f1, f2, hcode, hne⟩ := HC.out.below hb2
    clear hcode hne
    go_wp2_with fail
    generalize IntKind.u64.wrap (IntKind.u64.wrap (IntKind.u64.wrap (s * 6364136223846793005)) + 101717) = s'
    have HC4 := Lib.hid ((HC.out.below hb2).step (k + 1) s')
    have hg4 := Lib.hid (only_two (only_of_below hb2 (some p)) (only_steps w2 p (.int .i64 ((k + 1 : Nat) : Int)) (.int .u64 s')))
    have ek : ((k + 1 : Nat) : Int) = (k : Int) + 1 := by omega
    rw [ek] at HC4 hg4
    clear x0 x1 x2 f1 f2 hp
    generalize (w2.setCell ⟨p, 1, none⟩ (.int .i64 ((k : Int) + 1))).setCell ⟨p, 2, none⟩ (.int .u64 s') = w4 at HC4 hg4 ⊢
    obtain ⟨hp, x0, x1, x2, f1, f2, hcode, hne⟩ := HC4.out
    rw [ek] at x1
    have g1 : ¬ (k : Int) + 1 ≤ (n : Int) := by omega
    clear hcode hne
    (refine wp_region_calm (by kernel_rfl) (by kernel_rfl) ?_; (repeat (go_big_quiet_step ((fail)))); refine wpQuiet_nil ?_; intro xw; have hb5 := xw.is; generalize xw.w = w5 at hb5 ⊢; clear xw)
    obtain ⟨hp, x0, x1, x2, f1, f2, hcode, hne⟩ := HC4.out.below hb5
    clear hcode hne
    have hwa : ∀ z, IntKind.i64.wrap (bits BinOp.and IntKind.u64 z 255) = bits BinOp.and IntKind.u64 z 255 := fun z => by
      have := and_low z
      rw [IntKind.wrap_i64]; omega
    go_wp2_with fail
    go_ret
    exact ⟨_, rfl, and_low _, ⟨s', HC4.out.below hb5⟩, only_two hg4.out (only_of_below hb5 _)⟩
/-- The contract's last part: the draws went on, and only the draws' own struct was changed. -/
def Went (w w' : World) (p : Nat) (A : Option Addr) (n c k d : Nat) : Prop := (∃ k', k ≤ k' ∧ k' ≤ k + d ∧ CurK w' p A n c k') ∧ w.grownBy w' (some p)
theorem RowAt.far {α : Type} {enc : α → List Value} {K : Nat} {w w' : World} {B : Option Addr} {l : List α} {row : Option Nat} (h : RowAt K enc w B l) (hg : w.grownBy w' row) (hne : ∀ b off, B = some ⟨b, off, none⟩ → some b ≠ row) : RowAt K enc w' B l := fun hl => by
  obtain ⟨b, off, e, hb, hc⟩ := h hl
  exact ⟨b, off, e, Nat.lt_of_lt_of_le hb hg.size, fun i m hi j u hj => (hg.cell_far _ hb (hne b off e)).trans (hc i m hi j u hj)⟩
set_option maxRecDepth 100000 in
set_option maxHeartbeats 4000000 in
theorem pick_any (p : Nat) (A : Option Addr) (n c k : Nat) (m : Int) (w : World) (h : CurK w p A n c k) (hk : k ≤ 900000) (hn : n ≤ 9223372036854775807) (hm : 0 ≤ m ∧ m ≤ 60000) :
    Calls Tryz.prog 58 #[.pointer (some ⟨p, 0, none⟩), .int .i64 m] w fun e w' => ∃ r : Int, e = .returned (.int .i64 r) ∧ (0 ≤ r ∧ (r = 0 ∨ r < m)) ∧ Went w w' p A n c k 2 := by
  obtain ⟨s, h⟩ := h
  have HC := Lib.hid h
  clear h
  by_cases h1 : m ≤ 1
  · go_enter Tryz.func58, Tryz.ntmps58
    go_wp2_with fail
    go_ret
    exact ⟨0, rfl, ⟨by omega, .inl rfl⟩, ⟨k, Nat.le_refl _, by omega, s, HC.out⟩, World.grownBy.refl _ _⟩
  · have H1 := Lib.hid (next_any p A n c k s w HC.out (by omega) hn)
    have H2 := Lib.hid (fun (W : World) s' (hW : Cur W p A n c (k + 1) s') => next_any p A n c (k + 1) s' W hW (by omega) hn)
    have hm0 : m ≠ 0 := by omega
    by_cases h2 : m > 200
    · go_enter Tryz.func58, Tryz.ntmps58
      go_wp2_with (go_at_call 85; first | (with_reducible refine H1.out.mono ?_; rintro e w1 ⟨r1, rfl, hr1, hs1, hg1⟩; have HS1 := Lib.hid hs1; clear hs1) | (obtain ⟨s1, hc1⟩ := HS1.out; with_reducible refine (H2.out w1 s1 hc1).mono ?_; rintro e w2 ⟨r2, rfl, hr2, hs2, hg2⟩; have HS2 := Lib.hid hs2; clear hs2; have hq : (0 : Int) ≤ r1 * 256 + r2 := (by omega); have hq0 := Int.emod_nonneg (r1 * 256 + r2) hm0; have hq1 := Int.emod_lt_of_pos (r1 * 256 + r2) (show 0 < m by omega)))
      go_ret
      obtain ⟨s2, hc2⟩ := HS2.out
      exact ⟨_, rfl, ⟨hq0, .inr hq1⟩, ⟨k + 1 + 1, by omega, by omega, s2, hc2⟩, only_two hg1 hg2⟩
    · go_enter Tryz.func58, Tryz.ntmps58
      go_wp2_with (go_at_call 85; with_reducible refine H1.out.mono ?_; rintro e w1 ⟨r1, rfl, hr1, hs1, hg1⟩; have HS1 := Lib.hid hs1; clear hs1; have hq0 := Int.emod_nonneg r1 hm0; have hq1 := Int.emod_lt_of_pos r1 (show 0 < m by omega))
      go_ret
      obtain ⟨s1, hc1⟩ := HS1.out
      exact ⟨_, rfl, ⟨hq0, .inr hq1⟩, ⟨k + 1, by omega, by omega, s1, hc1⟩, hg1⟩
set_option maxRecDepth 100000 in
set_option maxHeartbeats 1000000 in
theorem one_any (p : Nat) (A : Option Addr) (n c k : Nat) (m : Int) (w : World) (h : CurK w p A n c k) (hk : k ≤ 900000) (hn : n ≤ 9223372036854775807) (hm : 0 ≤ m ∧ m ≤ 60000) :
    Calls Tryz.prog 54 #[.pointer (some ⟨p, 0, none⟩), .int .i64 m] w fun e w' => ∃ b : Bool, e = .returned (.bool b) ∧ Went w w' p A n c k 2 := by
  have HP := Lib.hid (pick_any p A n c k m w h hk hn hm)
  clear h
  go_enter Tryz.func54, Tryz.ntmps54
  go_wp2_with (go_at_call 58; (with_reducible refine (HP.out).mono ?_); rintro e w1 ⟨r, rfl, hr, hw⟩)
  go_ret
  exact ⟨_, rfl, hw⟩
set_option maxRecDepth 100000 in
set_option maxHeartbeats 2000000 in
theorem among_any (p : Nat) (A : Option Addr) (n c k : Nat) (l : List Int) (B : Option Addr) (cb : Nat) (w : World) (h : CurK w p A n c k) (hk : k ≤ 900000) (hn : n ≤ 9223372036854775807) (hr : RowAt 1 encI w B l) (hB : ∀ b off, B = some ⟨b, off, none⟩ → b ≠ p) (hl : 0 < l.length) (hl2 : l.length ≤ 1000) :
    Calls Tryz.prog 25 #[.pointer (some ⟨p, 0, none⟩), .slice B l.length cb] w fun e w' => ∃ v : Int, e = .returned (.int .i64 v) ∧ v ∈ l ∧ Went w w' p A n c k 2 := by
  have HP := Lib.hid (pick_any p A n c k (l.length : Int) w h hk hn (by omega))
  have HR := Lib.hid (fun (w' : World) (hg : w.grownBy w' (some p)) => hr.far hg (fun b off e e2 => hB b off e (by simpa using e2)))
  clear h hr hB
  go_enter Tryz.func25, Tryz.ntmps25
  go_wp2_with (go_at_call 58; (with_reducible refine (HP.out).mono ?_); rintro e w1 ⟨r, rfl, hr, hw⟩; have HW := Lib.hid hw; clear hw; obtain ⟨i, rfl⟩ : ∃ i : Nat, r = (i : Int) := ⟨r.toNat, by omega⟩; have hil : i < l.length := (by omega); obtain ⟨v, hv⟩ := some_get hil; obtain ⟨b, off, e9, hb, q0⟩ := (HR.out w1 HW.out.2).i hv; subst e9; have i0 := ib0 i; have i1 := ib1 hil; have HM := Lib.hid (List.mem_of_getElem? hv); clear hv)
  go_ret
  exact ⟨_, rfl, HM.out, HW.out⟩
end Go.Proofs.YtaobbkiepggafaaGreat

/-
  The draws, as steps: Dr w0 w K says that from w0 to w only the draws' struct was changed and that at most K bytes were asked.
-/
namespace Go.Proofs.YtaobbkiepggafaaGreat
set_option linter.unusedVariables false
set_option linter.unusedSimpArgs false
set_option linter.unnecessarySimpa false
open Go.RowKit
attribute [local go_sem] ext_cell ext_frozen

def Dr (w0 w : World) (p : Nat) (A : Option Addr) (n c K : Nat) : Prop := (∃ k, k ≤ K ∧ CurK w p A n c k) ∧ w0.grownBy w (some p)
theorem CurK.below {w w' : World} {p : Nat} {A : Option Addr} {n c k : Nat} (h : CurK w p A n c k) (hb : Below w.heap.size w w') : CurK w' p A n c k := by
  obtain ⟨s, h⟩ := h
  exact ⟨s, h.below hb⟩
theorem Dr.below {w0 w w' : World} {p : Nat} {A : Option Addr} {n c K : Nat} (h : Dr w0 w p A n c K) (hb : Below w.heap.size w w') : Dr w0 w' p A n c K := by
  obtain ⟨⟨k, h1, h2⟩, h3⟩ := h
  exact ⟨⟨k, h1, h2.below hb⟩, only_two h3 (only_of_below hb _)⟩
theorem Dr.alloc {w0 w : World} {p : Nat} {A : Option Addr} {n c K : Nat} (h : Dr w0 w p A n c K) (o : Obj) : Dr w0 (w.alloc o) p A n c K := h.below (balloc (bref w) o)
theorem Dr.self {w0 w : World} {p : Nat} {A : Option Addr} {n c K : Nat} (h : Dr w0 w p A n c K) : Dr w w p A n c K := ⟨h.1, World.grownBy.refl _ _⟩
theorem Dr.comp {w0 w w' : World} {p : Nat} {A : Option Addr} {n c K K' : Nat} (h : Dr w0 w p A n c K) (h2 : Dr w w' p A n c K') : Dr w0 w' p A n c K' := ⟨h2.1, only_two h.2 h2.2⟩
theorem Dr.went {w0 w w' : World} {p : Nat} {A : Option Addr} {n c K k d : Nat} (h0 : w0.grownBy w (some p)) (hk : k ≤ K) (h : Went w w' p A n c k d) : Dr w0 w' p A n c (K + d) := by
  obtain ⟨⟨k', h1, h2, h3⟩, h4⟩ := h
  exact ⟨⟨k', by omega, h3⟩, only_two h0 h4⟩
theorem pick_dr {w0 : World} {p : Nat} {A : Option Addr} {n c K : Nat} (m : Int) (w : World) (h : Dr w0 w p A n c K) (hk : K ≤ 900000) (hn : n ≤ 9223372036854775807) (hm : 0 ≤ m ∧ m ≤ 60000) :
    Calls Tryz.prog 58 #[.pointer (some ⟨p, 0, none⟩), .int .i64 m] w fun e w' => ∃ r : Int, e = .returned (.int .i64 r) ∧ (0 ≤ r ∧ (r = 0 ∨ r < m)) ∧ Dr w0 w' p A n c (K + 2) ∧ w.grownBy w' (some p) := by
  obtain ⟨⟨k, h1, h2⟩, h3⟩ := h
  refine (pick_any p A n c k m w h2 (by omega) hn hm).mono ?_
  rintro e w' ⟨r, he, hr, hw⟩
  exact ⟨r, he, hr, Dr.went h3 h1 hw, hw.2⟩
theorem one_dr {w0 : World} {p : Nat} {A : Option Addr} {n c K : Nat} (m : Int) (w : World) (h : Dr w0 w p A n c K) (hk : K ≤ 900000) (hn : n ≤ 9223372036854775807) (hm : 0 ≤ m ∧ m ≤ 60000) :
    Calls Tryz.prog 54 #[.pointer (some ⟨p, 0, none⟩), .int .i64 m] w fun e w' => ∃ b : Bool, e = .returned (.bool b) ∧ Dr w0 w' p A n c (K + 2) ∧ w.grownBy w' (some p) := by
  obtain ⟨⟨k, h1, h2⟩, h3⟩ := h
  refine (one_any p A n c k m w h2 (by omega) hn hm).mono ?_
  rintro e w' ⟨b, he, hw⟩
  exact ⟨b, he, Dr.went h3 h1 hw, hw.2⟩
/-- among, asked with a row that was just made. -/
theorem among_dr {w0 : World} {p : Nat} {A : Option Addr} {n c K : Nat} (l : List Int) (m cb g : Nat) (w : World) (h : Dr w0 w p A n c K) (hk : K ≤ 900000) (hn : n ≤ 9223372036854775807) (hrow : RowAt 1 encI w (some ⟨g, 0, none⟩) l) (hg : g ≠ p) (hl : l.length = m) (hl1 : 0 < m) (hl2 : m ≤ 1000) :
    Calls Tryz.prog 25 #[.pointer (some ⟨p, 0, none⟩), .slice (some ⟨g, 0, none⟩) m cb] w fun e w' => ∃ v : Int, e = .returned (.int .i64 v) ∧ v ∈ l ∧ Dr w0 w' p A n c (K + 2) ∧ w.grownBy w' (some p) := by
  subst hl
  obtain ⟨⟨k, h1, h2⟩, h3⟩ := h
  refine (among_any p A n c k l (some ⟨g, 0, none⟩) cb w h2 (by omega) hn hrow (fun b off e => by cases e; exact hg) hl1 hl2).mono ?_
  rintro e w' ⟨v, he, hv, hw⟩
  exact ⟨v, he, hv, Dr.went h3 h1 hw, hw.2⟩
theorem Dr.lt {w0 w : World} {p : Nat} {A : Option Addr} {n c K : Nat} (h : Dr w0 w p A n c K) : p < w.heap.size := by
  obtain ⟨⟨k, _, s, h2⟩, _⟩ := h
  exact h2.1
end Go.Proofs.YtaobbkiepggafaaGreat

/-
  The draws, shared by the modules: blocks of four cells, rows that stay, a cursor just made.
-/
namespace Go.Proofs.YtaobbkiepggafaaGreat
set_option linter.unusedVariables false
set_option linter.unusedSimpArgs false
set_option linter.unnecessarySimpa false
open Go.RowKit
attribute [local go_sem] ext_cell ext_frozen

theorem cells4 {w : World} {g : Nat} {a b c d : Value} {E : TypeId} (h : w.heap[g]? = some (.cells #[a, b, c, d] E (0, 0))) :
    w.cell? ⟨g, 0, none⟩ = some a ∧ w.cell? ⟨g, 1, none⟩ = some b ∧ w.cell? ⟨g, 2, none⟩ = some c ∧ w.cell? ⟨g, 3, none⟩ = some d ∧ w.frozen? ⟨g, 0, none⟩ = false ∧ w.frozen? ⟨g, 1, none⟩ = false ∧ w.frozen? ⟨g, 2, none⟩ = false ∧ w.frozen? ⟨g, 3, none⟩ = false :=
  ⟨by rw [cell_of_row w g _ _ E (0, 0) h]; rfl, by rw [cell_of_row w g _ _ E (0, 0) h]; rfl, by rw [cell_of_row w g _ _ E (0, 0) h]; rfl, by rw [cell_of_row w g _ _ E (0, 0) h]; rfl, by simp [World.frozen?, h], by simp [World.frozen?, h], by simp [World.frozen?, h], by simp [World.frozen?, h]⟩
theorem blk_kept {w w' : World} {g : Nat} {o : Obj} {row : Option Nat} (h : w.heap[g]? = some o) (hg : w.grownBy w' row) (hne : some g ≠ row) : w'.heap[g]? = some o :=
  (hg.block g (Array.getElem?_eq_some_iff.1 h).1 hne).trans h
theorem blk_alloc {w : World} {g : Nat} {o : Obj} (h : w.heap[g]? = some o) (o2 : Obj) : (w.alloc o2).heap[g]? = some o :=
  blk_kept h (only_alloc (World.grownBy.refl w none) o2) (by simp)
theorem only_above {w w6 W : World} {r : Option Nat} (h : w.grownBy w6 r) (hb : Below w.heap.size w6 W) : w.grownBy W r :=
  ⟨hb.os.trans h.os, hb.tape.trans h.tape, hb.output.trans h.output, Nat.le_trans h.size hb.size, fun i hi hne => (hb.block i hi).trans (h.block i hi hne)⟩
theorem Dr.above {w0 w w6 W : World} {p : Nat} {A : Option Addr} {n c K K' : Nat} (h : Dr w0 w p A n c K) (h6 : Dr w0 w6 p A n c K') (hb : Below w.heap.size w6 W) : Dr w0 W p A n c K' := by
  obtain ⟨⟨k, h1, s, h2⟩, h3⟩ := h6
  obtain ⟨⟨k0, _, s0, hp0, _, _, _, _, _, hc0, _⟩, h03⟩ := h
  obtain ⟨hp, x0, x1, x2, f1, f2, hc, hne⟩ := h2
  refine ⟨⟨k, h1, s, Nat.lt_of_lt_of_le hp hb.size, (hb.cell (p := ⟨p, 0, none⟩) hp0).trans x0, (hb.cell (p := ⟨p, 1, none⟩) hp0).trans x1, (hb.cell (p := ⟨p, 2, none⟩) hp0).trans x2, (hb.frozen (p := ⟨p, 1, none⟩) hp0).trans f1, (hb.frozen (p := ⟨p, 2, none⟩) hp0).trans f2, fun j hj => ?_, hne⟩, only_above h3 (hb.mono h03.size)⟩
  obtain ⟨b, off, v, e, hb1, hcc, h0⟩ := hc j hj
  obtain ⟨b', off', v', e', hb', _⟩ := hc0 j hj
  rw [e] at e'
  cases e'
  exact ⟨b, off, v, e, Nat.lt_of_lt_of_le hb1 hb.size, (hb.cell (p := ⟨b, off + j, none⟩) hb').trans hcc, h0⟩
theorem set4 {w : World} {g : Nat} {a b c d : Value} (a' b' c' d' : Value) (h0 : w.cell? ⟨g, 0, none⟩ = some a) (h1 : w.cell? ⟨g, 1, none⟩ = some b) (h2 : w.cell? ⟨g, 2, none⟩ = some c) (h3 : w.cell? ⟨g, 3, none⟩ = some d) :
    ((((w.setCell ⟨g, 0, none⟩ a').setCell ⟨g, 1, none⟩ b').setCell ⟨g, 2, none⟩ c').setCell ⟨g, 3, none⟩ d').cell? ⟨g, 0, none⟩ = some a' ∧ ((((w.setCell ⟨g, 0, none⟩ a').setCell ⟨g, 1, none⟩ b').setCell ⟨g, 2, none⟩ c').setCell ⟨g, 3, none⟩ d').cell? ⟨g, 1, none⟩ = some b' ∧ ((((w.setCell ⟨g, 0, none⟩ a').setCell ⟨g, 1, none⟩ b').setCell ⟨g, 2, none⟩ c').setCell ⟨g, 3, none⟩ d').cell? ⟨g, 2, none⟩ = some c' ∧ ((((w.setCell ⟨g, 0, none⟩ a').setCell ⟨g, 1, none⟩ b').setCell ⟨g, 2, none⟩ c').setCell ⟨g, 3, none⟩ d').cell? ⟨g, 3, none⟩ = some d' := by
  refine ⟨?_, ?_, ?_, ?_⟩
  · rw [World.cell?_setCell_other, World.cell?_setCell_other, World.cell?_setCell_other, World.cell?_setCell_same _ _ _ h0] <;> simp
  · rw [World.cell?_setCell_other, World.cell?_setCell_other, World.cell?_setCell_same _ _ _ (show (w.setCell ⟨g, 0, none⟩ a').cell? ⟨g, 1, none⟩ = some b by rw [World.cell?_setCell_other, h1]; simp)] <;> simp
  · rw [World.cell?_setCell_other, World.cell?_setCell_same _ _ _ (show ((w.setCell ⟨g, 0, none⟩ a').setCell ⟨g, 1, none⟩ b').cell? ⟨g, 2, none⟩ = some c by rw [World.cell?_setCell_other, World.cell?_setCell_other, h2] <;> simp)]; simp
  · rw [World.cell?_setCell_same _ _ _ (show (((w.setCell ⟨g, 0, none⟩ a').setCell ⟨g, 1, none⟩ b').setCell ⟨g, 2, none⟩ c').cell? ⟨g, 3, none⟩ = some d by rw [World.cell?_setCell_other, World.cell?_setCell_other, World.cell?_setCell_other, h3] <;> simp)]
theorem set_far {w : World} {g g' o o' : Nat} {a v : Value} (h : w.cell? ⟨g, o, none⟩ = some a) (hne : g ≠ g') : (w.setCell ⟨g', o', none⟩ v).cell? ⟨g, o, none⟩ = some a := by
  rw [World.cell?_setCell_other, h]
  intro e; simp only [Addr.mk.injEq] at e; exact hne e.1.symm
theorem Dr.more {w0 w : World} {p : Nat} {A : Option Addr} {n c K K' : Nat} (h : Dr w0 w p A n c K) (hK : K ≤ K') : Dr w0 w p A n c K' := by
  obtain ⟨⟨k, h1, h2⟩, h3⟩ := h
  exact ⟨⟨k, Nat.le_trans h1 hK, h2⟩, h3⟩

theorem own_dr {w w' : World} {p base E K n c : Nat} {A : Option Addr} {xs : List Value} (h : w.ownsRow base E K (.slice A n c) n xs) (hg : w.grownBy w' (some p)) (hp : p < base) : w'.ownsRow base E K (.slice A n c) n xs := by
  refine h.kept hg ?_
  cases e : (Value.slice A n c).ownBlock with
  | none => exact .inl rfl
  | some q =>
    right
    intro e2
    have h1 := h.lt q e
    cases e2
    omega

def slLen : Value → Nat
  | .slice _ n _ => n
  | _ => 0
/-- A cursor that was just made. -/
theorem dr_new {w : World} {A : Option Addr} {n c : Nat} {E : TypeId} (h : CodeAt w A n) :
    Dr (w.alloc (.cells #[.slice A n c, .int .i64 0, .int .u64 0] E)) (w.alloc (.cells #[.slice A n c, .int .i64 0, .int .u64 0] E)) w.heap.size A n c 0 := by
  have hb := heap_new1 w (.cells #[.slice A n c, .int .i64 0, .int .u64 0] E)
  have hB := balloc (bref w) (.cells #[.slice A n c, .int .i64 0, .int .u64 0] E)
  have hs : w.heap.size < (w.alloc (.cells #[.slice A n c, .int .i64 0, .int .u64 0] E)).heap.size := by simp
  generalize w.alloc (.cells #[.slice A n c, .int .i64 0, .int .u64 0] E) = w1 at hb hB hs ⊢
  refine ⟨⟨0, Nat.le_refl _, 0, hs, ?_, ?_, ?_, ?_, ?_, h.grown (only_of_below hB none) (fun _ _ _ e => by cases e), fun h0 b off e => ?_⟩, World.grownBy.refl _ _⟩
  · rw [cell_of_row w1 _ _ _ E (0, 0) hb]; rfl
  · rw [cell_of_row w1 _ _ _ E (0, 0) hb]; rfl
  · rw [cell_of_row w1 _ _ _ E (0, 0) hb]; rfl
  · simp [World.frozen?, hb]
  · simp [World.frozen?, hb]
  · obtain ⟨b', off', v, e', hb', _⟩ := h 0 h0
    rw [e'] at e
    cases e
    omega
/-- What was changed in a new block only was changed in no old one. -/
theorem below_new {w w' : World} {o : Obj} (h : (w.alloc o).grownBy w' (some w.heap.size)) : Below w.heap.size w w' :=
  bgrown (balloc (bref w) o) h (fun k hk => by cases hk; exact Nat.le_refl _)
end Go.Proofs.YtaobbkiepggafaaGreat

/-
  An argument that is a slice of bytes, opened to what the draws read.
-/
namespace Go.Proofs.YtaobbkiepggafaaGreat
set_option linter.unusedVariables false
set_option linter.unusedSimpArgs false
set_option linter.unnecessarySimpa false
open Go.RowKit Go.WideShapes Go.ChangeShapes Go.ChangeAt

set_option maxRecDepth 100000 in
theorem rowU8 {H : Type} {enc : TypeId × Value → H} {W : World} {base : Nat} {v : Value} {d : DataW H} {p : List MemPlace} (hok : Value.okWide Tryz.prog W .any base 22 v)
    (h : DataW.Trod enc Tryz.prog W 0 (fun _ => true) true 22 v d p) : ∃ (A : Option Addr) (n c : Nat), v = .slice A n c ∧ CodeAt W A n ∧ n ≤ 9223372036854775807 := by
  have hI : Tryz.prog.cellsOf 5 = 1 := by kernel_rfl
  obtain ⟨a0, len, cap, rfl⟩ := okWide_slice Tryz.underlying22 hok
  obtain ⟨fuel, hf⟩ := h
  rcases Go.Deep.open_slice Tryz.underlying22 hf with ⟨hcs, hx⟩ | ⟨a, len', cap', m, n, D, Pl, hcs, _, hl, hm, hmm, hx, hi⟩
  · simp [Value.cells] at hcs
    obtain ⟨rfl, rfl, rfl⟩ := hcs
    exact ⟨none, 0, 0, rfl, fun k hk => absurd hk (by omega), by simp⟩
  · simp [Value.cells] at hcs
    obtain ⟨rfl, rfl, rfl⟩ := hcs
    rw [if_pos rfl] at hmm
    refine ⟨some a, len, cap, rfl, fun k hk => ?_, by unfold maxLen at hm; omega⟩
    obtain ⟨cs0, hc0, _⟩ := hi 0 (by omega)
    rw [hI] at hc0
    obtain ⟨_, hcl0, hat0⟩ := World.cells?_some hc0
    obtain ⟨cs', hc, ht⟩ := hi k (by omega)
    rw [hI] at hc
    obtain ⟨_, hcl, hat⟩ := World.cells?_some hc
    match cs', hcl, cs0, hcl0 with
    | [c0], _, [c00], _ =>
      obtain ⟨x0, e0, _, w0⟩ := DataW.trod_int Tryz.underlying5 ht
      simp only [List.cons.injEq, and_true] at e0
      have k0 := hat 0 (by omega)
      rw [Go.Deep.add_add] at k0
      have k1 : W.cell? (a.add (k * 1 + 0)) = some (.int .u8 x0) := by rw [k0, e0]; rfl
      have z0 := hat0 0 (by omega)
      rw [Go.Deep.add_add] at z0
      have z1 : W.cell? (a.add (0 * 1 + 0)) = some c00 := by rw [z0]; rfl
      have b0 : 0 ≤ x0 ∧ x0 ≤ 255 := by
        simp [Lit.wf, IntKind.min, IntKind.max, IntKind.signed, IntKind.bits] at w0
        omega
      obtain ⟨b, off, spot⟩ := a
      have hspot : spot = none := by simpa [Addr.add] using World.cell?_spot z1
      subst hspot
      rw [Addr.add_lit] at k1
      refine ⟨b, off, x0, rfl, World.block_lt_of_cell? W ⟨b, off + (k * 1 + 0), none⟩ k1, ?_, b0⟩
      simpa using k1
theorem CodeAt.below {w w' : World} {A : Option Addr} {n : Nat} (h : CodeAt w A n) (hb : Below w.heap.size w w') : CodeAt w' A n := h.grown (only_of_below hb none) (fun _ _ _ e => by cases e)
end Go.Proofs.YtaobbkiepggafaaGreat
