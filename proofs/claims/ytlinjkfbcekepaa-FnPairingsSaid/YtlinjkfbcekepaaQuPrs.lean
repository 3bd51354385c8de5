/-
  spec.l16Pairs: the longest pairing, read out of the table.
-/
import Derived.Test.YtlinjkfbcekepaaQuNxt
namespace Go.Proofs.Ytlinjkfbcekepaa
set_option linter.unusedVariables false
set_option linter.unusedSimpArgs false
set_option linter.unnecessarySimpa false
open Go.RowKit
attribute [local go_sem] ext_cell ext_frozen

def pr2 (p : Nat × Nat) : P2 := ⟨(p.1 : Int), (p.2 : Int)⟩
def lpP (a b : List Qu) (t f : Int) (i k : Nat) : List P2 := (lpG (pB a b t f) a.length b.length i k).map pr2
theorem lpP_len (a b : List Qu) (t f : Int) (i k : Nat) : (lpP a b t f i k).length ≤ a.length := by
  unfold lpP lpG
  have := lpG_len (pB a b t f) a.length b.length (a.length - i) k
  simp; omega

theorem TabAt.below {w w' : World} {base g n m : Nat} {T : Nat → Nat → Int} (h : TabAt w base g n m T) (hb : Below w.heap.size w w') : TabAt w' base g n m T := by
  obtain ⟨R, h1, h2⟩ := h
  exact ⟨R, h1.below hb, h2.below hb⟩

set_option maxRecDepth 100000 in
set_option maxHeartbeats 4000000 in
theorem l16Pairs_any (a b : List Qu) (A B : Option Addr) (ca cb : Nat) (t f : Int) (w : World) (ha : RowAt 4 encQu w A a) (hb : RowAt 4 encQu w B b) (hla : a.length ≤ 10) (hlb : b.length ≤ 10) (hga : ∀ m ∈ a, oneQu m = true) (hgb : ∀ m ∈ b, oneQu m = true) (hw : winB t f = true) :
    Calls Try.prog 67 #[.slice A a.length ca, .slice B b.length cb, .int .i64 t, .int .i64 f] w (MkS 66 2 (lpP a b t f 0 0).length ((lpP a b t f 0 0).flatMap encP2) w) := by
  have HA := Lib.hid ha
  have HB := Lib.hid hb
  have HGA := Lib.hid hga
  have HGB := Lib.hid hgb
  have HW := Lib.hid hw
  clear ha hb hga hgb hw
  go_enter Try.func67, Try.ntmps67
  go_wp2_with (go_at_call 99; (with_reducible refine (l16Lengths_any a b _ _ _ _ t f _ HA.out HB.out hla hlb HGA.out HGB.out HW.out).mono ?_); rintro e w1 ⟨g, cg, rfl, hT, hg, hb1⟩)
  have HT := Lib.hid hT
  clear hT
  go_loopw [10, 11, 12] (fun o iv kv wr => ∃ (i k : Nat) (D : List P2) (A' : Option Addr) (c' : Nat), i ≤ a.length ∧ k ≤ b.length ∧ iv = .int .i64 i ∧ kv = .int .i64 k ∧ o = .slice A' D.length c' ∧ D.length ≤ i ∧ Hid (lpP a b t f 0 0 = D ++ lpP a b t f i k) ∧ Below w.heap.size w wr ∧ Below w1.heap.size w1 wr ∧ Hid (wr.ownsRow w1.heap.size 66 2 (.slice A' D.length c') D.length (D.flatMap encP2))) (fun _ i _ _ => a.length - (intOf i).toNat)
  case atStart => exact ⟨0, 0, [], some ⟨w1.heap.size, 0, none⟩, 0, Nat.zero_le _, Nat.zero_le _, rfl, rfl, rfl, Nat.le_refl _, Lib.hid (by simp), balloc hb1 _, balloc (bref _) _, Lib.hid (own_made (cur := #[]) rfl (Nat.zero_le _))⟩
  case round =>
    obtain ⟨i, k, D, A', c', hi, hk, rfl, rfl, rfl, hD, HD, hbr, hb2, HO⟩ := hrel
    have hs1 := hb1.size
    have hs2 := hb2.size
    obtain ⟨R, hO, hR⟩ := HT.out.below hb2
    have hgz := hO.1
    have y0 : wr.cell? ⟨g, i, none⟩ = some (.slice (some ⟨R i, 0, none⟩) (b.length + 1) (b.length + 1)) := (hO.2 i (by omega)).1
    have z0 := ((hR.1 i (by omega)).2.2 k (by omega)).1
    have hz0 := (hR.1 i (by omega)).2.1
    have b2 := lpL_nn (pB a b t f) a.length b.length i k
    have hi1 : (i : Int) < (a.length : Int) + 1 := by omega
    have hk1 : (k : Int) < (b.length : Int) + 1 := by omega
    have ii0 := ib0 i
    have kk0 := ib0 k
    clear hO hR
    by_cases hp : 0 < lpL (pB a b t f) a.length b.length i k
    · have HN := Lib.hid (l16Next_any a b A B ca cb t f g cg w.heap.size i k wr (HA.out.below hbr) (HB.out.below hbr) hla hlb HGA.out HGB.out HW.out (HT.out.below hb2) hi hk hp)
      generalize lpL (pB a b t f) a.length b.length i k = v at z0 b2 hp
      go_wp2_with (first | (go_at_call 100; (with_reducible refine (HN.out).mono ?_); rintro e w4 ⟨x, y, rfl, HX, hb4⟩; have hx1 := HX.1; have hx2 := HX.2.1; have hy1 := HX.2.2.1; have hy2 := HX.2.2.2.1; have HX := Lib.hid HX) | (at_builtin; refine wpList_app rfl _ _ 34 66 2 16 _ rfl Try.underlying34 infoP2 rfl (by decide) w1.heap.size _ D.length _ (by rfl) ((own_below HO.out hb4).alloc _) _ _ (by rfl) (heap_new1 _ _) rfl (encP2_one ⟨(x : Int), (y : Int)⟩) (by omega) (by decide) (by have := hb4.size; simp; omega) ?_; intro g5 c5 w5 ho5 hg5 hl5))
      go_roundw
      case rel =>
        obtain ⟨e1, e2⟩ := nxt_G HX.out
        exact ⟨x + 1, y + 1, D ++ [⟨(x : Int), (y : Int)⟩], some ⟨g5, 0, none⟩, c5, by omega, by omega, by go_num, by go_num, by simp, by simp; omega, Lib.hid (by rw [HD.out]; unfold lpP; rw [e1]; simp [pr2]), bgrown (balloc (bstep hbr hb4) _) hg5 (fun k hk => Nat.le_trans hs1 (row_mine HO.out k hk)), bgrown (balloc (bstep hb2 hb4) _) hg5 (fun k hk => row_mine HO.out k hk), Lib.hid (by simpa [encP2] using ho5)⟩
      case measure => simp [intOf]; omega
    · have HF := Lib.hid (show lpP a b t f 0 0 = D by
        rw [HD.out]; unfold lpP; rw [lpG_zero _ _ _ _ i k (Nat.le_refl _) (by omega)]; simp)
      generalize lpL (pB a b t f) a.length b.length i k = v at z0 b2 hp
      go_wp2_with fail
      go_ret
      rw [HF.out]
      exact ⟨A', c', rfl, own_base HO.out hs1, hbr⟩
end Go.Proofs.Ytlinjkfbcekepaa
