/-
  The motions that a plane with a polarity does not explain: impl filters them, spec lists their stations.
-/
import Derived.Test.YtefofllkeghfnaaMoFilter
import Derived.Test.YtefofllkeghfnaaMoGood
import Derived.Test.YtefofllkeghfnaaMoQuad
import Derived.Test.YtefofllkeghfnaaInts1
namespace Go.Proofs.Ytefofllkeghfnaa
open Go.RowKit
attribute [local go_sem] ext_cell ext_frozen

def missP (p q : Int) (m : Mo) : Bool := quadMo m.x m.y p != 0 && m.sg != quadMo m.x m.y p * q
theorem quadMo_three (x y p : Int) : quadMo x y p = 0 ∨ quadMo x y p = 1 ∨ quadMo x y p = -1 := by
  have h := (sgn_bounds (leftMo x y p) (otherMo x y p)).2
  unfold quadMo
  omega

set_option maxHeartbeats 2000000 in
theorem missClos_any (p q : Int) (m : Mo) (b1 b2 : Nat) (w : World) (hm : oneMo m.st m.x m.y m.sg = true) (hp : 0 ≤ p ∧ p ≤ 15) (hq : q = 1 ∨ q = -1)
    (c1 : w.cell? ⟨b1, 0, none⟩ = some (.int .i64 p)) (c2 : w.cell? ⟨b2, 0, none⟩ = some (.int .i64 q)) :
    Calls Try.prog 78 #[.agg #[.int .i64 m.st, .int .i64 m.x, .int .i64 m.y, .int .i64 m.sg], .pointer (some ⟨b1, 0, none⟩), .pointer (some ⟨b2, 0, none⟩)] w fun e w' => e = .returned (.bool (missP p q m)) ∧ Below w.heap.size w w' := by
  obtain ⟨hx, hy⟩ := oneMo_bounds hm
  have hs := oneMo_sign hm
  have l1 : b1 < w.heap.size := World.block_lt_of_cell? w ⟨b1, 0, none⟩ c1
  have l2 : b2 < w.heap.size := World.block_lt_of_cell? w ⟨b2, 0, none⟩ c2
  clear hm
  have HX := Lib.hid hx
  have HY := Lib.hid hy
  have HP := Lib.hid hp
  clear hx hy hp
  obtain ⟨st, x, y, sg⟩ := m
  dsimp only at *
  rcases quadMo_three x y p with h0 | h0 | h0 <;> rcases hs with rfl | rfl <;> rcases hq with rfl | rfl
  all_goals
    have HF := Lib.hid h0
    go_enter Try.func78, Try.ntmps78
    go_wp2_with fail
    refine (quadrant_any st x y _ p _ HX.out HY.out HP.out).mono ?_; rintro e w1 ⟨rfl, hb1⟩
    rw [h0]
    clear h0
    obtain ⟨hc1, _, hz1⟩ := bcell (B := w.heap.size + 1) (by simp) hb1
    go_wp2
    go_ret
    exact ⟨ret_bool (by simp [missP, HF.out]), (by repeat (first | exact bref _ | (refine balloc ?_ _) | (refine bdrew ?_) | (refine bdrewN ?_ _) | (refine bstep ?_ (by assumption))))⟩

set_option maxHeartbeats 1000000 in
theorem missed_any (l : List Mo) (A : Option Addr) (c : Nat) (p q : Int) (w : World) (hr : RowAt 4 encMo w A l) (hlen : l.length ≤ 2097152) (hg : goodMo l = true) (hp : 0 ≤ p ∧ p ≤ 15) (hq : q = 1 ∨ q = -1) :
    Calls Try.prog 66 #[.slice A l.length c, .int .i64 p, .int .i64 q] w (MkS 33 4 (l.filter (missP p q)).length ((l.filter (missP p q)).flatMap encMo) w) := by
  have hmf : ∀ (fn : Fn) (first cap : Array Value) (w : World), (Instr.makeFunc fn first cap).run Try.prog w = .ok (.func fn first cap) w := fun _ _ _ _ => rfl
  have HR := Lib.hid hr
  have HQ := Lib.hid hq
  clear hr hq
  go_enter Try.func66, Try.ntmps66
  go_wp2_with fail
  refine (filterMo_any l _ _ _ _ (missP p q) (enters_of Try.func78 (by kernel_rfl) rfl) _ (HR.out.below (balloc (balloc (bref _) _) _)) hlen ?_).mono ?_
  · intro w1 hb1 m hm
    obtain ⟨i, hi⟩ := List.mem_iff_getElem?.1 hm
    refine missClos_any p q m w.heap.size (w.heap.size + 1) w1 (goodMo_one hg hi) hp HQ.out ?_ ?_
    · exact (hb1.cell (p := ⟨w.heap.size, 0, none⟩) (by simp; omega)).trans (by simp [go_sem])
    · exact (hb1.cell (p := ⟨w.heap.size + 1, 0, none⟩) (by simp)).trans (by simp [go_sem])
  · rintro e w1 ⟨A1, c1, rfl, ho1, hb1⟩
    have HO := Lib.hid ho1
    clear ho1 hmf HR HQ
    go_wp2
    go_ret
    exact ⟨A1, c1, rfl, own_base HO.out (by simp; omega), (by repeat (first | exact bref _ | (refine balloc ?_ _) | (refine bdrew ?_) | (refine bdrewN ?_ _) | (refine bstep ?_ (by assumption))))⟩

theorem missP_eq {p q : Int} {m : Mo} (hs : m.sg = 1 ∨ m.sg = -1) (hq : q = 1 ∨ q = -1) : missP p q m = (quadMo m.x m.y p * q == -m.sg) := by
  unfold missP
  generalize m.sg = s at *
  rcases quadMo_three m.x m.y p with h0 | h0 | h0 <;> rw [h0] <;> rcases hs with rfl | rfl <;> rcases hq with rfl | rfl <;> rfl
theorem quadMul_bd (x y p q : Int) (hq : q = 1 ∨ q = -1) : -1 ≤ quadMo x y p * q ∧ quadMo x y p * q ≤ 1 := by
  rcases quadMo_three x y p with h0 | h0 | h0 <;> rw [h0] <;> rcases hq with rfl | rfl <;> decide
def missL (p q : Int) (l : List Mo) : List Int := (l.filter (missP p q)).map Mo.st
theorem missL_len (p q : Int) (l : List Mo) : (missL p q l).length = (l.filter (missP p q)).length := by simp [missL]
theorem missL_hit {p q : Int} {l : List Mo} {k : Nat} {m : Mo} (hm : l[k]? = some m) (h : missP p q m = true) : missL p q (l.take (k + 1)) = missL p q (l.take k) ++ [m.st] := by
  unfold missL; rw [filter_hitMo hm h]; simp
theorem missL_miss {p q : Int} {l : List Mo} {k : Nat} {m : Mo} (hm : l[k]? = some m) (h : missP p q m = false) : missL p q (l.take (k + 1)) = missL p q (l.take k) := by
  unfold missL; rw [filter_missMo hm h]

set_option maxRecDepth 100000 in
set_option maxHeartbeats 2000000 in
theorem misses_any (l : List Mo) (A : Option Addr) (c : Nat) (p q : Int) (w : World) (hr : RowAt 4 encMo w A l) (hlen : l.length ≤ 2097152) (hg : goodMo l = true) (hp : 0 ≤ p ∧ p ≤ 15) (hq : q = 1 ∨ q = -1) :
    Calls Try.prog 64 #[.slice A l.length c, .int .i64 p, .int .i64 q] w (MkS 3 1 (missL p q l).length ((missL p q l).flatMap encI) w) := by
  have HR := Lib.hid hr
  have HQ := Lib.hid hq
  have HG := Lib.hid hg
  clear hr hq hg
  go_enter Try.func64, Try.ntmps64
  go_wp2_with fail
  go_loopw [7, 8] (fun v i wr => ∃ (k : Nat) (D : List Int) (A' : Option Addr) (c' : Nat), k ≤ l.length ∧ i = .int .i64 k ∧ v = .slice A' D.length c' ∧ D.length ≤ k ∧ Hid (D = missL p q (l.take k)) ∧ Below w.heap.size w wr ∧ wr.ownsRow w.heap.size 3 1 (.slice A' D.length c') D.length (D.flatMap encI)) (fun _ i _ => l.length - (intOf i).toNat)
  case atStart => exact ⟨0, [], some ⟨w.heap.size, 0, none⟩, 0, Nat.zero_le _, rfl, rfl, Nat.le_refl _, rfl, balloc (bref _) _, own_made (cur := #[]) rfl (Nat.zero_le _)⟩
  case round =>
    obtain ⟨k, D, A', c', hk, rfl, rfl, hDl, HD, hbr, hown⟩ := hrel
    by_cases hlt : k < l.length
    · obtain ⟨m, hm⟩ := some_get hlt
      have i0 := ib0 k
      have i1 := ib1 hlt
      obtain ⟨b, off, rfl, hb, q0, q1, q2, q3⟩ := (HR.out.below hbr).mo hm
      have h1 := goodMo_one HG.out hm
      have HX := Lib.hid (oneMo_bounds h1)
      have hs := oneMo_sign h1
      have HE := Lib.hid (missP_eq (p := p) hs HQ.out)
      have s1 : -1 ≤ m.sg ∧ m.sg ≤ 1 := by omega
      have s2 := quadMul_bd m.x m.y p q HQ.out
      have HM := Lib.hid hm
      have HO := Lib.hid hown
      have hsz := hbr.size
      clear hm hown h1 hs
      go_wp2_with fail
      (refine wp_region_calm (by kernel_rfl) (by kernel_rfl) ?_; (repeat (go_big_quiet_step (((go_at_call 60; exact calm_of (l13Quadrant_any _ _ _ _ _ _ HX.out.1 HX.out.2 hp)))))); refine wpQuiet_nil ?_; intro xw; have hb1 := xw.is; generalize xw.w = w1 at hb1 ⊢; clear xw)
      obtain ⟨hc1, _, hz1⟩ := bcell (B := wr.heap.size) (Nat.le_refl _) hb1
      cases ht : (quadMo m.x m.y p * q == -m.sg)
      · have HN := Lib.hid (missL_miss HM.out (HE.out.trans ht))
        go_wp2
        go_roundw
        case rel => exact ⟨k + 1, D, A', c', by omega, by go_num, rfl, by omega, Lib.hid (by rw [HN.out]; exact HD.out), bstep hbr hb1, own_below HO.out hb1⟩
        case measure => simp [intOf]; omega
      · have HN := Lib.hid (missL_hit HM.out (HE.out.trans ht))
        go_wp2_with (at_builtin; refine wpList_app rfl _ _ 44 3 1 8 _ rfl Try.underlying44 infoI rfl (by decide) w.heap.size _ D.length _ (by rfl) ((own_below HO.out hb1).alloc _) _ _ (by rfl) (heap_new1 _ _) rfl (encI_one m.st) (by omega) (by decide) (by simp; omega) ?_; intro g2 c2 w2 ho2 hg2 hl2)
        go_roundw
        case rel => exact ⟨k + 1, D ++ [m.st], some ⟨g2, 0, none⟩, c2, by omega, by go_num, by simp, by simp; omega, Lib.hid (by rw [HN.out, ← HD.out]), bgrown (balloc (bstep hbr hb1) _) hg2 (fun k hk => row_mine HO.out k hk), by simpa [encI] using ho2⟩
        case measure => simp [intOf]; omega
    · obtain rfl : k = l.length := by omega
      have HO := Lib.hid hown
      have HE := Lib.hid (show D = missL p q l by rw [HD.out, List.take_length])
      clear hown HD
      go_wp2
      go_ret
      refine ⟨A', c', ?_, ?_, hbr⟩
      · rw [← HE.out]; rfl
      · rw [← HE.out]; exact HO.out
end Go.Proofs.Ytefofllkeghfnaa
