/-
  The draws of module duties: an hour, a duty.
-/
import Derived.Test.YtldhlmjfpnpamaaDu0
import Derived.Test.YtldhlmjfpnpamaaCurD
import Derived.Test.YtldhlmjfpnpamaaDrK
import Derived.Test.YtldhlmjfpnpamaaBox4
import Derived.Test.YtldhlmjfpnpamaaApp
import Derived.Deep.CutRange
import Derived.Deep.RegionHeld3
import Derived.Deep.RegionWith
namespace Go.Proofs.Ytldhlmjfpnpamaa
open Go.RowKit
attribute [local go_sem] ext_cell ext_frozen

theorem Box4.set2 {w : World} {g : Nat} {a b c d : Value} (h : Box4 w g a b c d) (v : Value) : Box4 (w.setCell ⟨g, 2, none⟩ v) g a b v d := by
  obtain ⟨h0, ⟨c0, c1, c2, c3⟩, f0, f1, f2, f3⟩ := h
  refine ⟨by simpa [World.setCell] using h0, ⟨?_, ?_, World.cell?_setCell_same _ _ _ c2, ?_⟩, by simpa using f0, by simpa using f1, by simpa using f2, by simpa using f3⟩
  · rw [World.cell?_setCell_other, c0]; simp
  · rw [World.cell?_setCell_other, c1]; simp
  · rw [World.cell?_setCell_other, c3]; simp
theorem Box4.far {w : World} {g : Nat} {a b c d : Value} (h : Box4 w g a b c d) {g' o : Nat} (hne : g ≠ g') (v : Value) : Box4 (w.setCell ⟨g', o, none⟩ v) g a b c d := by
  obtain ⟨h0, ⟨c0, c1, c2, c3⟩, f0, f1, f2, f3⟩ := h
  exact ⟨by simpa [World.setCell] using h0, ⟨set_far c0 hne, set_far c1 hne, set_far c2 hne, set_far c3 hne⟩, by simpa using f0, by simpa using f1, by simpa using f2, by simpa using f3⟩
/-- What lies in a row lies in its beginning. -/
theorem row_front {w : World} {g : Nat} {l : List Int} (m : Nat) (h : RowAt 1 encI w (some ⟨g, 0, none⟩) l) : RowAt 1 encI w (some ⟨g, 0, none⟩) (l.take m) := h.takeR m
set_option maxRecDepth 100000 in
set_option maxHeartbeats 4000000 in
theorem hour17_any {w0 : World} {p : Nat} {A : Option Addr} {n c K : Nat} (w : World) (h : Dr w0 w p A n c K) (hk : K ≤ 800000) (hn : n ≤ 9223372036854775807) :
    Calls Try.prog 96 #[.pointer (some ⟨p, 0, none⟩)] w fun e w' => ∃ v : Int, e = .returned (.int .i64 v) ∧ Dr w0 w' p A n c (K + 4) ∧ w.grownBy w' (some p) := by
  have hlt := h.lt
  have HD := Lib.hid h
  have HRW := Lib.hid (RowAt.of_block (l := [0, 6, 10, 13, 14, 25, 9998, -1, 9999]) encI_len (heap_new1 w (.cells #[.int .i64 0, .int .i64 6, .int .i64 10, .int .i64 13, .int .i64 14, .int .i64 25, .int .i64 9998, .int .i64 (-1), .int .i64 9999] 3)) rfl)
  have HOW := Lib.hid (own_made (E := 3) (K := 1) (n := 9) (cur := #[.int .i64 0, .int .i64 6, .int .i64 10, .int .i64 13, .int .i64 14, .int .i64 25, .int .i64 9998, .int .i64 (-1), .int .i64 9999]) (w := w) rfl (by decide))
  clear h
  go_enter Try.func96, Try.ntmps96
  go_wp2_with fail
  refine (pick_dr 24 _ (HD.out.alloc _) (by omega) hn (by decide)).mono ?_; rintro e w1 ⟨r1, rfl, hr1, hd1, hg1⟩
  have HR1 := Lib.hid (RowAt.of_own (own_dr HOW.out hg1 hlt) encI_len (by decide) : RowAt 1 encI w1 (some ⟨w.heap.size, 0, none⟩) [0, 6, 10, 13, 14, 25, 9998, -1, 9999])
  have hq : r1 / 11 = 0 ∨ r1 / 11 = 1 ∨ r1 / 11 = 2 := by omega
  have hG := Lib.hid (only_two (only_alloc (World.grownBy.refl w (some p)) _) hg1)
  have HD1 := Lib.hid hd1
  clear hd1 hg1 hr1
  rcases hq with hq | hq | hq
  · go_wp2_with fail
    refine (among_dr [0, 6, 10, 13, 14, 25, 9998] 7 _ _ _ HD1.out (by omega) hn (row_front 7 HR1.out) (by omega) rfl (by decide) (by decide)).mono ?_; rintro e w2 ⟨v2, rfl, hv2, hd2, hg2⟩
    go_wp2_with fail
    go_ret
    exact ⟨v2, rfl, hd2, only_two hG.out hg2⟩
  · go_wp2_with fail
    refine (among_dr [0, 6, 10, 13, 14, 25, 9998, -1] 8 _ _ _ HD1.out (by omega) hn (row_front 8 HR1.out) (by omega) rfl (by decide) (by decide)).mono ?_; rintro e w2 ⟨v2, rfl, hv2, hd2, hg2⟩
    go_wp2_with fail
    go_ret
    exact ⟨v2, rfl, hd2, only_two hG.out hg2⟩
  · go_wp2_with fail
    refine (among_dr [0, 6, 10, 13, 14, 25, 9998, -1, 9999] 9 _ _ _ HD1.out (by omega) hn (row_front 9 HR1.out) (by omega) rfl (by decide) (by decide)).mono ?_; rintro e w2 ⟨v2, rfl, hv2, hd2, hg2⟩
    go_wp2_with fail
    go_ret
    exact ⟨v2, rfl, hd2, only_two hG.out hg2⟩
set_option maxRecDepth 100000 in
set_option maxHeartbeats 8000000 in
theorem duty_any {w0 : World} {p : Nat} {A : Option Addr} {n c K : Nat} (w : World) (h : Dr w0 w p A n c K) (hk : K ≤ 800000) (hn : n ≤ 9223372036854775807) :
    Calls Try.prog 94 #[.pointer (some ⟨p, 0, none⟩)] w fun e w' => ∃ m : Du, e = .returned (.agg #[.int .i64 m.who, .int .i64 m.bg, .int .i64 m.en, .bool m.ch]) ∧ Dr w0 w' p A n c (K + 12) ∧ w.grownBy w' (some p) := by
  have hlt := h.lt
  have HD := Lib.hid h
  have HZ0 := Lib.hid (box4_new w (.int .i64 0) (.int .i64 0) (.int .i64 0) (.bool false) 25)
  clear h
  go_enter Try.func94, Try.ntmps94
  go_wp2_with fail
  refine (among_dr [1, 2, 2, 3, 50] 5 _ _ _ ((HD.out.alloc _).alloc _) (by omega) hn ?_ ?_ ?_ (by decide) (by decide)).mono ?_
  · exact RowAt.of_block encI_len (heap_new2 _ _ _) rfl
  · omega
  · rfl
  rintro e w1 ⟨v1, rfl, hv1, hd1, hg1⟩
  have hs1 : w.heap.size + 2 ≤ w1.heap.size := by simpa using hg1.size
  have hlt1 := hd1.lt
  go_wp2_with fail
  refine (among_dr [0, 6, 6, 8, 14, 20, 22, 30, 9987] 9 _ _ _ (hd1.alloc _) (by omega) hn ?_ ?_ ?_ (by decide) (by decide)).mono ?_
  · exact RowAt.of_block encI_len (heap_new1 _ _) rfl
  · omega
  · rfl
  rintro e w2 ⟨v2, rfl, hv2, hd2, hg2⟩
  have hb2 : 0 ≤ v2 ∧ v2 ≤ 9987 := by
    simp only [List.mem_cons, List.not_mem_nil, or_false] at hv2
    omega
  go_wp2_with fail
  refine (one_dr 3 _ hd2 (by omega) hn (by decide)).mono ?_; rintro e w3 ⟨b3, rfl, hd3, hg3⟩
  have hgA := Lib.hid (only_two (only_two (only_alloc (only_alloc (World.grownBy.refl w (some p)) (.cells #[.int .i64 0, .int .i64 0, .int .i64 0, .bool false] 25)) _) hg1) (only_two (only_two (only_alloc (World.grownBy.refl w1 (some p)) _) hg2) hg3))
  have hs3 : w.heap.size + 2 ≤ w3.heap.size := by have := hg2.size; have := hg3.size; simp at *; omega
  have HZ3 := Lib.hid (HZ0.out.moved (only_two (only_two (only_alloc (World.grownBy.refl _ (some p)) _) hg1) (only_two (only_two (only_alloc (World.grownBy.refl w1 (some p)) _) hg2) hg3)) (by omega))
  have HD3 := Lib.hid hd3
  have hlt3 := hd3.lt
  clear hd1 hd2 hd3 hg1 hg2 hg3 hv1 hv2
  go_upto_region 2 with fail
  have HQ := Lib.hid (box4_new w3 (.int .i64 v1) (.int .i64 v2) (.int .i64 0) (.bool b3) 25)
  have HZ := Lib.hid (HZ3.out.moved (only_alloc (World.grownBy.refl w3 (some p)) (.cells #[.int .i64 v1, .int .i64 v2, .int .i64 0, .bool b3] 25)) (by omega))
  have hDq := Lib.hid (HD3.out.alloc (.cells #[.int .i64 v1, .int .i64 v2, .int .i64 0, .bool b3] 25))
  have hGq := Lib.hid (only_alloc hgA.out (.cells #[.int .i64 v1, .int .i64 v2, .int .i64 0, .bool b3] 25))
  have hsq : w3.heap.size + 1 ≤ (w3.alloc (.cells #[.int .i64 v1, .int .i64 v2, .int .i64 0, .bool b3] 25)).heap.size := by simp
  have neP : w3.heap.size ≠ p := by omega
  have neZ : w.heap.size ≠ p := by omega
  have ne1 : w.heap.size ≠ w3.heap.size := by omega
  have ne2 : w3.heap.size ≠ w.heap.size := by omega
  generalize w3.alloc (.cells #[.int .i64 v1, .int .i64 v2, .int .i64 0, .bool b3] 25) = wq at HQ HZ hDq hGq hsq ⊢
  clear HZ0 HZ3 HD3 hgA
  go_cut [3] from 13 to 19 (fun s3 wx => s3 = .pointer (some ⟨w3.heap.size, 0, none⟩) ∧ ∃ en : Int, Hid (Box4 wx w3.heap.size (.int .i64 v1) (.int .i64 v2) (.int .i64 en) (.bool b3)) ∧ Hid (Box4 wx w.heap.size (.int .i64 0) (.int .i64 0) (.int .i64 0) (.bool false)) ∧ Hid (Dr w0 wx p A n c (K + 8)) ∧ Hid (w.grownBy wx (some p)))
  case first =>
    have hlq := hDq.out.lt
    obtain ⟨_, ⟨q0, q1, q2, q3⟩, f0, f1, f2, f3⟩ := HQ.out
    go_region_with (first
      | (go_at_call 83; ((with_reducible refine (among_dr (w0 := w0) (K := K + 6) (A := A) (n := n) (c := c) [1, 4, 6, 8, 12] 5 _ _ _ ?_ (by omega) hn ?_ ?_ ?_ (by decide) (by decide)).mono ?_); exact hDq.out.below (by repeat (first | exact bref _ | (refine balloc ?_ _) | (refine bdrew ?_) | (refine bdrewN ?_ _))); exact RowAt.of_block encI_len (by first | exact heap_new1 _ _) rfl; (first | omega | (simp; omega)); rfl); rintro e w4 ⟨v4, rfl, hv4, hd4, hg4⟩; have hgX1 : wq.grownBy w4 (some p) := only_two (by repeat (first | exact World.grownBy.refl _ _ | (refine only_alloc ?_ _) | (refine only_drew ?_) | (refine only_drewN ?_ _))) hg4; have HD4 := Lib.hid hd4; clear hd4; obtain ⟨_, ⟨z0, z1, z2, z3⟩, y0, y1, y2, y3⟩ := HQ.out.moved hgX1 neP; have HQ4 := Lib.hid (HQ.out.moved hgX1 neP); have HZ4 := Lib.hid (HZ.out.moved hgX1 neZ))
      | fail)
    all_goals
      go_wp2_with fail
      go_meet
      have HB : Hid (Below w.heap.size w4 (w4.setCell ⟨w3.heap.size, 2, none⟩ (.int .i64 (IntKind.i64.wrap (v2 + v4))))) := Lib.hid ((Below.refl _ _).setCell (p := ⟨w3.heap.size, 2, none⟩) (by simp; omega) _)
      exact ⟨rfl, _, Lib.hid (HQ4.out.set2 _), Lib.hid (HZ4.out.far ne1 _), Lib.hid (HD.out.above (HD4.out.more (by omega)) HB.out), Lib.hid (only_above (only_two hGq.out hgX1) HB.out)⟩
  case rest =>
    clear HQ HZ hDq hGq hsq
    obtain ⟨rfl, en, HQ, HZ, hDq, hGq⟩ := hcut
    obtain ⟨wr, hw⟩ : ∃ wr : World, wr = wc := ⟨_, rfl⟩
    rw [← hw] at HQ HZ hDq hGq ⊢
    clear hw
    go_wp2_with fail
    refine (pick_dr 80 _ hDq.out (by omega) hn (by decide)).mono ?_; rintro e w5 ⟨r5, rfl, hr5, hd5, hg5⟩
    have HD5 := Lib.hid hd5
    have hlt5 := hd5.lt
    have HG5 := Lib.hid (only_two hGq.out hg5)
    have hs5 := hg5.size
    have hs6 := HG5.out.size
    have HQ5 := Lib.hid (HQ.out.moved hg5 neP)
    have HZ5 := Lib.hid (HZ.out.moved hg5 neZ)
    obtain ⟨hqz, ⟨q0, q1, q2, q3⟩, f0, f1, f2, f3⟩ := HQ5.out
    obtain ⟨hzz, ⟨z0, z1, z2, z3⟩, y0, y1, y2, y3⟩ := HZ5.out
    clear hd5 hg5
    have FIN := Lib.hid (fun (W : World) (k : Nat) (hd : Dr w0 W p A n c k) (hg : w.grownBy W (some p)) (hz : Box4 W w.heap.size (.int .i64 0) (.int .i64 0) (.int .i64 0) (.bool false)) (m : Du) =>
      show Box4 ((((W.setCell ⟨w.heap.size, 0, none⟩ (.int .i64 m.who)).setCell ⟨w.heap.size, 1, none⟩ (.int .i64 m.bg)).setCell ⟨w.heap.size, 2, none⟩ (.int .i64 m.en)).setCell ⟨w.heap.size, 3, none⟩ (.bool m.ch)) w.heap.size (.int .i64 m.who) (.int .i64 m.bg) (.int .i64 m.en) (.bool m.ch) ∧ Dr w0 ((((W.setCell ⟨w.heap.size, 0, none⟩ (.int .i64 m.who)).setCell ⟨w.heap.size, 1, none⟩ (.int .i64 m.bg)).setCell ⟨w.heap.size, 2, none⟩ (.int .i64 m.en)).setCell ⟨w.heap.size, 3, none⟩ (.bool m.ch)) p A n c k ∧ w.grownBy ((((W.setCell ⟨w.heap.size, 0, none⟩ (.int .i64 m.who)).setCell ⟨w.heap.size, 1, none⟩ (.int .i64 m.bg)).setCell ⟨w.heap.size, 2, none⟩ (.int .i64 m.en)).setCell ⟨w.heap.size, 3, none⟩ (.bool m.ch)) (some p) by
        have hB : Below w.heap.size W ((((W.setCell ⟨w.heap.size, 0, none⟩ (.int .i64 m.who)).setCell ⟨w.heap.size, 1, none⟩ (.int .i64 m.bg)).setCell ⟨w.heap.size, 2, none⟩ (.int .i64 m.en)).setCell ⟨w.heap.size, 3, none⟩ (.bool m.ch)) := (((((Below.refl _ _).setCell (p := ⟨w.heap.size, 0, none⟩) (by simp) _).setCell (p := ⟨w.heap.size, 1, none⟩) (by simp) _).setCell (p := ⟨w.heap.size, 2, none⟩) (by simp) _).setCell (p := ⟨w.heap.size, 3, none⟩) (by simp) _)
        exact ⟨(((hz.set0 _).set1 _).set2 _).set3 _, HD.out.above hd hB, only_above hg hB⟩)
    go_wp2_with fail
    case _ =>
      refine (among_dr [0, 51] 2 _ _ _ (HD5.out.alloc _) (by omega) hn ?_ ?_ ?_ (by decide) (by decide)).mono ?_
      · exact RowAt.of_block encI_len (heap_new1 _ _) rfl
      · omega
      · rfl
      rintro e w6 ⟨v6, rfl, hv6, hd6, hg6⟩
      have hgC := only_two (only_alloc (World.grownBy.refl w5 (some p)) _) hg6
      have HQ6 := Lib.hid (HQ5.out.moved hgC neP)
      have HZ6 := Lib.hid (HZ5.out.moved hgC neZ)
      have HG6 := Lib.hid (only_two HG5.out hgC)
      obtain ⟨_, ⟨q0, q1, q2, q3⟩, f0, f1, f2, f3⟩ := HQ6.out
      obtain ⟨_, ⟨z0, z1, z2, z3⟩, y0, y1, y2, y3⟩ := HZ6.out
      go_wp2_with fail
      have HB : Hid (Below w.heap.size w6 (w6.setCell ⟨w3.heap.size, 0, none⟩ (.int .i64 v6))) := Lib.hid ((Below.refl _ _).setCell (p := ⟨w3.heap.size, 0, none⟩) (by simp; omega) _)
      have HZ7 := Lib.hid (HZ6.out.far ne1 (o := 0) (.int .i64 v6))
      have HD7 := Lib.hid (HD.out.above hd6 HB.out)
      have HG7 := Lib.hid (only_above HG6.out HB.out)
      generalize w6.setCell ⟨w3.heap.size, 0, none⟩ (.int .i64 v6) = w7 at HZ7 HD7 HG7 ⊢
      obtain ⟨hbx, hdx, hgx⟩ := FIN.out w7 _ HD7.out HG7.out HZ7.out ⟨v6, v2, en, b3⟩
      obtain ⟨_, ⟨s0, s1, s2, s3⟩, _⟩ := hbx
      generalize ((((w7.setCell ⟨w.heap.size, 0, none⟩ (.int .i64 v6)).setCell ⟨w.heap.size, 1, none⟩ (.int .i64 v2)).setCell ⟨w.heap.size, 2, none⟩ (.int .i64 en)).setCell ⟨w.heap.size, 3, none⟩ (.bool b3)) = WW at s0 s1 s2 s3 hdx hgx ⊢
      exact bodyPost_ret (v := .agg #[.int .i64 v6, .int .i64 v2, .int .i64 en, .bool b3]) (by simp [results, Try.results94, go_sem, s0, s1, s2, s3]) rfl ⟨⟨v6, v2, en, b3⟩, rfl, hdx.more (by omega), hgx⟩
    case _ =>
      refine (among_dr [-1, en] 2 _ _ _ (HD5.out.alloc _) (by omega) hn ?_ ?_ ?_ (by decide) (by decide)).mono ?_
      · exact RowAt.of_block encI_len (heap_new1 _ _) rfl
      · omega
      · rfl
      rintro e w6 ⟨v6, rfl, hv6, hd6, hg6⟩
      have hgC := only_two (only_alloc (World.grownBy.refl w5 (some p)) _) hg6
      have HQ6 := Lib.hid (HQ5.out.moved hgC neP)
      have HZ6 := Lib.hid (HZ5.out.moved hgC neZ)
      have HG6 := Lib.hid (only_two HG5.out hgC)
      obtain ⟨_, ⟨q0, q1, q2, q3⟩, f0, f1, f2, f3⟩ := HQ6.out
      obtain ⟨_, ⟨z0, z1, z2, z3⟩, y0, y1, y2, y3⟩ := HZ6.out
      go_wp2_with fail
      have HB : Hid (Below w.heap.size w6 (w6.setCell ⟨w3.heap.size, 1, none⟩ (.int .i64 v6))) := Lib.hid ((Below.refl _ _).setCell (p := ⟨w3.heap.size, 1, none⟩) (by simp; omega) _)
      have HZ7 := Lib.hid (HZ6.out.far ne1 (o := 1) (.int .i64 v6))
      have HD7 := Lib.hid (HD.out.above hd6 HB.out)
      have HG7 := Lib.hid (only_above HG6.out HB.out)
      generalize w6.setCell ⟨w3.heap.size, 1, none⟩ (.int .i64 v6) = w7 at HZ7 HD7 HG7 ⊢
      obtain ⟨hbx, hdx, hgx⟩ := FIN.out w7 _ HD7.out HG7.out HZ7.out ⟨v1, v6, en, b3⟩
      obtain ⟨_, ⟨s0, s1, s2, s3⟩, _⟩ := hbx
      generalize ((((w7.setCell ⟨w.heap.size, 0, none⟩ (.int .i64 v1)).setCell ⟨w.heap.size, 1, none⟩ (.int .i64 v6)).setCell ⟨w.heap.size, 2, none⟩ (.int .i64 en)).setCell ⟨w.heap.size, 3, none⟩ (.bool b3)) = WW at s0 s1 s2 s3 hdx hgx ⊢
      exact bodyPost_ret (v := .agg #[.int .i64 v1, .int .i64 v6, .int .i64 en, .bool b3]) (by simp [results, Try.results94, go_sem, s0, s1, s2, s3]) rfl ⟨⟨v1, v6, en, b3⟩, rfl, hdx.more (by omega), hgx⟩
    case _ =>
      refine (among_dr [10000, v2 + 13] 2 _ _ _ (HD5.out.alloc _) (by omega) hn ?_ ?_ ?_ (by decide) (by decide)).mono ?_
      · exact RowAt.of_block encI_len (heap_new1 _ _) rfl
      · omega
      · rfl
      rintro e w6 ⟨v6, rfl, hv6, hd6, hg6⟩
      have hgC := only_two (only_alloc (World.grownBy.refl w5 (some p)) _) hg6
      have HQ6 := Lib.hid (HQ5.out.moved hgC neP)
      have HZ6 := Lib.hid (HZ5.out.moved hgC neZ)
      have HG6 := Lib.hid (only_two HG5.out hgC)
      obtain ⟨_, ⟨q0, q1, q2, q3⟩, f0, f1, f2, f3⟩ := HQ6.out
      obtain ⟨_, ⟨z0, z1, z2, z3⟩, y0, y1, y2, y3⟩ := HZ6.out
      go_wp2_with fail
      have HB : Hid (Below w.heap.size w6 (w6.setCell ⟨w3.heap.size, 2, none⟩ (.int .i64 v6))) := Lib.hid ((Below.refl _ _).setCell (p := ⟨w3.heap.size, 2, none⟩) (by simp; omega) _)
      have HZ7 := Lib.hid (HZ6.out.far ne1 (o := 2) (.int .i64 v6))
      have HD7 := Lib.hid (HD.out.above hd6 HB.out)
      have HG7 := Lib.hid (only_above HG6.out HB.out)
      generalize w6.setCell ⟨w3.heap.size, 2, none⟩ (.int .i64 v6) = w7 at HZ7 HD7 HG7 ⊢
      obtain ⟨hbx, hdx, hgx⟩ := FIN.out w7 _ HD7.out HG7.out HZ7.out ⟨v1, v2, v6, b3⟩
      obtain ⟨_, ⟨s0, s1, s2, s3⟩, _⟩ := hbx
      generalize ((((w7.setCell ⟨w.heap.size, 0, none⟩ (.int .i64 v1)).setCell ⟨w.heap.size, 1, none⟩ (.int .i64 v2)).setCell ⟨w.heap.size, 2, none⟩ (.int .i64 v6)).setCell ⟨w.heap.size, 3, none⟩ (.bool b3)) = WW at s0 s1 s2 s3 hdx hgx ⊢
      exact bodyPost_ret (v := .agg #[.int .i64 v1, .int .i64 v2, .int .i64 v6, .bool b3]) (by simp [results, Try.results94, go_sem, s0, s1, s2, s3]) rfl ⟨⟨v1, v2, v6, b3⟩, rfl, hdx.more (by omega), hgx⟩
    case _ =>
      obtain ⟨hbx, hdx, hgx⟩ := FIN.out w5 _ HD5.out HG5.out HZ5.out ⟨v1, v2, en, b3⟩
      obtain ⟨_, ⟨s0, s1, s2, s3⟩, _⟩ := hbx
      generalize ((((w5.setCell ⟨w.heap.size, 0, none⟩ (.int .i64 v1)).setCell ⟨w.heap.size, 1, none⟩ (.int .i64 v2)).setCell ⟨w.heap.size, 2, none⟩ (.int .i64 en)).setCell ⟨w.heap.size, 3, none⟩ (.bool b3)) = WW at s0 s1 s2 s3 hdx hgx ⊢
      exact bodyPost_ret (v := .agg #[.int .i64 v1, .int .i64 v2, .int .i64 en, .bool b3]) (by simp [results, Try.results94, go_sem, s0, s1, s2, s3]) rfl ⟨⟨v1, v2, en, b3⟩, rfl, hdx.more (by omega), hgx⟩
end Go.Proofs.Ytldhlmjfpnpamaa
