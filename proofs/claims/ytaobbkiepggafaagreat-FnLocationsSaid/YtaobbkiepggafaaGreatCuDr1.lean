/-
  The draws of module cubes: an origin.
-/
import Derived.Test.YtaobbkiepggafaaGreatOg0
import Derived.Test.YtaobbkiepggafaaGreatBox35
namespace Go.Proofs.YtaobbkiepggafaaGreat
set_option linter.unusedVariables false
set_option linter.unusedSimpArgs false
set_option linter.unnecessarySimpa false
open Go.RowKit
attribute [local go_sem] ext_cell ext_frozen

def ogBd (o : Og) : Prop := (-1 ≤ o.x ∧ o.x ≤ 1000) ∧ (0 ≤ o.y ∧ o.y ≤ 999) ∧ (0 ≤ o.tk ∧ o.tk ≤ 1000001)
set_option maxRecDepth 100000 in
set_option maxHeartbeats 8000000 in
theorem quakeOrigin_any {w0 : World} {p : Nat} {A : Option Addr} {n c K : Nat} (w : World) (h : Dr w0 w p A n c K) (hk : K ≤ 800000) (hn : n ≤ 9223372036854775807) :
    Calls Tryz.prog 52 #[.pointer (some ⟨p, 0, none⟩)] w fun e w' => ∃ o : Og, e = .returned (.agg #[.int .i64 o.x, .int .i64 o.y, .int .i64 o.tk]) ∧ ogBd o ∧ Dr w0 w' p A n c (K + 12) ∧ w.grownBy w' (some p) := by
  have hlt := h.lt
  have HD := Lib.hid h
  have HZ0 := Lib.hid (box3_new w (.int .i64 0) (.int .i64 0) (.int .i64 0) 38)
  clear h
  go_enter Tryz.func52, Tryz.ntmps52
  go_wp2_with fail
  refine (among_dr [0, 100, 200, 330, 400, 999] 6 _ _ _ ((HD.out.alloc _).alloc _) (by omega) hn ?_ ?_ ?_ (by decide) (by decide)).mono ?_
  · exact RowAt.of_block encI_len (heap_new2 _ _ _) rfl
  · omega
  · rfl
  rintro e w1 ⟨v1, rfl, hv1, hd1, hg1⟩
  have hs1 : w.heap.size + 2 ≤ w1.heap.size := by simpa using hg1.size
  have hlt1 := hd1.lt
  have hb1 : 0 ≤ v1 ∧ v1 ≤ 999 := by simp only [List.mem_cons, List.not_mem_nil, or_false] at hv1; omega
  go_wp2_with fail
  refine (among_dr [0, 50, 200, 400, 700] 5 _ _ _ (hd1.alloc _) (by omega) hn ?_ ?_ ?_ (by decide) (by decide)).mono ?_
  · exact RowAt.of_block encI_len (heap_new1 _ _) rfl
  · omega
  · rfl
  rintro e w2 ⟨v2, rfl, hv2, hd2, hg2⟩
  have hs2 : w.heap.size + 2 ≤ w2.heap.size := by have := hg2.size; simp at *; omega
  have hlt2 := hd2.lt
  have hb2 : 0 ≤ v2 ∧ v2 ≤ 999 := by simp only [List.mem_cons, List.not_mem_nil, or_false] at hv2; omega
  go_wp2_with fail
  refine (among_dr [0, 1000, 5000, 60000] 4 _ _ _ (hd2.alloc _) (by omega) hn ?_ ?_ ?_ (by decide) (by decide)).mono ?_
  · exact RowAt.of_block encI_len (heap_new1 _ _) rfl
  · omega
  · rfl
  rintro e w3 ⟨v3, rfl, hv3, hd3, hg3⟩
  have hgA := Lib.hid (only_two (only_two (only_two (only_alloc (only_alloc (World.grownBy.refl w (some p)) (.cells #[.int .i64 0, .int .i64 0, .int .i64 0] 38)) _) hg1) (only_two (only_alloc (World.grownBy.refl w1 (some p)) _) hg2)) (only_two (only_alloc (World.grownBy.refl w2 (some p)) _) hg3))
  have hs3 : w.heap.size + 2 ≤ w3.heap.size := by have := hg3.size; simp at *; omega
  have hb3 : 0 ≤ v3 ∧ v3 ≤ 1000001 := by simp only [List.mem_cons, List.not_mem_nil, or_false] at hv3; omega
  have neP : w3.heap.size ≠ p := by have := hd3.lt; omega
  have neZ : w.heap.size ≠ p := by omega
  have ne1 : w.heap.size ≠ w3.heap.size := by omega
  have HZ3 := Lib.hid (HZ0.out.moved (only_two (only_two (only_two (only_alloc (World.grownBy.refl _ (some p)) _) hg1) (only_two (only_alloc (World.grownBy.refl w1 (some p)) _) hg2)) (only_two (only_alloc (World.grownBy.refl w2 (some p)) _) hg3)) neZ)
  have HQ3 := Lib.hid (box3_new w3 (.int .i64 v1) (.int .i64 v2) (.int .i64 v3) 38)
  have HD3 := Lib.hid hd3
  clear hd1 hd2 hd3 hg1 hg2 hg3 hv1 hv2 hv3 HZ0
  go_wp2_with fail
  refine (one_dr 40 _ (HD3.out.alloc _) (by omega) hn (by decide)).mono ?_; rintro e w4 ⟨b4, rfl, hd4, hg4⟩
  have hgB := only_two (only_alloc (World.grownBy.refl w3 (some p)) (.cells #[.int .i64 v1, .int .i64 v2, .int .i64 v3] 38)) hg4
  have HG4 := Lib.hid (only_two hgA.out hgB)
  have HQ4 := Lib.hid (HQ3.out.moved hg4 neP)
  have HZ4 := Lib.hid (HZ3.out.moved hgB neZ)
  have HD4 := Lib.hid hd4
  have hlt4 := hd4.lt
  have hs4 := HG4.out.size
  have FIN := Lib.hid (fun (W : World) (k : Nat) (hd : Dr w0 W p A n c k) (hg : w.grownBy W (some p)) (hz : Box3 W w.heap.size (.int .i64 0) (.int .i64 0) (.int .i64 0)) (m : Og) =>
    show Box3 (((W.setCell ⟨w.heap.size, 0, none⟩ (.int .i64 m.x)).setCell ⟨w.heap.size, 1, none⟩ (.int .i64 m.y)).setCell ⟨w.heap.size, 2, none⟩ (.int .i64 m.tk)) w.heap.size (.int .i64 m.x) (.int .i64 m.y) (.int .i64 m.tk) ∧ Dr w0 (((W.setCell ⟨w.heap.size, 0, none⟩ (.int .i64 m.x)).setCell ⟨w.heap.size, 1, none⟩ (.int .i64 m.y)).setCell ⟨w.heap.size, 2, none⟩ (.int .i64 m.tk)) p A n c k ∧ w.grownBy (((W.setCell ⟨w.heap.size, 0, none⟩ (.int .i64 m.x)).setCell ⟨w.heap.size, 1, none⟩ (.int .i64 m.y)).setCell ⟨w.heap.size, 2, none⟩ (.int .i64 m.tk)) (some p) from by
      have hB : Below w.heap.size W (((W.setCell ⟨w.heap.size, 0, none⟩ (.int .i64 m.x)).setCell ⟨w.heap.size, 1, none⟩ (.int .i64 m.y)).setCell ⟨w.heap.size, 2, none⟩ (.int .i64 m.tk)) := (((Below.refl _ _).setCell (p := ⟨w.heap.size, 0, none⟩) (by simp) _).setCell (p := ⟨w.heap.size, 1, none⟩) (by simp) _).setCell (p := ⟨w.heap.size, 2, none⟩) (by simp) _
      exact ⟨hz.all _ _ _, HD.out.above hd hB, only_above hg hB⟩)
  obtain ⟨_, ⟨q0, q1, q2⟩, f0, f1, f2⟩ := HQ4.out
  obtain ⟨_, ⟨z0, z1, z2⟩, y0, y1, y2⟩ := HZ4.out
  clear hd4 hg4 hgB
  cases b4
  case false =>
    go_wp2_with fail
    obtain ⟨hbx, hdx, hgx⟩ := FIN.out w4 _ HD4.out HG4.out HZ4.out ⟨v1, v2, v3⟩
    obtain ⟨_, ⟨s0, s1, s2⟩, _⟩ := hbx
    generalize (((w4.setCell ⟨w.heap.size, 0, none⟩ (.int .i64 v1)).setCell ⟨w.heap.size, 1, none⟩ (.int .i64 v2)).setCell ⟨w.heap.size, 2, none⟩ (.int .i64 v3)) = WW at s0 s1 s2 hdx hgx ⊢
    exact bodyPost_ret (v := .agg #[.int .i64 v1, .int .i64 v2, .int .i64 v3]) (by simp [results, Tryz.results52, go_sem, s0, s1, s2]) rfl ⟨⟨v1, v2, v3⟩, rfl, ⟨⟨by dsimp only; omega, by dsimp only; omega⟩, hb2, hb3⟩, hdx.more (by omega), hgx⟩
  case true =>
    go_wp2_with fail
    refine (among_dr [-1, 1000] 2 _ _ _ (HD4.out.alloc _) (by omega) hn ?_ ?_ ?_ (by decide) (by decide)).mono ?_
    · exact RowAt.of_block encI_len (heap_new1 _ _) rfl
    · omega
    · rfl
    rintro e w6 ⟨v6, rfl, hv6, hd6, hg6⟩
    have hlt6 := hd6.lt
    have hb6 : -1 ≤ v6 ∧ v6 ≤ 1000 := by simp only [List.mem_cons, List.not_mem_nil, or_false] at hv6; omega
    go_wp2_with fail
    refine (among_dr [0, 1000001] 2 _ _ _ (hd6.alloc _) (by omega) hn ?_ ?_ ?_ (by decide) (by decide)).mono ?_
    · exact RowAt.of_block encI_len (heap_new1 _ _) rfl
    · omega
    · rfl
    rintro e w7 ⟨v7, rfl, hv7, hd7, hg7⟩
    have hb7 : 0 ≤ v7 ∧ v7 ≤ 1000001 := by simp only [List.mem_cons, List.not_mem_nil, or_false] at hv7; omega
    have hgC := only_two (only_two (only_alloc (World.grownBy.refl w4 (some p)) _) hg6) (only_two (only_alloc (World.grownBy.refl w6 (some p)) _) hg7)
    have HQ7 := Lib.hid (HQ4.out.moved hgC neP)
    have HZ7 := Lib.hid (HZ4.out.moved hgC neZ)
    have HG7 := Lib.hid (only_two HG4.out hgC)
    have HD7 := Lib.hid hd7
    clear hd6 hd7 hg6 hg7 hv6 hv7 hgC q0 q1 q2 f0 f1 f2 z0 z1 z2 y0 y1 y2
    obtain ⟨_, ⟨q0, q1, q2⟩, f0, f1, f2⟩ := HQ7.out
    obtain ⟨_, ⟨z0, z1, z2⟩, y0, y1, y2⟩ := HZ7.out
    go_wp2_with fail
    have HB : Hid (Below w.heap.size w7 (((w7.setCell ⟨w3.heap.size, 0, none⟩ (.int .i64 v6)).setCell ⟨w3.heap.size, 1, none⟩ (.int .i64 0)).setCell ⟨w3.heap.size, 2, none⟩ (.int .i64 v7))) := Lib.hid ((((Below.refl _ _).setCell (p := ⟨w3.heap.size, 0, none⟩) (by simp; omega) _).setCell (p := ⟨w3.heap.size, 1, none⟩) (by simp; omega) _).setCell (p := ⟨w3.heap.size, 2, none⟩) (by simp; omega) _)
    have HZ8 := Lib.hid (((HZ7.out.far ne1 (o := 0) (.int .i64 v6)).far ne1 (o := 1) (.int .i64 0)).far ne1 (o := 2) (.int .i64 v7))
    have HD8 := Lib.hid (HD.out.above HD7.out HB.out)
    have HG8 := Lib.hid (only_above HG7.out HB.out)
    generalize (((w7.setCell ⟨w3.heap.size, 0, none⟩ (.int .i64 v6)).setCell ⟨w3.heap.size, 1, none⟩ (.int .i64 0)).setCell ⟨w3.heap.size, 2, none⟩ (.int .i64 v7)) = w8 at HZ8 HD8 HG8 ⊢
    obtain ⟨hbx, hdx, hgx⟩ := FIN.out w8 _ HD8.out HG8.out HZ8.out ⟨v6, 0, v7⟩
    obtain ⟨_, ⟨s0, s1, s2⟩, _⟩ := hbx
    generalize (((w8.setCell ⟨w.heap.size, 0, none⟩ (.int .i64 v6)).setCell ⟨w.heap.size, 1, none⟩ (.int .i64 0)).setCell ⟨w.heap.size, 2, none⟩ (.int .i64 v7)) = WW at s0 s1 s2 hdx hgx ⊢
    exact bodyPost_ret (v := .agg #[.int .i64 v6, .int .i64 0, .int .i64 v7]) (by simp [results, Tryz.results52, go_sem, s0, s1, s2]) rfl ⟨⟨v6, 0, v7⟩, rfl, ⟨hb6, by dsimp only; omega, hb7⟩, hdx.more (by omega), hgx⟩
end Go.Proofs.YtaobbkiepggafaaGreat
