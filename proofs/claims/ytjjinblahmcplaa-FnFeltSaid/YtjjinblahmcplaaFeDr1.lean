/-
  The draws of module felt reports: a struct of five cells through draws and stores; a place, a report.
-/
import Derived.Test.YtjjinblahmcplaaFe0
import Derived.Test.YtjjinblahmcplaaCurD
import Derived.Test.YtjjinblahmcplaaDrK
import Derived.Test.YtjjinblahmcplaaApp
namespace Go.Proofs.Ytjjinblahmcplaa
open Go.RowKit
attribute [local go_sem] ext_cell ext_frozen

def Box5 (w : World) (g : Nat) (a b c d e : Value) : Prop :=
  g < w.heap.size ∧ (w.cell? ⟨g, 0, none⟩ = some a ∧ w.cell? ⟨g, 1, none⟩ = some b ∧ w.cell? ⟨g, 2, none⟩ = some c ∧ w.cell? ⟨g, 3, none⟩ = some d ∧ w.cell? ⟨g, 4, none⟩ = some e) ∧ w.frozen? ⟨g, 0, none⟩ = false ∧ w.frozen? ⟨g, 1, none⟩ = false ∧ w.frozen? ⟨g, 2, none⟩ = false ∧ w.frozen? ⟨g, 3, none⟩ = false ∧ w.frozen? ⟨g, 4, none⟩ = false
theorem box5_of {w : World} {g : Nat} {a b c d e : Value} {E : TypeId} (h : w.heap[g]? = some (.cells #[a, b, c, d, e] E (0, 0))) : Box5 w g a b c d e :=
  ⟨(Array.getElem?_eq_some_iff.1 h).1, ⟨by rw [cell_of_row w g _ _ E (0, 0) h]; rfl, by rw [cell_of_row w g _ _ E (0, 0) h]; rfl, by rw [cell_of_row w g _ _ E (0, 0) h]; rfl, by rw [cell_of_row w g _ _ E (0, 0) h]; rfl, by rw [cell_of_row w g _ _ E (0, 0) h]; rfl⟩, by simp [World.frozen?, h], by simp [World.frozen?, h], by simp [World.frozen?, h], by simp [World.frozen?, h], by simp [World.frozen?, h]⟩
theorem box5_new (w : World) (a b c d e : Value) (E : TypeId) : Box5 (w.alloc (.cells #[a, b, c, d, e] E)) w.heap.size a b c d e := box5_of (heap_new1 w _)
theorem Box5.moved {w W : World} {g p : Nat} {a b c d e : Value} (h : Box5 w g a b c d e) (hg : w.grownBy W (some p)) (hne : g ≠ p) : Box5 W g a b c d e := by
  obtain ⟨h0, ⟨c0, c1, c2, c3, c4⟩, f0, f1, f2, f3, f4⟩ := h
  have hb := hg.block g h0 (by simpa using hne)
  exact ⟨Nat.lt_of_lt_of_le h0 hg.size, ⟨(World.cell?_of_block (a := ⟨g, 0, none⟩) hb).trans c0, (World.cell?_of_block (a := ⟨g, 1, none⟩) hb).trans c1, (World.cell?_of_block (a := ⟨g, 2, none⟩) hb).trans c2, (World.cell?_of_block (a := ⟨g, 3, none⟩) hb).trans c3, (World.cell?_of_block (a := ⟨g, 4, none⟩) hb).trans c4⟩, (World.frozen?_of_block (a := ⟨g, 0, none⟩) hb).trans f0, (World.frozen?_of_block (a := ⟨g, 1, none⟩) hb).trans f1, (World.frozen?_of_block (a := ⟨g, 2, none⟩) hb).trans f2, (World.frozen?_of_block (a := ⟨g, 3, none⟩) hb).trans f3, (World.frozen?_of_block (a := ⟨g, 4, none⟩) hb).trans f4⟩
theorem Box5.far {w : World} {g : Nat} {a b c d e : Value} (h : Box5 w g a b c d e) {g' o : Nat} (hne : g ≠ g') (v : Value) : Box5 (w.setCell ⟨g', o, none⟩ v) g a b c d e := by
  obtain ⟨h0, ⟨c0, c1, c2, c3, c4⟩, f0, f1, f2, f3, f4⟩ := h
  exact ⟨by simpa [World.setCell] using h0, ⟨set_far c0 hne, set_far c1 hne, set_far c2 hne, set_far c3 hne, set_far c4 hne⟩, by simpa using f0, by simpa using f1, by simpa using f2, by simpa using f3, by simpa using f4⟩
theorem Box5.set0 {w : World} {g : Nat} {a b c d e : Value} (h : Box5 w g a b c d e) (v : Value) : Box5 (w.setCell ⟨g, 0, none⟩ v) g v b c d e := by
  obtain ⟨h0, ⟨c0, c1, c2, c3, c4⟩, f0, f1, f2, f3, f4⟩ := h
  refine ⟨by simpa [World.setCell] using h0, ⟨World.cell?_setCell_same _ _ _ c0, ?_, ?_, ?_, ?_⟩, by simpa using f0, by simpa using f1, by simpa using f2, by simpa using f3, by simpa using f4⟩
  · rw [World.cell?_setCell_other, c1]; simp
  · rw [World.cell?_setCell_other, c2]; simp
  · rw [World.cell?_setCell_other, c3]; simp
  · rw [World.cell?_setCell_other, c4]; simp
theorem Box5.set1 {w : World} {g : Nat} {a b c d e : Value} (h : Box5 w g a b c d e) (v : Value) : Box5 (w.setCell ⟨g, 1, none⟩ v) g a v c d e := by
  obtain ⟨h0, ⟨c0, c1, c2, c3, c4⟩, f0, f1, f2, f3, f4⟩ := h
  refine ⟨by simpa [World.setCell] using h0, ⟨?_, World.cell?_setCell_same _ _ _ c1, ?_, ?_, ?_⟩, by simpa using f0, by simpa using f1, by simpa using f2, by simpa using f3, by simpa using f4⟩
  · rw [World.cell?_setCell_other, c0]; simp
  · rw [World.cell?_setCell_other, c2]; simp
  · rw [World.cell?_setCell_other, c3]; simp
  · rw [World.cell?_setCell_other, c4]; simp
theorem Box5.set2 {w : World} {g : Nat} {a b c d e : Value} (h : Box5 w g a b c d e) (v : Value) : Box5 (w.setCell ⟨g, 2, none⟩ v) g a b v d e := by
  obtain ⟨h0, ⟨c0, c1, c2, c3, c4⟩, f0, f1, f2, f3, f4⟩ := h
  refine ⟨by simpa [World.setCell] using h0, ⟨?_, ?_, World.cell?_setCell_same _ _ _ c2, ?_, ?_⟩, by simpa using f0, by simpa using f1, by simpa using f2, by simpa using f3, by simpa using f4⟩
  · rw [World.cell?_setCell_other, c0]; simp
  · rw [World.cell?_setCell_other, c1]; simp
  · rw [World.cell?_setCell_other, c3]; simp
  · rw [World.cell?_setCell_other, c4]; simp
theorem Box5.set3 {w : World} {g : Nat} {a b c d e : Value} (h : Box5 w g a b c d e) (v : Value) : Box5 (w.setCell ⟨g, 3, none⟩ v) g a b c v e := by
  obtain ⟨h0, ⟨c0, c1, c2, c3, c4⟩, f0, f1, f2, f3, f4⟩ := h
  refine ⟨by simpa [World.setCell] using h0, ⟨?_, ?_, ?_, World.cell?_setCell_same _ _ _ c3, ?_⟩, by simpa using f0, by simpa using f1, by simpa using f2, by simpa using f3, by simpa using f4⟩
  · rw [World.cell?_setCell_other, c0]; simp
  · rw [World.cell?_setCell_other, c1]; simp
  · rw [World.cell?_setCell_other, c2]; simp
  · rw [World.cell?_setCell_other, c4]; simp
theorem Box5.set4 {w : World} {g : Nat} {a b c d e : Value} (h : Box5 w g a b c d e) (v : Value) : Box5 (w.setCell ⟨g, 4, none⟩ v) g a b c d v := by
  obtain ⟨h0, ⟨c0, c1, c2, c3, c4⟩, f0, f1, f2, f3, f4⟩ := h
  refine ⟨by simpa [World.setCell] using h0, ⟨?_, ?_, ?_, ?_, World.cell?_setCell_same _ _ _ c4⟩, by simpa using f0, by simpa using f1, by simpa using f2, by simpa using f3, by simpa using f4⟩
  · rw [World.cell?_setCell_other, c0]; simp
  · rw [World.cell?_setCell_other, c1]; simp
  · rw [World.cell?_setCell_other, c2]; simp
  · rw [World.cell?_setCell_other, c3]; simp
/-- All five cells set. -/
theorem Box5.all {w : World} {g : Nat} {a b c d e : Value} (h : Box5 w g a b c d e) (a' b' c' d' e' : Value) : Box5 (((((w.setCell ⟨g, 0, none⟩ (a')).setCell ⟨g, 1, none⟩ (b')).setCell ⟨g, 2, none⟩ (c')).setCell ⟨g, 3, none⟩ (d')).setCell ⟨g, 4, none⟩ (e')) g a' b' c' d' e' := ((((h.set0 a').set1 b').set2 c').set3 d').set4 e'
/-- What lies in a row lies in its beginning. -/
theorem row_front {w : World} {g : Nat} {l : List Int} (m : Nat) (h : RowAt 1 encI w (some ⟨g, 0, none⟩) l) : RowAt 1 encI w (some ⟨g, 0, none⟩) (l.take m) := h.takeR m
set_option maxRecDepth 100000 in
set_option maxHeartbeats 4000000 in
theorem place_any {w0 : World} {p : Nat} {A : Option Addr} {n c K : Nat} (w : World) (h : Dr w0 w p A n c K) (hk : K ≤ 800000) (hn : n ≤ 9223372036854775807) :
    Calls Try.prog 102 #[.pointer (some ⟨p, 0, none⟩)] w fun e w' => ∃ x y : Int, e = .returned (.tuple #[.int .i64 x, .int .i64 y]) ∧ Dr w0 w' p A n c (K + 8) ∧ w.grownBy w' (some p) := by
  have hlt := h.lt
  have HD := Lib.hid h
  have HOW := Lib.hid (fun (w : World) => own_made (E := 3) (K := 1) (n := 7) (cur := #[.int .i64 0, .int .i64 3, .int .i64 10, .int .i64 50, .int .i64 999, .int .i64 (-1), .int .i64 1000]) (w := w) rfl (by decide))
  have HOV := Lib.hid (fun (w : World) => own_made (E := 3) (K := 1) (n := 7) (cur := #[.int .i64 0, .int .i64 4, .int .i64 10, .int .i64 50, .int .i64 999, .int .i64 (-1), .int .i64 1000]) (w := w) rfl (by decide))
  clear h
  go_enter Try.func102, Try.ntmps102
  go_wp2_with fail
  refine (pick_dr 30 _ (HD.out.alloc _) (by omega) hn (by decide)).mono ?_; rintro e w1 ⟨r1, rfl, hr1, hd1, hg1⟩
  have HR1 := Lib.hid (RowAt.of_own (l := [0, 3, 10, 50, 999, -1, 1000]) (own_dr (HOW.out w) hg1 hlt) encI_len (by decide))
  have hq : r1 / 14 = 0 ∨ r1 / 14 = 1 ∨ r1 / 14 = 2 := by omega
  have hG := Lib.hid (only_two (only_alloc (World.grownBy.refl w (some p)) _) hg1)
  have HD1 := Lib.hid hd1
  clear hd1 hg1 hr1
  rcases hq with hq | hq | hq
  · go_wp2_with fail
    refine (among_dr [0, 3, 10, 50, 999] 5 _ _ _ HD1.out (by omega) hn (row_front 5 HR1.out) (by omega) rfl (by decide) (by decide)).mono ?_; rintro e w2 ⟨v2, rfl, hv2, hd2, hg2⟩
    have hlt2 := hd2.lt
    have hG2 := Lib.hid (only_two hG.out hg2)
    have hs2 := hg2.size
    have HD2 := Lib.hid hd2
    clear hd2 hg2
    go_wp2_with fail
    refine (pick_dr 30 _ (HD2.out.alloc _) (by omega) hn (by decide)).mono ?_; rintro e w3 ⟨r3, rfl, hr3, hd3, hg3⟩
    have HR3 := Lib.hid (RowAt.of_own (l := [0, 4, 10, 50, 999, -1, 1000]) (own_dr (HOV.out w2) hg3 hlt2) encI_len (by decide))
    have hq3 : r3 / 14 = 0 ∨ r3 / 14 = 1 ∨ r3 / 14 = 2 := by omega
    have hG3 := Lib.hid (only_two hG2.out (only_two (only_alloc (World.grownBy.refl w2 (some p)) _) hg3))
    have HD3 := Lib.hid hd3
    clear hd3 hg3 hr3
    rcases hq3 with hq3 | hq3 | hq3
    · go_wp2_with fail
      refine (among_dr [0, 4, 10, 50, 999] 5 _ _ _ HD3.out (by omega) hn (row_front 5 HR3.out) (by omega) rfl (by decide) (by decide)).mono ?_; rintro e w4 ⟨v4, rfl, hv4, hd4, hg4⟩
      go_wp2_with fail
      go_ret2
      exact ⟨v2, v4, rfl, hd4, only_two hG3.out hg4⟩
    · go_wp2_with fail
      refine (among_dr [0, 4, 10, 50, 999, -1] 6 _ _ _ HD3.out (by omega) hn (row_front 6 HR3.out) (by omega) rfl (by decide) (by decide)).mono ?_; rintro e w4 ⟨v4, rfl, hv4, hd4, hg4⟩
      go_wp2_with fail
      go_ret2
      exact ⟨v2, v4, rfl, hd4, only_two hG3.out hg4⟩
    · go_wp2_with fail
      refine (among_dr [0, 4, 10, 50, 999, -1, 1000] 7 _ _ _ HD3.out (by omega) hn (row_front 7 HR3.out) (by omega) rfl (by decide) (by decide)).mono ?_; rintro e w4 ⟨v4, rfl, hv4, hd4, hg4⟩
      go_wp2_with fail
      go_ret2
      exact ⟨v2, v4, rfl, hd4, only_two hG3.out hg4⟩
  · go_wp2_with fail
    refine (among_dr [0, 3, 10, 50, 999, -1] 6 _ _ _ HD1.out (by omega) hn (row_front 6 HR1.out) (by omega) rfl (by decide) (by decide)).mono ?_; rintro e w2 ⟨v2, rfl, hv2, hd2, hg2⟩
    have hlt2 := hd2.lt
    have hG2 := Lib.hid (only_two hG.out hg2)
    have hs2 := hg2.size
    have HD2 := Lib.hid hd2
    clear hd2 hg2
    go_wp2_with fail
    refine (pick_dr 30 _ (HD2.out.alloc _) (by omega) hn (by decide)).mono ?_; rintro e w3 ⟨r3, rfl, hr3, hd3, hg3⟩
    have HR3 := Lib.hid (RowAt.of_own (l := [0, 4, 10, 50, 999, -1, 1000]) (own_dr (HOV.out w2) hg3 hlt2) encI_len (by decide))
    have hq3 : r3 / 14 = 0 ∨ r3 / 14 = 1 ∨ r3 / 14 = 2 := by omega
    have hG3 := Lib.hid (only_two hG2.out (only_two (only_alloc (World.grownBy.refl w2 (some p)) _) hg3))
    have HD3 := Lib.hid hd3
    clear hd3 hg3 hr3
    rcases hq3 with hq3 | hq3 | hq3
    · go_wp2_with fail
      refine (among_dr [0, 4, 10, 50, 999] 5 _ _ _ HD3.out (by omega) hn (row_front 5 HR3.out) (by omega) rfl (by decide) (by decide)).mono ?_; rintro e w4 ⟨v4, rfl, hv4, hd4, hg4⟩
      go_wp2_with fail
      go_ret2
      exact ⟨v2, v4, rfl, hd4, only_two hG3.out hg4⟩
    · go_wp2_with fail
      refine (among_dr [0, 4, 10, 50, 999, -1] 6 _ _ _ HD3.out (by omega) hn (row_front 6 HR3.out) (by omega) rfl (by decide) (by decide)).mono ?_; rintro e w4 ⟨v4, rfl, hv4, hd4, hg4⟩
      go_wp2_with fail
      go_ret2
      exact ⟨v2, v4, rfl, hd4, only_two hG3.out hg4⟩
    · go_wp2_with fail
      refine (among_dr [0, 4, 10, 50, 999, -1, 1000] 7 _ _ _ HD3.out (by omega) hn (row_front 7 HR3.out) (by omega) rfl (by decide) (by decide)).mono ?_; rintro e w4 ⟨v4, rfl, hv4, hd4, hg4⟩
      go_wp2_with fail
      go_ret2
      exact ⟨v2, v4, rfl, hd4, only_two hG3.out hg4⟩
  · go_wp2_with fail
    refine (among_dr [0, 3, 10, 50, 999, -1, 1000] 7 _ _ _ HD1.out (by omega) hn (row_front 7 HR1.out) (by omega) rfl (by decide) (by decide)).mono ?_; rintro e w2 ⟨v2, rfl, hv2, hd2, hg2⟩
    have hlt2 := hd2.lt
    have hG2 := Lib.hid (only_two hG.out hg2)
    have hs2 := hg2.size
    have HD2 := Lib.hid hd2
    clear hd2 hg2
    go_wp2_with fail
    refine (pick_dr 30 _ (HD2.out.alloc _) (by omega) hn (by decide)).mono ?_; rintro e w3 ⟨r3, rfl, hr3, hd3, hg3⟩
    have HR3 := Lib.hid (RowAt.of_own (l := [0, 4, 10, 50, 999, -1, 1000]) (own_dr (HOV.out w2) hg3 hlt2) encI_len (by decide))
    have hq3 : r3 / 14 = 0 ∨ r3 / 14 = 1 ∨ r3 / 14 = 2 := by omega
    have hG3 := Lib.hid (only_two hG2.out (only_two (only_alloc (World.grownBy.refl w2 (some p)) _) hg3))
    have HD3 := Lib.hid hd3
    clear hd3 hg3 hr3
    rcases hq3 with hq3 | hq3 | hq3
    · go_wp2_with fail
      refine (among_dr [0, 4, 10, 50, 999] 5 _ _ _ HD3.out (by omega) hn (row_front 5 HR3.out) (by omega) rfl (by decide) (by decide)).mono ?_; rintro e w4 ⟨v4, rfl, hv4, hd4, hg4⟩
      go_wp2_with fail
      go_ret2
      exact ⟨v2, v4, rfl, hd4, only_two hG3.out hg4⟩
    · go_wp2_with fail
      refine (among_dr [0, 4, 10, 50, 999, -1] 6 _ _ _ HD3.out (by omega) hn (row_front 6 HR3.out) (by omega) rfl (by decide) (by decide)).mono ?_; rintro e w4 ⟨v4, rfl, hv4, hd4, hg4⟩
      go_wp2_with fail
      go_ret2
      exact ⟨v2, v4, rfl, hd4, only_two hG3.out hg4⟩
    · go_wp2_with fail
      refine (among_dr [0, 4, 10, 50, 999, -1, 1000] 7 _ _ _ HD3.out (by omega) hn (row_front 7 HR3.out) (by omega) rfl (by decide) (by decide)).mono ?_; rintro e w4 ⟨v4, rfl, hv4, hd4, hg4⟩
      go_wp2_with fail
      go_ret2
      exact ⟨v2, v4, rfl, hd4, only_two hG3.out hg4⟩
set_option maxRecDepth 100000 in
set_option maxHeartbeats 8000000 in
theorem felt_any {w0 : World} {p : Nat} {A : Option Addr} {n c K : Nat} (id : Int) (w : World) (h : Dr w0 w p A n c K) (hk : K ≤ 700000) (hn : n ≤ 9223372036854775807) :
    Calls Try.prog 100 #[.pointer (some ⟨p, 0, none⟩), .int .i64 id] w fun e w' => ∃ m : Fe, e = .returned (.agg #[.int .i64 m.id, .int .i64 m.x, .int .i64 m.y, .int .i64 m.lv, .int .i64 m.pp]) ∧ Dr w0 w' p A n c (K + 16) ∧ w.grownBy w' (some p) := by
  have hlt := h.lt
  have HD := Lib.hid h
  have HZ0 := Lib.hid (box5_new w (.int .i64 0) (.int .i64 0) (.int .i64 0) (.int .i64 0) (.int .i64 0) 25)
  clear h
  go_enter Try.func100, Try.ntmps100
  go_wp2_with fail
  refine (among_dr [1, 2, 4, 4, 5, 12] 6 _ _ _ ((HD.out.alloc _).alloc _) (by omega) hn ?_ ?_ ?_ (by decide) (by decide)).mono ?_
  · exact RowAt.of_block encI_len (heap_new2 _ _ _) rfl
  · omega
  · rfl
  rintro e w1 ⟨v1, rfl, hv1, hd1, hg1⟩
  have hs1 : w.heap.size + 2 ≤ w1.heap.size := by simpa using hg1.size
  have hlt1 := hd1.lt
  go_wp2_with fail
  refine (among_dr [1, 1, 5, 1000] 4 _ _ _ (hd1.alloc _) (by omega) hn ?_ ?_ ?_ (by decide) (by decide)).mono ?_
  · exact RowAt.of_block encI_len (heap_new1 _ _) rfl
  · omega
  · rfl
  rintro e w2 ⟨v2, rfl, hv2, hd2, hg2⟩
  have hgA := Lib.hid (only_two (only_two (only_alloc (only_alloc (World.grownBy.refl w (some p)) (.cells #[.int .i64 0, .int .i64 0, .int .i64 0, .int .i64 0, .int .i64 0] 25)) _) hg1) (only_two (only_alloc (World.grownBy.refl w1 (some p)) _) hg2))
  have hs2 : w.heap.size + 2 ≤ w2.heap.size := by have := hg2.size; simp at *; omega
  have hlt2 := hd2.lt
  have HZ2 := Lib.hid (HZ0.out.moved (only_two (only_two (only_alloc (World.grownBy.refl _ (some p)) _) hg1) (only_two (only_alloc (World.grownBy.refl w1 (some p)) _) hg2)) (by omega))
  have HQ2 := Lib.hid (box5_new w2 (.int .i64 id) (.int .i64 0) (.int .i64 0) (.int .i64 v1) (.int .i64 v2) 25)
  have HD2 := Lib.hid hd2
  have neP : w2.heap.size ≠ p := by omega
  have neZ : w.heap.size ≠ p := by omega
  have ne1 : w.heap.size ≠ w2.heap.size := by omega
  have ne2 : w2.heap.size ≠ w.heap.size := by omega
  clear hd1 hd2 hg1 hg2 hv1 hv2
  go_wp2_with fail
  refine (place_any _ (HD2.out.alloc _) (by omega) hn).mono ?_; rintro e w3 ⟨x, y, rfl, hd3, hg3⟩
  have hgB := Lib.hid (only_two (only_alloc (World.grownBy.refl w2 (some p)) (.cells #[.int .i64 id, .int .i64 0, .int .i64 0, .int .i64 v1, .int .i64 v2] 25)) hg3)
  have HG3 := Lib.hid (only_two hgA.out hgB.out)
  have HZ3 := Lib.hid (HZ2.out.moved hgB.out neZ)
  have HQ3 := Lib.hid (HQ2.out.moved hg3 neP)
  have HD3 := Lib.hid hd3
  obtain ⟨_, ⟨q0, q1, q2, q3, q4⟩, f0, f1, f2, f3, f4⟩ := HQ3.out
  clear hd3 hg3
  go_wp2_with fail
  have HQx := Lib.hid ((HQ3.out.set1 (.int .i64 x)).set2 (.int .i64 y))
  have HZx := Lib.hid ((HZ3.out.far ne1 (o := 1) (.int .i64 x)).far ne1 (o := 2) (.int .i64 y))
  have HBx : Hid (Below w.heap.size w3 ((w3.setCell ⟨w2.heap.size, 1, none⟩ (.int .i64 x)).setCell ⟨w2.heap.size, 2, none⟩ (.int .i64 y))) := Lib.hid (((Below.refl _ _).setCell (p := ⟨w2.heap.size, 1, none⟩) (by simp; omega) _).setCell (p := ⟨w2.heap.size, 2, none⟩) (by simp; omega) _)
  clear q0 q1 q2 q3 q4 f0 f1 f2 f3 f4
  generalize (w3.setCell ⟨w2.heap.size, 1, none⟩ (.int .i64 x)).setCell ⟨w2.heap.size, 2, none⟩ (.int .i64 y) = wq at HQx HZx HBx ⊢
  have hDq := Lib.hid (HD.out.above HD3.out HBx.out)
  have hGq := Lib.hid (only_above HG3.out HBx.out)
  have FIN := Lib.hid (fun (W : World) (k : Nat) (hd : Dr w0 W p A n c k) (hg : w.grownBy W (some p)) (hz : Box5 W w.heap.size (.int .i64 0) (.int .i64 0) (.int .i64 0) (.int .i64 0) (.int .i64 0)) (m : Fe) =>
    show Box5 (((((W.setCell ⟨w.heap.size, 0, none⟩ (.int .i64 m.id)).setCell ⟨w.heap.size, 1, none⟩ (.int .i64 m.x)).setCell ⟨w.heap.size, 2, none⟩ (.int .i64 m.y)).setCell ⟨w.heap.size, 3, none⟩ (.int .i64 m.lv)).setCell ⟨w.heap.size, 4, none⟩ (.int .i64 m.pp)) w.heap.size (.int .i64 m.id) (.int .i64 m.x) (.int .i64 m.y) (.int .i64 m.lv) (.int .i64 m.pp) ∧ Dr w0 (((((W.setCell ⟨w.heap.size, 0, none⟩ (.int .i64 m.id)).setCell ⟨w.heap.size, 1, none⟩ (.int .i64 m.x)).setCell ⟨w.heap.size, 2, none⟩ (.int .i64 m.y)).setCell ⟨w.heap.size, 3, none⟩ (.int .i64 m.lv)).setCell ⟨w.heap.size, 4, none⟩ (.int .i64 m.pp)) p A n c k ∧ w.grownBy (((((W.setCell ⟨w.heap.size, 0, none⟩ (.int .i64 m.id)).setCell ⟨w.heap.size, 1, none⟩ (.int .i64 m.x)).setCell ⟨w.heap.size, 2, none⟩ (.int .i64 m.y)).setCell ⟨w.heap.size, 3, none⟩ (.int .i64 m.lv)).setCell ⟨w.heap.size, 4, none⟩ (.int .i64 m.pp)) (some p) by
      have hB : Below w.heap.size W (((((W.setCell ⟨w.heap.size, 0, none⟩ (.int .i64 m.id)).setCell ⟨w.heap.size, 1, none⟩ (.int .i64 m.x)).setCell ⟨w.heap.size, 2, none⟩ (.int .i64 m.y)).setCell ⟨w.heap.size, 3, none⟩ (.int .i64 m.lv)).setCell ⟨w.heap.size, 4, none⟩ (.int .i64 m.pp)) := ((((((Below.refl _ _).setCell (p := ⟨w.heap.size, 0, none⟩) (by simp) _).setCell (p := ⟨w.heap.size, 1, none⟩) (by simp) _).setCell (p := ⟨w.heap.size, 2, none⟩) (by simp) _).setCell (p := ⟨w.heap.size, 3, none⟩) (by simp) _).setCell (p := ⟨w.heap.size, 4, none⟩) (by simp) _)
      exact ⟨hz.all _ _ _ _ _, HD.out.above hd hB, only_above hg hB⟩)
  clear HD3 HG3 HQ3 HZ3 hgA hgB HQ2 HZ2 HZ0
  refine (pick_dr 80 _ hDq.out (by omega) hn (by decide)).mono ?_; rintro e w5 ⟨r5, rfl, hr5, hd5, hg5⟩
  have HD5 := Lib.hid hd5
  have hlt5 := hd5.lt
  have HG5 := Lib.hid (only_two hGq.out hg5)
  have HQ5 := Lib.hid (HQx.out.moved hg5 neP)
  have HZ5 := Lib.hid (HZx.out.moved hg5 neZ)
  have hs5 := HG5.out.size
  obtain ⟨hqz, ⟨q0, q1, q2, q3, q4⟩, f0, f1, f2, f3, f4⟩ := HQ5.out
  obtain ⟨hzz, ⟨z0, z1, z2, z3, z4⟩, y0, y1, y2, y3, y4⟩ := HZ5.out
  clear hd5 hg5
  go_wp2_with fail
  case _ =>
    refine (among_dr [0, 9999, 10000] 3 _ _ _ (HD5.out.alloc _) (by omega) hn ?_ ?_ ?_ (by decide) (by decide)).mono ?_
    · exact RowAt.of_block encI_len (heap_new1 _ _) rfl
    · omega
    · rfl
    rintro e w6 ⟨v6, rfl, hv6, hd6, hg6⟩
    have hgC := only_two (only_alloc (World.grownBy.refl w5 (some p)) _) hg6
    have HQ6 := Lib.hid (HQ5.out.moved hgC neP)
    have HZ6 := Lib.hid (HZ5.out.moved hgC neZ)
    have HG6 := Lib.hid (only_two HG5.out hgC)
    obtain ⟨_, ⟨q0, q1, q2, q3, q4⟩, f0, f1, f2, f3, f4⟩ := HQ6.out
    obtain ⟨_, ⟨z0, z1, z2, z3, z4⟩, y0, y1, y2, y3, y4⟩ := HZ6.out
    go_wp2_with fail
    have HB : Hid (Below w.heap.size w6 (w6.setCell ⟨w2.heap.size, 0, none⟩ (.int .i64 v6))) := Lib.hid ((Below.refl _ _).setCell (p := ⟨w2.heap.size, 0, none⟩) (by simp; omega) _)
    have HZ7 := Lib.hid (HZ6.out.far ne1 (o := 0) (.int .i64 v6))
    have HD7 := Lib.hid (HD.out.above hd6 HB.out)
    have HG7 := Lib.hid (only_above HG6.out HB.out)
    generalize w6.setCell ⟨w2.heap.size, 0, none⟩ (.int .i64 v6) = w7 at HZ7 HD7 HG7 ⊢
    obtain ⟨hbx, hdx, hgx⟩ := FIN.out w7 _ HD7.out HG7.out HZ7.out ⟨v6, x, y, v1, v2⟩
    obtain ⟨_, ⟨s0, s1, s2, s3, s4⟩, _⟩ := hbx
    generalize (((((w7.setCell ⟨w.heap.size, 0, none⟩ (.int .i64 v6)).setCell ⟨w.heap.size, 1, none⟩ (.int .i64 x)).setCell ⟨w.heap.size, 2, none⟩ (.int .i64 y)).setCell ⟨w.heap.size, 3, none⟩ (.int .i64 v1)).setCell ⟨w.heap.size, 4, none⟩ (.int .i64 v2)) = WW at s0 s1 s2 s3 s4 hdx hgx ⊢
    exact bodyPost_ret (v := .agg #[.int .i64 v6, .int .i64 x, .int .i64 y, .int .i64 v1, .int .i64 v2]) (by simp [results, Try.results100, go_sem, s0, s1, s2, s3, s4]) rfl ⟨⟨v6, x, y, v1, v2⟩, rfl, hdx.more (by omega), hgx⟩
  case _ =>
    refine (among_dr [0, 13] 2 _ _ _ (HD5.out.alloc _) (by omega) hn ?_ ?_ ?_ (by decide) (by decide)).mono ?_
    · exact RowAt.of_block encI_len (heap_new1 _ _) rfl
    · omega
    · rfl
    rintro e w6 ⟨v6, rfl, hv6, hd6, hg6⟩
    have hgC := only_two (only_alloc (World.grownBy.refl w5 (some p)) _) hg6
    have HQ6 := Lib.hid (HQ5.out.moved hgC neP)
    have HZ6 := Lib.hid (HZ5.out.moved hgC neZ)
    have HG6 := Lib.hid (only_two HG5.out hgC)
    obtain ⟨_, ⟨q0, q1, q2, q3, q4⟩, f0, f1, f2, f3, f4⟩ := HQ6.out
    obtain ⟨_, ⟨z0, z1, z2, z3, z4⟩, y0, y1, y2, y3, y4⟩ := HZ6.out
    go_wp2_with fail
    have HB : Hid (Below w.heap.size w6 (w6.setCell ⟨w2.heap.size, 3, none⟩ (.int .i64 v6))) := Lib.hid ((Below.refl _ _).setCell (p := ⟨w2.heap.size, 3, none⟩) (by simp; omega) _)
    have HZ7 := Lib.hid (HZ6.out.far ne1 (o := 3) (.int .i64 v6))
    have HD7 := Lib.hid (HD.out.above hd6 HB.out)
    have HG7 := Lib.hid (only_above HG6.out HB.out)
    generalize w6.setCell ⟨w2.heap.size, 3, none⟩ (.int .i64 v6) = w7 at HZ7 HD7 HG7 ⊢
    obtain ⟨hbx, hdx, hgx⟩ := FIN.out w7 _ HD7.out HG7.out HZ7.out ⟨id, x, y, v6, v2⟩
    obtain ⟨_, ⟨s0, s1, s2, s3, s4⟩, _⟩ := hbx
    generalize (((((w7.setCell ⟨w.heap.size, 0, none⟩ (.int .i64 id)).setCell ⟨w.heap.size, 1, none⟩ (.int .i64 x)).setCell ⟨w.heap.size, 2, none⟩ (.int .i64 y)).setCell ⟨w.heap.size, 3, none⟩ (.int .i64 v6)).setCell ⟨w.heap.size, 4, none⟩ (.int .i64 v2)) = WW at s0 s1 s2 s3 s4 hdx hgx ⊢
    exact bodyPost_ret (v := .agg #[.int .i64 id, .int .i64 x, .int .i64 y, .int .i64 v6, .int .i64 v2]) (by simp [results, Try.results100, go_sem, s0, s1, s2, s3, s4]) rfl ⟨⟨id, x, y, v6, v2⟩, rfl, hdx.more (by omega), hgx⟩
  case _ =>
    refine (among_dr [0, 1001] 2 _ _ _ (HD5.out.alloc _) (by omega) hn ?_ ?_ ?_ (by decide) (by decide)).mono ?_
    · exact RowAt.of_block encI_len (heap_new1 _ _) rfl
    · omega
    · rfl
    rintro e w6 ⟨v6, rfl, hv6, hd6, hg6⟩
    have hgC := only_two (only_alloc (World.grownBy.refl w5 (some p)) _) hg6
    have HQ6 := Lib.hid (HQ5.out.moved hgC neP)
    have HZ6 := Lib.hid (HZ5.out.moved hgC neZ)
    have HG6 := Lib.hid (only_two HG5.out hgC)
    obtain ⟨_, ⟨q0, q1, q2, q3, q4⟩, f0, f1, f2, f3, f4⟩ := HQ6.out
    obtain ⟨_, ⟨z0, z1, z2, z3, z4⟩, y0, y1, y2, y3, y4⟩ := HZ6.out
    go_wp2_with fail
    have HB : Hid (Below w.heap.size w6 (w6.setCell ⟨w2.heap.size, 4, none⟩ (.int .i64 v6))) := Lib.hid ((Below.refl _ _).setCell (p := ⟨w2.heap.size, 4, none⟩) (by simp; omega) _)
    have HZ7 := Lib.hid (HZ6.out.far ne1 (o := 4) (.int .i64 v6))
    have HD7 := Lib.hid (HD.out.above hd6 HB.out)
    have HG7 := Lib.hid (only_above HG6.out HB.out)
    generalize w6.setCell ⟨w2.heap.size, 4, none⟩ (.int .i64 v6) = w7 at HZ7 HD7 HG7 ⊢
    obtain ⟨hbx, hdx, hgx⟩ := FIN.out w7 _ HD7.out HG7.out HZ7.out ⟨id, x, y, v1, v6⟩
    obtain ⟨_, ⟨s0, s1, s2, s3, s4⟩, _⟩ := hbx
    generalize (((((w7.setCell ⟨w.heap.size, 0, none⟩ (.int .i64 id)).setCell ⟨w.heap.size, 1, none⟩ (.int .i64 x)).setCell ⟨w.heap.size, 2, none⟩ (.int .i64 y)).setCell ⟨w.heap.size, 3, none⟩ (.int .i64 v1)).setCell ⟨w.heap.size, 4, none⟩ (.int .i64 v6)) = WW at s0 s1 s2 s3 s4 hdx hgx ⊢
    exact bodyPost_ret (v := .agg #[.int .i64 id, .int .i64 x, .int .i64 y, .int .i64 v1, .int .i64 v6]) (by simp [results, Try.results100, go_sem, s0, s1, s2, s3, s4]) rfl ⟨⟨id, x, y, v1, v6⟩, rfl, hdx.more (by omega), hgx⟩
  case _ =>
    obtain ⟨hbx, hdx, hgx⟩ := FIN.out w5 _ HD5.out HG5.out HZ5.out ⟨id, x, y, v1, v2⟩
    obtain ⟨_, ⟨s0, s1, s2, s3, s4⟩, _⟩ := hbx
    generalize (((((w5.setCell ⟨w.heap.size, 0, none⟩ (.int .i64 id)).setCell ⟨w.heap.size, 1, none⟩ (.int .i64 x)).setCell ⟨w.heap.size, 2, none⟩ (.int .i64 y)).setCell ⟨w.heap.size, 3, none⟩ (.int .i64 v1)).setCell ⟨w.heap.size, 4, none⟩ (.int .i64 v2)) = WW at s0 s1 s2 s3 s4 hdx hgx ⊢
    exact bodyPost_ret (v := .agg #[.int .i64 id, .int .i64 x, .int .i64 y, .int .i64 v1, .int .i64 v2]) (by simp [results, Try.results100, go_sem, s0, s1, s2, s3, s4]) rfl ⟨⟨id, x, y, v1, v2⟩, rfl, hdx.more (by omega), hgx⟩
end Go.Proofs.Ytjjinblahmcplaa
