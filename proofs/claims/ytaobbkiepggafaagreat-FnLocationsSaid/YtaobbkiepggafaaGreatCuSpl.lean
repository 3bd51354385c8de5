/-
  The halves of a cube, and all possible cubes with a side, in plain words; the two splits.
-/
import Derived.Test.YtaobbkiepggafaaGreatCuCan
import Derived.Test.YtaobbkiepggafaaGreatApp
import Derived.Test.YtaobbkiepggafaaGreatArAf
import Derived.Deep.RegionHeld3
namespace Go.Proofs.YtaobbkiepggafaaGreat
set_option linter.unusedVariables false
set_option linter.unusedSimpArgs false
set_option linter.unnecessarySimpa false
open Go.RowKit
attribute [local go_sem] ext_cell ext_frozen

def subC (m : Cu) (k : Nat) : Cu := ⟨m.ws + ((k / 2 : Nat) : Int) * (m.sd / 2), m.so + ((k % 2 : Nat) : Int) * (m.sd / 2), m.sd / 2, m.fr, m.to_⟩
def chN (m : Cu) (n : Nat) : List Cu := ((List.range n).map (subC m)).filter fun c => placeB c.ws c.so
def chC (m : Cu) : List Cu := chN m 4
theorem chN_hit {m : Cu} {k : Nat} (h : placeB (subC m k).ws (subC m k).so = true) : chN m (k + 1) = chN m k ++ [subC m k] := by
  unfold chN; rw [List.range_succ, List.map_append, List.filter_append]; simp [h]
theorem chN_miss {m : Cu} {k : Nat} (h : placeB (subC m k).ws (subC m k).so = false) : chN m (k + 1) = chN m k := by
  unfold chN; rw [List.range_succ, List.map_append, List.filter_append]; simp [h]
theorem chN_len (m : Cu) (n : Nat) : (chN m n).length ≤ n := by
  unfold chN
  exact Nat.le_trans (List.length_filter_le _ _) (by simp)
theorem half_side {s : Int} (h : sideB s = true) (h2 : 2 ≤ s) : sideB (s / 2) = true ∧ 2 * (s / 2) = s := by
  rw [sideB_iff] at h ⊢
  omega
theorem half_ge {s t : Int} (h : sideB s = true) (ht : sideB t = true) (hlt : t < s) : t ≤ s / 2 := by
  rw [sideB_iff] at h ht
  omega
theorem mod_half {a h : Int} (hp : 0 < h) (hm : a % (2 * h) = 0) : a % h = 0 := by
  have h1 : (2 * h) ∣ a := Int.dvd_of_emod_eq_zero hm
  exact Int.emod_eq_zero_of_dvd (Int.dvd_trans ⟨2, by omega⟩ h1)
theorem mod_half2 {a h : Int} (k : Int) (hm : a % h = 0) : (a + k * h) % h = 0 := by
  rw [Int.add_mul_emod_self_right]; exact hm
theorem sub_good {m : Cu} (hm : cubeB m = true) (h2 : 2 ≤ m.sd) (k : Nat) : cubeB (subC m k) = placeB (subC m k).ws (subC m k).so := by
  have hm' := hm
  unfold cubeB at hm'
  simp only [Bool.and_eq_true, decide_eq_true_eq] at hm'
  obtain ⟨⟨⟨⟨⟨⟨h1, h3⟩, h4⟩, h5⟩, h6⟩, h7⟩, h8⟩ := hm'
  obtain ⟨hs, he⟩ := half_side h1 h2
  have hb := sideB_bd hs
  have w1 : (subC m k).ws % (subC m k).sd = 0 := by
    show (m.ws + ((k / 2 : Nat) : Int) * (m.sd / 2)) % (m.sd / 2) = 0
    exact mod_half2 _ (mod_half (by omega) (by rw [he]; exact h4))
  have w2 : (subC m k).so % (subC m k).sd = 0 := by
    show (m.so + ((k % 2 : Nat) : Int) * (m.sd / 2)) % (m.sd / 2) = 0
    exact mod_half2 _ (mod_half (by omega) (by rw [he]; exact h5))
  unfold cubeB
  rw [w1, w2]
  have e1 : (subC m k).sd = m.sd / 2 := rfl
  have e2 : (subC m k).fr = m.fr := rfl
  have e3 : (subC m k).to_ = m.to_ := rfl
  rw [e1, e2, e3, hs, h6, h7]
  simp [h8]
theorem ch_in {m c : Cu} {n : Nat} (hm : cubeB m = true) (h2 : 2 ≤ m.sd) (hc : c ∈ chN m n) : cubeB c = true ∧ c.sd = m.sd / 2 ∧ c.fr = m.fr ∧ c.to_ = m.to_ := by
  unfold chN at hc
  obtain ⟨h1, h3⟩ := List.mem_filter.1 hc
  obtain ⟨k, _, rfl⟩ := List.mem_map.1 h1
  exact ⟨(sub_good hm h2 k).trans h3, rfl, rfl, rfl⟩
def allC (l : List Ar) (side : Int) : Nat → Cu → List Cu
  | 0, _ => []
  | d + 1, m => if l.all (canA m) then (if m.sd = side then [m] else (chC m).flatMap (allC l side d)) else []
theorem allC_no {l : List Ar} {side : Int} {d : Nat} {m : Cu} (h : l.all (canA m) = false) : allC l side (d + 1) m = [] := by simp [allC, h]
theorem allC_one {l : List Ar} {side : Int} {d : Nat} {m : Cu} (h : l.all (canA m) = true) (h2 : m.sd = side) : allC l side (d + 1) m = [m] := by simp [allC, h, h2]
theorem allC_ch {l : List Ar} {side : Int} {d : Nat} {m : Cu} (h : l.all (canA m) = true) (h2 : m.sd ≠ side) : allC l side (d + 1) m = (chC m).flatMap (allC l side d) := by simp [allC, h, h2]

theorem infoCu12 : (Tryz.prog.info? 26).map (fun i => (i.zero, i.size, i.bytes)) = some (some (.agg #[.int .i64 0, .int .i64 0, .int .i64 0, .int .i64 0, .int .i64 0]), 5, 40) := infoCu
theorem subC_0 (m : Cu) : subC m 0 = ⟨m.ws, m.so, m.sd / 2, m.fr, m.to_⟩ := by simp [subC]
theorem subC_1 (m : Cu) : subC m 1 = ⟨m.ws, (m.so + m.sd / 2), m.sd / 2, m.fr, m.to_⟩ := by simp [subC]
theorem subC_2 (m : Cu) : subC m 2 = ⟨(m.ws + m.sd / 2), m.so, m.sd / 2, m.fr, m.to_⟩ := by simp [subC]
theorem subC_3 (m : Cu) : subC m 3 = ⟨(m.ws + m.sd / 2), (m.so + m.sd / 2), m.sd / 2, m.fr, m.to_⟩ := by simp [subC]
set_option maxRecDepth 100000 in
set_option maxHeartbeats 8000000 in
theorem l12Split_any (m : Cu) (w : World) (hm : cubeB m = true) (h2 : 2 ≤ m.sd) :
    Calls Tryz.prog 66 #[.agg #[.int .i64 m.ws, .int .i64 m.so, .int .i64 m.sd, .int .i64 m.fr, .int .i64 m.to_]] w (MkS 26 5 (chC m).length ((chC m).flatMap encCu) w) := by
  obtain ⟨bs, bw, bo, bf, bt⟩ := cubeB_bounds hm
  have HB0 := Lib.hid (boxCu w 26 m)
  have hh : 0 ≤ m.sd / 2 ∧ m.sd / 2 ≤ 256 := by omega
  have hv : m.sd.tdiv 2 = m.sd / 2 := Int.tdiv_eq_ediv_of_nonneg (by omega)
  have hwv2 : IntKind.i64.wrap (m.sd / 2) = m.sd / 2 := by rw [IntKind.wrap_i64]; omega
  have hwv : IntKind.i64.wrap (m.sd.tdiv 2) = m.sd / 2 := by rw [hv, hwv2]
  go_enter Tryz.func66, Tryz.ntmps66
  go_wp2_with fail
  go_region_held3 (fun w' => w'.cell? ⟨w.heap.size, 2, none⟩ = some (.int .i64 m.sd)) (go_keep) (fail)
  obtain ⟨w2, hw2, HO0⟩ : ∃ w2 : World, w2 = ((w.alloc (.cells #[.int .i64 m.ws, .int .i64 m.so, .int .i64 m.sd, .int .i64 m.fr, .int .i64 m.to_] 26)).alloc (.cells #[] 26)).drew ∧ Hid (w2.ownsRow (w.alloc (.cells #[.int .i64 m.ws, .int .i64 m.so, .int .i64 m.sd, .int .i64 m.fr, .int .i64 m.to_] 26)).heap.size 26 5 (.slice (some ⟨w.heap.size + 1, 0, none⟩) 0 0) 0 []) := ⟨_, rfl, Lib.hid (by
    have h := own_made (E := 26) (K := 5) (n := 0) (cur := #[]) (w := (w.alloc (.cells #[.int .i64 m.ws, .int .i64 m.so, .int .i64 m.sd, .int .i64 m.fr, .int .i64 m.to_] 26))) rfl (Nat.zero_le _)
    have h2 := h.drew
    simp only [World.size_alloc] at h2 ⊢
    exact h2)⟩
  have hb2 : Below (w.alloc (.cells #[.int .i64 m.ws, .int .i64 m.so, .int .i64 m.sd, .int .i64 m.fr, .int .i64 m.to_] 26)).heap.size (w.alloc (.cells #[.int .i64 m.ws, .int .i64 m.so, .int .i64 m.sd, .int .i64 m.fr, .int .i64 m.to_] 26)) w2 := by rw [hw2]; exact bdrew (balloc (bref _) _)
  go_wp2_with fail
  try rw [← hw2]
  clear hw2
  try simp only [hwv, hv, hwv2]
  go_loopw [3, 5] (fun v i wr => ∃ (k : Nat) (D : List Cu) (A' : Option Addr) (c' : Nat), k ≤ 4 ∧ i = .int .i64 k ∧ v = .slice A' D.length c' ∧ D.length ≤ k ∧ Hid (D = chN m k) ∧ Below (w.alloc (.cells #[.int .i64 m.ws, .int .i64 m.so, .int .i64 m.sd, .int .i64 m.fr, .int .i64 m.to_] 26)).heap.size (w.alloc (.cells #[.int .i64 m.ws, .int .i64 m.so, .int .i64 m.sd, .int .i64 m.fr, .int .i64 m.to_] 26)) wr ∧ Hid (wr.ownsRow (w.alloc (.cells #[.int .i64 m.ws, .int .i64 m.so, .int .i64 m.sd, .int .i64 m.fr, .int .i64 m.to_] 26)).heap.size 26 5 (.slice A' D.length c') D.length (D.flatMap encCu))) (fun _ i _ => 4 - (intOf i).toNat)
  case atStart => exact ⟨0, [], some ⟨w.heap.size + 1, 0, none⟩, 0, Nat.zero_le _, rfl, rfl, Nat.le_refl _, Lib.hid rfl, hb2, HO0⟩
  case round =>
    clear HO0 hb2
    obtain ⟨k, D, A', c', hk, rfl, rfl, hDl, HD, hbr, HO⟩ := hrel
    have hbw := bstep (balloc (bref w) _) hbr
    have hs := hbr.size
    simp only [World.size_alloc] at hs
    obtain ⟨c0, c1, c2, c3, c4⟩ := cellCu (by simp) HB0.out hbr
    have hz : w.heap.size < wr.heap.size := by omega
    obtain rfl | rfl | rfl | rfl | rfl : k = 0 ∨ k = 1 ∨ k = 2 ∨ k = 3 ∨ k = 4 := by omega
    · have HS := sub_good hm h2 0
      rw [subC_0] at HS
      have HBC := Lib.hid (boxCu wr 26 ⟨m.ws, m.so, m.sd / 2, m.fr, m.to_⟩)
      cases hp : placeB m.ws m.so
      · have HG := Lib.hid (fun W => by have := l12Good_any ⟨m.ws, m.so, m.sd / 2, m.fr, m.to_⟩ W; rw [HS, hp] at this; exact this)
        have HN := Lib.hid (chN_miss (m := m) (k := 0) (by rw [subC_0]; exact hp))
        clear HS
        go_wp2_with (go_at_call 39; (with_reducible refine (HG.out _).mono ?_); rintro e w5 ⟨rfl, hb5⟩)
        go_roundw
        case rel => exact ⟨1, D, A', c', by omega, by go_num, rfl, by omega, Lib.hid (HD.out.trans HN.out.symm), bstep (balloc hbr _) hb5, Lib.hid (own_below (HO.out.alloc _) hb5)⟩
        case measure => simp [intOf]
      · have HG := Lib.hid (fun W => by have := l12Good_any ⟨m.ws, m.so, m.sd / 2, m.fr, m.to_⟩ W; rw [HS, hp] at this; exact this)
        have HN := Lib.hid (chN_hit (m := m) (k := 0) (by rw [subC_0]; exact hp))
        rw [subC_0, ← HD.out] at HN
        clear HS
        go_wp2_with (first | (go_at_call 39; (with_reducible refine (HG.out _).mono ?_); rintro e w5 ⟨rfl, hb5⟩; obtain ⟨x0, x1, x2, x3, x4⟩ := cellCu (by simp) HBC.out hb5; have hs5 := hb5.size; have HO5 := Lib.hid (own_below (HO.out.alloc _) hb5)) | (at_builtin; refine wpList_app rfl _ _ 29 26 5 40 _ rfl Tryz.underlying29 infoCu rfl (by decide) (w.alloc (.cells #[.int .i64 m.ws, .int .i64 m.so, .int .i64 m.sd, .int .i64 m.fr, .int .i64 m.to_] 26)).heap.size _ D.length _ (by rfl) (HO5.out.alloc _) _ _ (by rfl) (heap_new1 _ _) rfl (encCu_one ⟨m.ws, m.so, m.sd / 2, m.fr, m.to_⟩) (by omega) (by decide) (by simp at hs5 ⊢; omega) ?_; intro g7 c7 w7 ho7 hg7 hl7))
        go_roundw
        case rel => exact ⟨1, D ++ [⟨m.ws, m.so, m.sd / 2, m.fr, m.to_⟩], some ⟨g7, 0, none⟩, c7, by omega, by go_num, by simp, by rw [List.length_append, List.length_singleton]; omega, Lib.hid HN.out.symm, bgrown (balloc (bstep (balloc hbr _) hb5) _) hg7 (fun k hk => row_mine HO5.out k hk), Lib.hid (by simpa [encCu] using ho7)⟩
        case measure => simp [intOf]
    · have HS := sub_good hm h2 1
      rw [subC_1] at HS
      have HBC := Lib.hid (boxCu wr 26 ⟨m.ws, (m.so + m.sd / 2), m.sd / 2, m.fr, m.to_⟩)
      cases hp : placeB m.ws (m.so + m.sd / 2)
      · have HG := Lib.hid (fun W => by have := l12Good_any ⟨m.ws, (m.so + m.sd / 2), m.sd / 2, m.fr, m.to_⟩ W; rw [HS, hp] at this; exact this)
        have HN := Lib.hid (chN_miss (m := m) (k := 1) (by rw [subC_1]; exact hp))
        clear HS
        go_wp2_with (go_at_call 39; (with_reducible refine (HG.out _).mono ?_); rintro e w5 ⟨rfl, hb5⟩)
        go_roundw
        case rel => exact ⟨2, D, A', c', by omega, by go_num, rfl, by omega, Lib.hid (HD.out.trans HN.out.symm), bstep (balloc hbr _) hb5, Lib.hid (own_below (HO.out.alloc _) hb5)⟩
        case measure => simp [intOf]
      · have HG := Lib.hid (fun W => by have := l12Good_any ⟨m.ws, (m.so + m.sd / 2), m.sd / 2, m.fr, m.to_⟩ W; rw [HS, hp] at this; exact this)
        have HN := Lib.hid (chN_hit (m := m) (k := 1) (by rw [subC_1]; exact hp))
        rw [subC_1, ← HD.out] at HN
        clear HS
        go_wp2_with (first | (go_at_call 39; (with_reducible refine (HG.out _).mono ?_); rintro e w5 ⟨rfl, hb5⟩; obtain ⟨x0, x1, x2, x3, x4⟩ := cellCu (by simp) HBC.out hb5; have hs5 := hb5.size; have HO5 := Lib.hid (own_below (HO.out.alloc _) hb5)) | (at_builtin; refine wpList_app rfl _ _ 29 26 5 40 _ rfl Tryz.underlying29 infoCu rfl (by decide) (w.alloc (.cells #[.int .i64 m.ws, .int .i64 m.so, .int .i64 m.sd, .int .i64 m.fr, .int .i64 m.to_] 26)).heap.size _ D.length _ (by rfl) (HO5.out.alloc _) _ _ (by rfl) (heap_new1 _ _) rfl (encCu_one ⟨m.ws, (m.so + m.sd / 2), m.sd / 2, m.fr, m.to_⟩) (by omega) (by decide) (by simp at hs5 ⊢; omega) ?_; intro g7 c7 w7 ho7 hg7 hl7))
        go_roundw
        case rel => exact ⟨2, D ++ [⟨m.ws, (m.so + m.sd / 2), m.sd / 2, m.fr, m.to_⟩], some ⟨g7, 0, none⟩, c7, by omega, by go_num, by simp, by rw [List.length_append, List.length_singleton]; omega, Lib.hid HN.out.symm, bgrown (balloc (bstep (balloc hbr _) hb5) _) hg7 (fun k hk => row_mine HO5.out k hk), Lib.hid (by simpa [encCu] using ho7)⟩
        case measure => simp [intOf]
    · have HS := sub_good hm h2 2
      rw [subC_2] at HS
      have HBC := Lib.hid (boxCu wr 26 ⟨(m.ws + m.sd / 2), m.so, m.sd / 2, m.fr, m.to_⟩)
      cases hp : placeB (m.ws + m.sd / 2) m.so
      · have HG := Lib.hid (fun W => by have := l12Good_any ⟨(m.ws + m.sd / 2), m.so, m.sd / 2, m.fr, m.to_⟩ W; rw [HS, hp] at this; exact this)
        have HN := Lib.hid (chN_miss (m := m) (k := 2) (by rw [subC_2]; exact hp))
        clear HS
        go_wp2_with (go_at_call 39; (with_reducible refine (HG.out _).mono ?_); rintro e w5 ⟨rfl, hb5⟩)
        go_roundw
        case rel => exact ⟨3, D, A', c', by omega, by go_num, rfl, by omega, Lib.hid (HD.out.trans HN.out.symm), bstep (balloc hbr _) hb5, Lib.hid (own_below (HO.out.alloc _) hb5)⟩
        case measure => simp [intOf]
      · have HG := Lib.hid (fun W => by have := l12Good_any ⟨(m.ws + m.sd / 2), m.so, m.sd / 2, m.fr, m.to_⟩ W; rw [HS, hp] at this; exact this)
        have HN := Lib.hid (chN_hit (m := m) (k := 2) (by rw [subC_2]; exact hp))
        rw [subC_2, ← HD.out] at HN
        clear HS
        go_wp2_with (first | (go_at_call 39; (with_reducible refine (HG.out _).mono ?_); rintro e w5 ⟨rfl, hb5⟩; obtain ⟨x0, x1, x2, x3, x4⟩ := cellCu (by simp) HBC.out hb5; have hs5 := hb5.size; have HO5 := Lib.hid (own_below (HO.out.alloc _) hb5)) | (at_builtin; refine wpList_app rfl _ _ 29 26 5 40 _ rfl Tryz.underlying29 infoCu rfl (by decide) (w.alloc (.cells #[.int .i64 m.ws, .int .i64 m.so, .int .i64 m.sd, .int .i64 m.fr, .int .i64 m.to_] 26)).heap.size _ D.length _ (by rfl) (HO5.out.alloc _) _ _ (by rfl) (heap_new1 _ _) rfl (encCu_one ⟨(m.ws + m.sd / 2), m.so, m.sd / 2, m.fr, m.to_⟩) (by omega) (by decide) (by simp at hs5 ⊢; omega) ?_; intro g7 c7 w7 ho7 hg7 hl7))
        go_roundw
        case rel => exact ⟨3, D ++ [⟨(m.ws + m.sd / 2), m.so, m.sd / 2, m.fr, m.to_⟩], some ⟨g7, 0, none⟩, c7, by omega, by go_num, by simp, by rw [List.length_append, List.length_singleton]; omega, Lib.hid HN.out.symm, bgrown (balloc (bstep (balloc hbr _) hb5) _) hg7 (fun k hk => row_mine HO5.out k hk), Lib.hid (by simpa [encCu] using ho7)⟩
        case measure => simp [intOf]
    · have HS := sub_good hm h2 3
      rw [subC_3] at HS
      have HBC := Lib.hid (boxCu wr 26 ⟨(m.ws + m.sd / 2), (m.so + m.sd / 2), m.sd / 2, m.fr, m.to_⟩)
      cases hp : placeB (m.ws + m.sd / 2) (m.so + m.sd / 2)
      · have HG := Lib.hid (fun W => by have := l12Good_any ⟨(m.ws + m.sd / 2), (m.so + m.sd / 2), m.sd / 2, m.fr, m.to_⟩ W; rw [HS, hp] at this; exact this)
        have HN := Lib.hid (chN_miss (m := m) (k := 3) (by rw [subC_3]; exact hp))
        clear HS
        go_wp2_with (go_at_call 39; (with_reducible refine (HG.out _).mono ?_); rintro e w5 ⟨rfl, hb5⟩)
        go_roundw
        case rel => exact ⟨4, D, A', c', by omega, by go_num, rfl, by omega, Lib.hid (HD.out.trans HN.out.symm), bstep (balloc hbr _) hb5, Lib.hid (own_below (HO.out.alloc _) hb5)⟩
        case measure => simp [intOf]
      · have HG := Lib.hid (fun W => by have := l12Good_any ⟨(m.ws + m.sd / 2), (m.so + m.sd / 2), m.sd / 2, m.fr, m.to_⟩ W; rw [HS, hp] at this; exact this)
        have HN := Lib.hid (chN_hit (m := m) (k := 3) (by rw [subC_3]; exact hp))
        rw [subC_3, ← HD.out] at HN
        clear HS
        go_wp2_with (first | (go_at_call 39; (with_reducible refine (HG.out _).mono ?_); rintro e w5 ⟨rfl, hb5⟩; obtain ⟨x0, x1, x2, x3, x4⟩ := cellCu (by simp) HBC.out hb5; have hs5 := hb5.size; have HO5 := Lib.hid (own_below (HO.out.alloc _) hb5)) | (at_builtin; refine wpList_app rfl _ _ 29 26 5 40 _ rfl Tryz.underlying29 infoCu rfl (by decide) (w.alloc (.cells #[.int .i64 m.ws, .int .i64 m.so, .int .i64 m.sd, .int .i64 m.fr, .int .i64 m.to_] 26)).heap.size _ D.length _ (by rfl) (HO5.out.alloc _) _ _ (by rfl) (heap_new1 _ _) rfl (encCu_one ⟨(m.ws + m.sd / 2), (m.so + m.sd / 2), m.sd / 2, m.fr, m.to_⟩) (by omega) (by decide) (by simp at hs5 ⊢; omega) ?_; intro g7 c7 w7 ho7 hg7 hl7))
        go_roundw
        case rel => exact ⟨4, D ++ [⟨(m.ws + m.sd / 2), (m.so + m.sd / 2), m.sd / 2, m.fr, m.to_⟩], some ⟨g7, 0, none⟩, c7, by omega, by go_num, by simp, by rw [List.length_append, List.length_singleton]; omega, Lib.hid HN.out.symm, bgrown (balloc (bstep (balloc hbr _) hb5) _) hg7 (fun k hk => row_mine HO5.out k hk), Lib.hid (by simpa [encCu] using ho7)⟩
        case measure => simp [intOf]
    · have hD4 : D = chC m := HD.out
      subst hD4
      go_wp2_with fail
      go_ret
      exact ⟨A', c', rfl, own_base HO.out (by simp), hbw⟩
end Go.Proofs.YtaobbkiepggafaaGreat
