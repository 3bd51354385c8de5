/-
  impl.split: the halves of a cube.
-/
import Derived.Test.YtaobbkiepggafaaGreatCuSpl
namespace Go.Proofs.YtaobbkiepggafaaGreat
set_option linter.unusedVariables false
set_option linter.unusedSimpArgs false
set_option linter.unnecessarySimpa false
open Go.RowKit
attribute [local go_sem] ext_cell ext_frozen

set_option maxRecDepth 100000 in
set_option maxHeartbeats 8000000 in
theorem split_any (m : Cu) (w : World) (hm : cubeB m = true) (h2 : 2 ≤ m.sd) :
    Calls Tryz.prog 60 #[.agg #[.int .i64 m.ws, .int .i64 m.so, .int .i64 m.sd, .int .i64 m.fr, .int .i64 m.to_]] w (MkS 26 5 (chC m).length ((chC m).flatMap encCu) w) := by
  obtain ⟨bs, bw, bo, bf, bt⟩ := cubeB_bounds hm
  have HB0 := Lib.hid (boxCu w 26 m)
  have hh : 0 ≤ m.sd / 2 ∧ m.sd / 2 ≤ 256 := by omega
  have hv : m.sd.tdiv 2 = m.sd / 2 := Int.tdiv_eq_ediv_of_nonneg (by omega)
  have hwv2 : IntKind.i64.wrap (m.sd / 2) = m.sd / 2 := by rw [IntKind.wrap_i64]; omega
  have hwv : IntKind.i64.wrap (m.sd.tdiv 2) = m.sd / 2 := by rw [hv, hwv2]
  have hw3 : IntKind.i64.wrap (m.ws + m.sd / 2) = m.ws + m.sd / 2 := by rw [IntKind.wrap_i64]; omega
  have hw4 : IntKind.i64.wrap (m.so + m.sd / 2) = m.so + m.sd / 2 := by rw [IntKind.wrap_i64]; omega
  go_enter Tryz.func60, Tryz.ntmps60
  go_wp2_with fail
  go_region_held3 (fun w' => w'.cell? ⟨w.heap.size, 2, none⟩ = some (.int .i64 m.sd)) (go_keep) (fail)
  obtain ⟨w2, hw2, HO0⟩ : ∃ w2 : World, w2 = ((w.alloc (.cells #[.int .i64 m.ws, .int .i64 m.so, .int .i64 m.sd, .int .i64 m.fr, .int .i64 m.to_] 26)).alloc (.cells #[] 26)).drew ∧ Hid (w2.ownsRow (w.alloc (.cells #[.int .i64 m.ws, .int .i64 m.so, .int .i64 m.sd, .int .i64 m.fr, .int .i64 m.to_] 26)).heap.size 26 5 (.slice (some ⟨w.heap.size + 1, 0, none⟩) 0 0) 0 []) := ⟨_, rfl, Lib.hid (by
    have h := own_made (E := 26) (K := 5) (n := 0) (cur := #[]) (w := (w.alloc (.cells #[.int .i64 m.ws, .int .i64 m.so, .int .i64 m.sd, .int .i64 m.fr, .int .i64 m.to_] 26))) rfl (Nat.zero_le _)
    have h2 := h.drew
    simp only [World.size_alloc] at h2 ⊢
    exact h2)⟩
  have hb2 : Below (w.alloc (.cells #[.int .i64 m.ws, .int .i64 m.so, .int .i64 m.sd, .int .i64 m.fr, .int .i64 m.to_] 26)).heap.size (w.alloc (.cells #[.int .i64 m.ws, .int .i64 m.so, .int .i64 m.sd, .int .i64 m.fr, .int .i64 m.to_] 26)) w2 := by rw [hw2]; exact bdrew (balloc (bref _) _)
  rw [← hw2]
  clear hw2
  try simp only [hwv, hv, hwv2]
  obtain ⟨c0, c1, c2, c3, c4⟩ := cellCu (by simp) HB0.out hb2
  go_wp2_with fail
  have hs2 := hb2.size
  simp only [World.size_alloc] at hs2
  have HL0 := Lib.hid (show (w2.alloc (.cells #[.int .i64 m.ws, .int .i64 (m.ws + m.sd / 2)] 3)).cell? ⟨w2.heap.size, 0, none⟩ = some (.int .i64 m.ws) ∧ (w2.alloc (.cells #[.int .i64 m.ws, .int .i64 (m.ws + m.sd / 2)] 3)).cell? ⟨w2.heap.size, 1, none⟩ = some (.int .i64 (m.ws + m.sd / 2)) by simp [go_sem])
  obtain ⟨w3, hw3', HO3, HL3⟩ : ∃ w3 : World, w3 = w2.alloc (.cells #[.int .i64 m.ws, .int .i64 (m.ws + m.sd / 2)] 3) ∧ Hid (w3.ownsRow (w.alloc (.cells #[.int .i64 m.ws, .int .i64 m.so, .int .i64 m.sd, .int .i64 m.fr, .int .i64 m.to_] 26)).heap.size 26 5 (.slice (some ⟨w.heap.size + 1, 0, none⟩) 0 0) 0 []) ∧ Hid (w3.cell? ⟨w2.heap.size, 0, none⟩ = some (.int .i64 m.ws) ∧ w3.cell? ⟨w2.heap.size, 1, none⟩ = some (.int .i64 (m.ws + m.sd / 2))) := ⟨_, rfl, Lib.hid (HO0.out.alloc _), HL0⟩
  have hb3 : Below (w.alloc (.cells #[.int .i64 m.ws, .int .i64 m.so, .int .i64 m.sd, .int .i64 m.fr, .int .i64 m.to_] 26)).heap.size (w.alloc (.cells #[.int .i64 m.ws, .int .i64 m.so, .int .i64 m.sd, .int .i64 m.fr, .int .i64 m.to_] 26)) w3 := by rw [hw3']; exact balloc hb2 _
  have hz3 : w2.heap.size < w3.heap.size := by rw [hw3']; simp
  have HQ0 := Lib.hid (fun q (e : (Value.slice (some ⟨w.heap.size + 1, 0, none⟩) 0 0).ownBlock = some q) => (HO0.out.lt q e).2)
  rw [← hw3']
  clear hw3' HO0 HL0 hb2 c0 c1 c2 c3 c4
  go_loopw [3, 21] (fun v i wr => ∃ (k : Nat) (D : List Cu) (A' : Option Addr) (c' : Nat), k ≤ 2 ∧ i = .int .i64 k ∧ v = .slice A' D.length c' ∧ D.length ≤ 2 * k ∧ Hid (D = chN m (2 * k)) ∧ Below (w.alloc (.cells #[.int .i64 m.ws, .int .i64 m.so, .int .i64 m.sd, .int .i64 m.fr, .int .i64 m.to_] 26)).heap.size (w.alloc (.cells #[.int .i64 m.ws, .int .i64 m.so, .int .i64 m.sd, .int .i64 m.fr, .int .i64 m.to_] 26)) wr ∧ w3.heap.size ≤ wr.heap.size ∧ Hid (wr.cell? ⟨w2.heap.size, 0, none⟩ = some (.int .i64 m.ws) ∧ wr.cell? ⟨w2.heap.size, 1, none⟩ = some (.int .i64 (m.ws + m.sd / 2))) ∧ Hid (wr.ownsRow (w.alloc (.cells #[.int .i64 m.ws, .int .i64 m.so, .int .i64 m.sd, .int .i64 m.fr, .int .i64 m.to_] 26)).heap.size 26 5 (.slice A' D.length c') D.length (D.flatMap encCu)) ∧ Hid (∀ q, (Value.slice A' D.length c').ownBlock = some q → q ≠ w2.heap.size)) (fun _ i _ => 2 - (intOf i).toNat)
  case atStart => exact ⟨0, [], some ⟨w.heap.size + 1, 0, none⟩, 0, Nat.zero_le _, rfl, rfl, Nat.le_refl _, Lib.hid rfl, hb3, Nat.le_refl _, HL3, HO3, Lib.hid (fun q e h => by have := HQ0.out q e; omega)⟩
  case round =>
    clear HO3 hb3 HL3
    obtain ⟨i, D, A', c', hi, rfl, rfl, hDl, HD, hbr, hz, HL, HO, HNE⟩ := hrel
    have hbw := bstep (balloc (bref w) _) hbr
    obtain ⟨c0, c1, c2, c3, c4⟩ := cellCu (by simp) HB0.out hbr
    have hs := hbr.size
    simp only [World.size_alloc] at hs
    have hz0 : w.heap.size < wr.heap.size := by omega
    have hzL : w2.heap.size < wr.heap.size := by omega
    obtain ⟨x0, x1⟩ := HL.out
    obtain rfl | rfl | rfl : i = 0 ∨ i = 1 ∨ i = 2 := by omega
    · have ei : ((0 : Nat) : Int) = 0 := rfl
      simp only [ei]
      obtain ⟨wo, rfl⟩ : ∃ wo : World, wo = wr := ⟨_, rfl⟩
      have HLi := Lib.hid (show (wo.alloc (.cells #[.int .i64 m.so, .int .i64 (m.so + m.sd / 2)] 3)).cell? ⟨wo.heap.size, 0, none⟩ = some (.int .i64 m.so) ∧ (wo.alloc (.cells #[.int .i64 m.so, .int .i64 (m.so + m.sd / 2)] 3)).cell? ⟨wo.heap.size, 1, none⟩ = some (.int .i64 (m.so + m.sd / 2)) by simp [go_sem])
      obtain ⟨w4, hw4', HO4, HL4, HLo⟩ : ∃ w4 : World, w4 = wo.alloc (.cells #[.int .i64 m.so, .int .i64 (m.so + m.sd / 2)] 3) ∧ Hid (w4.ownsRow (w.alloc (.cells #[.int .i64 m.ws, .int .i64 m.so, .int .i64 m.sd, .int .i64 m.fr, .int .i64 m.to_] 26)).heap.size 26 5 (.slice A' D.length c') D.length (D.flatMap encCu)) ∧ Hid (w4.cell? ⟨wo.heap.size, 0, none⟩ = some (.int .i64 m.so) ∧ w4.cell? ⟨wo.heap.size, 1, none⟩ = some (.int .i64 (m.so + m.sd / 2))) ∧ Hid (w4.cell? ⟨w2.heap.size, 0, none⟩ = some (.int .i64 m.ws) ∧ w4.cell? ⟨w2.heap.size, 1, none⟩ = some (.int .i64 (m.ws + m.sd / 2))) := ⟨_, rfl, Lib.hid (HO.out.alloc _), HLi, Lib.hid (by
        have hB := balloc (bref wo) (.cells #[.int .i64 m.so, .int .i64 (m.so + m.sd / 2)] 3)
        exact ⟨(hB.cell (p := ⟨w2.heap.size, 0, none⟩) hzL).trans x0, (hB.cell (p := ⟨w2.heap.size, 1, none⟩) hzL).trans x1⟩)⟩
      have hb4 : Below (w.alloc (.cells #[.int .i64 m.ws, .int .i64 m.so, .int .i64 m.sd, .int .i64 m.fr, .int .i64 m.to_] 26)).heap.size (w.alloc (.cells #[.int .i64 m.ws, .int .i64 m.so, .int .i64 m.sd, .int .i64 m.fr, .int .i64 m.to_] 26)) w4 := by rw [hw4']; exact balloc hbr _
      have hz4 : wo.heap.size < w4.heap.size := by rw [hw4']; simp
      go_wp2_with fail
      rw [← hw4']
      have HNE4 := Lib.hid (fun q (e : (Value.slice A' D.length c').ownBlock = some q) => (show q ≠ w2.heap.size ∧ q ≠ wo.heap.size from ⟨HNE.out q e, fun h => by have := (HO.out.lt q e).2; omega⟩))
      clear hw4' HO HL HLi HNE x0 x1 c0 c1 c2 c3 c4
      go_loopw [3, 33] (fun v ii wi => ∃ (k : Nat) (D : List Cu) (A' : Option Addr) (c' : Nat), k ≤ 2 ∧ ii = .int .i64 k ∧ v = .slice A' D.length c' ∧ D.length ≤ 2 * 0 + k ∧ Hid (D = chN m (2 * 0 + k)) ∧ Below (w.alloc (.cells #[.int .i64 m.ws, .int .i64 m.so, .int .i64 m.sd, .int .i64 m.fr, .int .i64 m.to_] 26)).heap.size (w.alloc (.cells #[.int .i64 m.ws, .int .i64 m.so, .int .i64 m.sd, .int .i64 m.fr, .int .i64 m.to_] 26)) wi ∧ w4.heap.size ≤ wi.heap.size ∧ Hid (wi.cell? ⟨wo.heap.size, 0, none⟩ = some (.int .i64 m.so) ∧ wi.cell? ⟨wo.heap.size, 1, none⟩ = some (.int .i64 (m.so + m.sd / 2))) ∧ Hid (wi.cell? ⟨w2.heap.size, 0, none⟩ = some (.int .i64 m.ws) ∧ wi.cell? ⟨w2.heap.size, 1, none⟩ = some (.int .i64 (m.ws + m.sd / 2))) ∧ Hid (wi.ownsRow (w.alloc (.cells #[.int .i64 m.ws, .int .i64 m.so, .int .i64 m.sd, .int .i64 m.fr, .int .i64 m.to_] 26)).heap.size 26 5 (.slice A' D.length c') D.length (D.flatMap encCu)) ∧ Hid (∀ q, (Value.slice A' D.length c').ownBlock = some q → q ≠ w2.heap.size ∧ q ≠ wo.heap.size)) (fun _ ii _ => 2 - (intOf ii).toNat)
      case atStart => exact ⟨0, D, A', c', Nat.zero_le _, rfl, rfl, by omega, HD, hb4, Nat.le_refl _, HL4, HLo, HO4, HNE4⟩
      case round =>
        clear HO4 HL4 HLo HNE4 hDl HD hbr hb4 hbw
        obtain ⟨k, D, A', c', hk, rfl, rfl, hDl, HD, hbr, hz5, HL, HLo, HO, HNE⟩ := hrel
        have hbw := bstep (balloc (bref w) _) hbr
        obtain ⟨c0, c1, c2, c3, c4⟩ := cellCu (by simp) HB0.out hbr
        have hz6 : w.heap.size < wr.heap.size := by omega
        obtain ⟨x0, x1⟩ := HL.out
        obtain rfl | rfl | rfl : k = 0 ∨ k = 1 ∨ k = 2 := by omega
        · cases hp : placeB m.ws m.so
          · have HN := Lib.hid (chN_miss (m := m) (k := 0) (by rw [subC_0]; exact hp))
            have HP := Lib.hid (fun W => by have := isPlace_any m.ws m.so W; rw [hp] at this; exact this)
            go_wp2_with (go_at_call 37; (with_reducible refine (HP.out _).mono ?_); rintro e w' ⟨rfl, rfl⟩)
            go_roundw
            case rel => exact ⟨1, D, A', c', by omega, by go_num, rfl, by omega, Lib.hid (HD.out.trans HN.out.symm), hbr, hz5, HL, HLo, HO, HNE⟩
            case measure => simp [intOf]
          · have HN := Lib.hid (chN_hit (m := m) (k := 0) (by rw [subC_0]; exact hp))
            rw [subC_0, ← (show D = chN m 0 from HD.out)] at HN
            have HP := Lib.hid (fun W => by have := isPlace_any m.ws m.so W; rw [hp] at this; exact this)
            go_wp2_with (first | (go_at_call 37; (with_reducible refine (HP.out _).mono ?_); rintro e w' ⟨rfl, rfl⟩) | (at_builtin; refine wpList_app rfl _ _ 29 26 5 40 _ rfl Tryz.underlying29 infoCu rfl (by decide) (w.alloc (.cells #[.int .i64 m.ws, .int .i64 m.so, .int .i64 m.sd, .int .i64 m.fr, .int .i64 m.to_] 26)).heap.size _ D.length _ (by rfl) (HO.out.alloc _) _ _ (by rfl) (heap_new1 _ _) rfl (encCu_one ⟨m.ws, m.so, m.sd / 2, m.fr, m.to_⟩) (by omega) (by decide) (by simp; omega) ?_; intro g7 c7 w7 ho7 hg7 hl7))
            go_roundw
            case rel =>
              have hne1 : some w2.heap.size ≠ (Value.slice A' D.length c').ownBlock := fun e => (HNE.out _ e.symm).1 rfl
              have hne2 : some wo.heap.size ≠ (Value.slice A' D.length c').ownBlock := fun e => (HNE.out _ e.symm).2 rfl
              have hB := fun (p : Addr) (hp : p.block < wr.heap.size) (hq : some p.block ≠ (Value.slice A' D.length c').ownBlock) => (hg7.cell_far p (Nat.lt_of_lt_of_le hp (by simp)) hq).trans ((balloc (bref wr) (.cells #[.int .i64 m.ws, .int .i64 m.so, .int .i64 (m.sd / 2), .int .i64 m.fr, .int .i64 m.to_] 26)).cell (p := p) hp)
              refine ⟨1, D ++ [⟨m.ws, m.so, m.sd / 2, m.fr, m.to_⟩], some ⟨g7, 0, none⟩, c7, by omega, by go_num, by simp, by rw [List.length_append, List.length_singleton]; omega, Lib.hid HN.out.symm, bgrown (balloc hbr _) hg7 (fun k hk => row_mine HO.out k hk), Nat.le_trans hz5 (Nat.le_trans (by simp) hg7.size), Lib.hid ⟨(hB ⟨wo.heap.size, 0, none⟩ (Nat.lt_of_lt_of_le hz4 hz5) hne2).trans HL.out.1, (hB ⟨wo.heap.size, 1, none⟩ (Nat.lt_of_lt_of_le hz4 hz5) hne2).trans HL.out.2⟩, Lib.hid ⟨(hB ⟨w2.heap.size, 0, none⟩ (by show w2.heap.size < wr.heap.size; omega) hne1).trans HLo.out.1, (hB ⟨w2.heap.size, 1, none⟩ (by show w2.heap.size < wr.heap.size; omega) hne1).trans HLo.out.2⟩, Lib.hid (by simpa [encCu] using ho7), Lib.hid (fun q e => ?_)⟩
              have e' : g7 = q := by simpa [Value.ownBlock] using e
              rcases hl7 with r | r
              · exact HNE.out q (r.trans (by simp [Value.ownBlock, e']))
              · simp [Value.ownBlock] at r
                omega
            case measure => simp [intOf]
        · cases hp : placeB m.ws (m.so + m.sd / 2)
          · have HN := Lib.hid (chN_miss (m := m) (k := 1) (by rw [subC_1]; exact hp))
            have HP := Lib.hid (fun W => by have := isPlace_any m.ws (m.so + m.sd / 2) W; rw [hp] at this; exact this)
            go_wp2_with (go_at_call 37; (with_reducible refine (HP.out _).mono ?_); rintro e w' ⟨rfl, rfl⟩)
            go_roundw
            case rel => exact ⟨2, D, A', c', by omega, by go_num, rfl, by omega, Lib.hid (HD.out.trans HN.out.symm), hbr, hz5, HL, HLo, HO, HNE⟩
            case measure => simp [intOf]
          · have HN := Lib.hid (chN_hit (m := m) (k := 1) (by rw [subC_1]; exact hp))
            rw [subC_1, ← (show D = chN m 1 from HD.out)] at HN
            have HP := Lib.hid (fun W => by have := isPlace_any m.ws (m.so + m.sd / 2) W; rw [hp] at this; exact this)
            go_wp2_with (first | (go_at_call 37; (with_reducible refine (HP.out _).mono ?_); rintro e w' ⟨rfl, rfl⟩) | (at_builtin; refine wpList_app rfl _ _ 29 26 5 40 _ rfl Tryz.underlying29 infoCu rfl (by decide) (w.alloc (.cells #[.int .i64 m.ws, .int .i64 m.so, .int .i64 m.sd, .int .i64 m.fr, .int .i64 m.to_] 26)).heap.size _ D.length _ (by rfl) (HO.out.alloc _) _ _ (by rfl) (heap_new1 _ _) rfl (encCu_one ⟨m.ws, (m.so + m.sd / 2), m.sd / 2, m.fr, m.to_⟩) (by omega) (by decide) (by simp; omega) ?_; intro g7 c7 w7 ho7 hg7 hl7))
            go_roundw
            case rel =>
              have hne1 : some w2.heap.size ≠ (Value.slice A' D.length c').ownBlock := fun e => (HNE.out _ e.symm).1 rfl
              have hne2 : some wo.heap.size ≠ (Value.slice A' D.length c').ownBlock := fun e => (HNE.out _ e.symm).2 rfl
              have hB := fun (p : Addr) (hp : p.block < wr.heap.size) (hq : some p.block ≠ (Value.slice A' D.length c').ownBlock) => (hg7.cell_far p (Nat.lt_of_lt_of_le hp (by simp)) hq).trans ((balloc (bref wr) (.cells #[.int .i64 m.ws, .int .i64 (m.so + m.sd / 2), .int .i64 (m.sd / 2), .int .i64 m.fr, .int .i64 m.to_] 26)).cell (p := p) hp)
              refine ⟨2, D ++ [⟨m.ws, (m.so + m.sd / 2), m.sd / 2, m.fr, m.to_⟩], some ⟨g7, 0, none⟩, c7, by omega, by go_num, by simp, by rw [List.length_append, List.length_singleton]; omega, Lib.hid HN.out.symm, bgrown (balloc hbr _) hg7 (fun k hk => row_mine HO.out k hk), Nat.le_trans hz5 (Nat.le_trans (by simp) hg7.size), Lib.hid ⟨(hB ⟨wo.heap.size, 0, none⟩ (Nat.lt_of_lt_of_le hz4 hz5) hne2).trans HL.out.1, (hB ⟨wo.heap.size, 1, none⟩ (Nat.lt_of_lt_of_le hz4 hz5) hne2).trans HL.out.2⟩, Lib.hid ⟨(hB ⟨w2.heap.size, 0, none⟩ (by show w2.heap.size < wr.heap.size; omega) hne1).trans HLo.out.1, (hB ⟨w2.heap.size, 1, none⟩ (by show w2.heap.size < wr.heap.size; omega) hne1).trans HLo.out.2⟩, Lib.hid (by simpa [encCu] using ho7), Lib.hid (fun q e => ?_)⟩
              have e' : g7 = q := by simpa [Value.ownBlock] using e
              rcases hl7 with r | r
              · exact HNE.out q (r.trans (by simp [Value.ownBlock, e']))
              · simp [Value.ownBlock] at r
                omega
            case measure => simp [intOf]
        · go_wp2_with fail
          go_roundw
          case rel => exact ⟨1, D, A', c', by omega, by go_num, rfl, by omega, HD, hbr, by omega, HLo, HO, Lib.hid (fun q e => (HNE.out q e).1)⟩
          case measure => simp [intOf]
    · have ei : ((1 : Nat) : Int) = 1 := rfl
      simp only [ei]
      obtain ⟨wo, rfl⟩ : ∃ wo : World, wo = wr := ⟨_, rfl⟩
      have HLi := Lib.hid (show (wo.alloc (.cells #[.int .i64 m.so, .int .i64 (m.so + m.sd / 2)] 3)).cell? ⟨wo.heap.size, 0, none⟩ = some (.int .i64 m.so) ∧ (wo.alloc (.cells #[.int .i64 m.so, .int .i64 (m.so + m.sd / 2)] 3)).cell? ⟨wo.heap.size, 1, none⟩ = some (.int .i64 (m.so + m.sd / 2)) by simp [go_sem])
      obtain ⟨w4, hw4', HO4, HL4, HLo⟩ : ∃ w4 : World, w4 = wo.alloc (.cells #[.int .i64 m.so, .int .i64 (m.so + m.sd / 2)] 3) ∧ Hid (w4.ownsRow (w.alloc (.cells #[.int .i64 m.ws, .int .i64 m.so, .int .i64 m.sd, .int .i64 m.fr, .int .i64 m.to_] 26)).heap.size 26 5 (.slice A' D.length c') D.length (D.flatMap encCu)) ∧ Hid (w4.cell? ⟨wo.heap.size, 0, none⟩ = some (.int .i64 m.so) ∧ w4.cell? ⟨wo.heap.size, 1, none⟩ = some (.int .i64 (m.so + m.sd / 2))) ∧ Hid (w4.cell? ⟨w2.heap.size, 0, none⟩ = some (.int .i64 m.ws) ∧ w4.cell? ⟨w2.heap.size, 1, none⟩ = some (.int .i64 (m.ws + m.sd / 2))) := ⟨_, rfl, Lib.hid (HO.out.alloc _), HLi, Lib.hid (by
        have hB := balloc (bref wo) (.cells #[.int .i64 m.so, .int .i64 (m.so + m.sd / 2)] 3)
        exact ⟨(hB.cell (p := ⟨w2.heap.size, 0, none⟩) hzL).trans x0, (hB.cell (p := ⟨w2.heap.size, 1, none⟩) hzL).trans x1⟩)⟩
      have hb4 : Below (w.alloc (.cells #[.int .i64 m.ws, .int .i64 m.so, .int .i64 m.sd, .int .i64 m.fr, .int .i64 m.to_] 26)).heap.size (w.alloc (.cells #[.int .i64 m.ws, .int .i64 m.so, .int .i64 m.sd, .int .i64 m.fr, .int .i64 m.to_] 26)) w4 := by rw [hw4']; exact balloc hbr _
      have hz4 : wo.heap.size < w4.heap.size := by rw [hw4']; simp
      go_wp2_with fail
      rw [← hw4']
      have HNE4 := Lib.hid (fun q (e : (Value.slice A' D.length c').ownBlock = some q) => (show q ≠ w2.heap.size ∧ q ≠ wo.heap.size from ⟨HNE.out q e, fun h => by have := (HO.out.lt q e).2; omega⟩))
      clear hw4' HO HL HLi HNE x0 x1 c0 c1 c2 c3 c4
      go_loopw [3, 33] (fun v ii wi => ∃ (k : Nat) (D : List Cu) (A' : Option Addr) (c' : Nat), k ≤ 2 ∧ ii = .int .i64 k ∧ v = .slice A' D.length c' ∧ D.length ≤ 2 * 1 + k ∧ Hid (D = chN m (2 * 1 + k)) ∧ Below (w.alloc (.cells #[.int .i64 m.ws, .int .i64 m.so, .int .i64 m.sd, .int .i64 m.fr, .int .i64 m.to_] 26)).heap.size (w.alloc (.cells #[.int .i64 m.ws, .int .i64 m.so, .int .i64 m.sd, .int .i64 m.fr, .int .i64 m.to_] 26)) wi ∧ w4.heap.size ≤ wi.heap.size ∧ Hid (wi.cell? ⟨wo.heap.size, 0, none⟩ = some (.int .i64 m.so) ∧ wi.cell? ⟨wo.heap.size, 1, none⟩ = some (.int .i64 (m.so + m.sd / 2))) ∧ Hid (wi.cell? ⟨w2.heap.size, 0, none⟩ = some (.int .i64 m.ws) ∧ wi.cell? ⟨w2.heap.size, 1, none⟩ = some (.int .i64 (m.ws + m.sd / 2))) ∧ Hid (wi.ownsRow (w.alloc (.cells #[.int .i64 m.ws, .int .i64 m.so, .int .i64 m.sd, .int .i64 m.fr, .int .i64 m.to_] 26)).heap.size 26 5 (.slice A' D.length c') D.length (D.flatMap encCu)) ∧ Hid (∀ q, (Value.slice A' D.length c').ownBlock = some q → q ≠ w2.heap.size ∧ q ≠ wo.heap.size)) (fun _ ii _ => 2 - (intOf ii).toNat)
      case atStart => exact ⟨0, D, A', c', Nat.zero_le _, rfl, rfl, by omega, HD, hb4, Nat.le_refl _, HL4, HLo, HO4, HNE4⟩
      case round =>
        clear HO4 HL4 HLo HNE4 hDl HD hbr hb4 hbw
        obtain ⟨k, D, A', c', hk, rfl, rfl, hDl, HD, hbr, hz5, HL, HLo, HO, HNE⟩ := hrel
        have hbw := bstep (balloc (bref w) _) hbr
        obtain ⟨c0, c1, c2, c3, c4⟩ := cellCu (by simp) HB0.out hbr
        have hz6 : w.heap.size < wr.heap.size := by omega
        obtain ⟨x0, x1⟩ := HL.out
        obtain rfl | rfl | rfl : k = 0 ∨ k = 1 ∨ k = 2 := by omega
        · cases hp : placeB (m.ws + m.sd / 2) m.so
          · have HN := Lib.hid (chN_miss (m := m) (k := 2) (by rw [subC_2]; exact hp))
            have HP := Lib.hid (fun W => by have := isPlace_any (m.ws + m.sd / 2) m.so W; rw [hp] at this; exact this)
            go_wp2_with (go_at_call 37; (with_reducible refine (HP.out _).mono ?_); rintro e w' ⟨rfl, rfl⟩)
            go_roundw
            case rel => exact ⟨1, D, A', c', by omega, by go_num, rfl, by omega, Lib.hid (HD.out.trans HN.out.symm), hbr, hz5, HL, HLo, HO, HNE⟩
            case measure => simp [intOf]
          · have HN := Lib.hid (chN_hit (m := m) (k := 2) (by rw [subC_2]; exact hp))
            rw [subC_2, ← (show D = chN m 2 from HD.out)] at HN
            have HP := Lib.hid (fun W => by have := isPlace_any (m.ws + m.sd / 2) m.so W; rw [hp] at this; exact this)
            go_wp2_with (first | (go_at_call 37; (with_reducible refine (HP.out _).mono ?_); rintro e w' ⟨rfl, rfl⟩) | (at_builtin; refine wpList_app rfl _ _ 29 26 5 40 _ rfl Tryz.underlying29 infoCu rfl (by decide) (w.alloc (.cells #[.int .i64 m.ws, .int .i64 m.so, .int .i64 m.sd, .int .i64 m.fr, .int .i64 m.to_] 26)).heap.size _ D.length _ (by rfl) (HO.out.alloc _) _ _ (by rfl) (heap_new1 _ _) rfl (encCu_one ⟨(m.ws + m.sd / 2), m.so, m.sd / 2, m.fr, m.to_⟩) (by omega) (by decide) (by simp; omega) ?_; intro g7 c7 w7 ho7 hg7 hl7))
            go_roundw
            case rel =>
              have hne1 : some w2.heap.size ≠ (Value.slice A' D.length c').ownBlock := fun e => (HNE.out _ e.symm).1 rfl
              have hne2 : some wo.heap.size ≠ (Value.slice A' D.length c').ownBlock := fun e => (HNE.out _ e.symm).2 rfl
              have hB := fun (p : Addr) (hp : p.block < wr.heap.size) (hq : some p.block ≠ (Value.slice A' D.length c').ownBlock) => (hg7.cell_far p (Nat.lt_of_lt_of_le hp (by simp)) hq).trans ((balloc (bref wr) (.cells #[.int .i64 (m.ws + m.sd / 2), .int .i64 m.so, .int .i64 (m.sd / 2), .int .i64 m.fr, .int .i64 m.to_] 26)).cell (p := p) hp)
              refine ⟨1, D ++ [⟨(m.ws + m.sd / 2), m.so, m.sd / 2, m.fr, m.to_⟩], some ⟨g7, 0, none⟩, c7, by omega, by go_num, by simp, by rw [List.length_append, List.length_singleton]; omega, Lib.hid HN.out.symm, bgrown (balloc hbr _) hg7 (fun k hk => row_mine HO.out k hk), Nat.le_trans hz5 (Nat.le_trans (by simp) hg7.size), Lib.hid ⟨(hB ⟨wo.heap.size, 0, none⟩ (Nat.lt_of_lt_of_le hz4 hz5) hne2).trans HL.out.1, (hB ⟨wo.heap.size, 1, none⟩ (Nat.lt_of_lt_of_le hz4 hz5) hne2).trans HL.out.2⟩, Lib.hid ⟨(hB ⟨w2.heap.size, 0, none⟩ (by show w2.heap.size < wr.heap.size; omega) hne1).trans HLo.out.1, (hB ⟨w2.heap.size, 1, none⟩ (by show w2.heap.size < wr.heap.size; omega) hne1).trans HLo.out.2⟩, Lib.hid (by simpa [encCu] using ho7), Lib.hid (fun q e => ?_)⟩
              have e' : g7 = q := by simpa [Value.ownBlock] using e
              rcases hl7 with r | r
              · exact HNE.out q (r.trans (by simp [Value.ownBlock, e']))
              · simp [Value.ownBlock] at r
                omega
            case measure => simp [intOf]
        · cases hp : placeB (m.ws + m.sd / 2) (m.so + m.sd / 2)
          · have HN := Lib.hid (chN_miss (m := m) (k := 3) (by rw [subC_3]; exact hp))
            have HP := Lib.hid (fun W => by have := isPlace_any (m.ws + m.sd / 2) (m.so + m.sd / 2) W; rw [hp] at this; exact this)
            go_wp2_with (go_at_call 37; (with_reducible refine (HP.out _).mono ?_); rintro e w' ⟨rfl, rfl⟩)
            go_roundw
            case rel => exact ⟨2, D, A', c', by omega, by go_num, rfl, by omega, Lib.hid (HD.out.trans HN.out.symm), hbr, hz5, HL, HLo, HO, HNE⟩
            case measure => simp [intOf]
          · have HN := Lib.hid (chN_hit (m := m) (k := 3) (by rw [subC_3]; exact hp))
            rw [subC_3, ← (show D = chN m 3 from HD.out)] at HN
            have HP := Lib.hid (fun W => by have := isPlace_any (m.ws + m.sd / 2) (m.so + m.sd / 2) W; rw [hp] at this; exact this)
            go_wp2_with (first | (go_at_call 37; (with_reducible refine (HP.out _).mono ?_); rintro e w' ⟨rfl, rfl⟩) | (at_builtin; refine wpList_app rfl _ _ 29 26 5 40 _ rfl Tryz.underlying29 infoCu rfl (by decide) (w.alloc (.cells #[.int .i64 m.ws, .int .i64 m.so, .int .i64 m.sd, .int .i64 m.fr, .int .i64 m.to_] 26)).heap.size _ D.length _ (by rfl) (HO.out.alloc _) _ _ (by rfl) (heap_new1 _ _) rfl (encCu_one ⟨(m.ws + m.sd / 2), (m.so + m.sd / 2), m.sd / 2, m.fr, m.to_⟩) (by omega) (by decide) (by simp; omega) ?_; intro g7 c7 w7 ho7 hg7 hl7))
            go_roundw
            case rel =>
              have hne1 : some w2.heap.size ≠ (Value.slice A' D.length c').ownBlock := fun e => (HNE.out _ e.symm).1 rfl
              have hne2 : some wo.heap.size ≠ (Value.slice A' D.length c').ownBlock := fun e => (HNE.out _ e.symm).2 rfl
              have hB := fun (p : Addr) (hp : p.block < wr.heap.size) (hq : some p.block ≠ (Value.slice A' D.length c').ownBlock) => (hg7.cell_far p (Nat.lt_of_lt_of_le hp (by simp)) hq).trans ((balloc (bref wr) (.cells #[.int .i64 (m.ws + m.sd / 2), .int .i64 (m.so + m.sd / 2), .int .i64 (m.sd / 2), .int .i64 m.fr, .int .i64 m.to_] 26)).cell (p := p) hp)
              refine ⟨2, D ++ [⟨(m.ws + m.sd / 2), (m.so + m.sd / 2), m.sd / 2, m.fr, m.to_⟩], some ⟨g7, 0, none⟩, c7, by omega, by go_num, by simp, by rw [List.length_append, List.length_singleton]; omega, Lib.hid HN.out.symm, bgrown (balloc hbr _) hg7 (fun k hk => row_mine HO.out k hk), Nat.le_trans hz5 (Nat.le_trans (by simp) hg7.size), Lib.hid ⟨(hB ⟨wo.heap.size, 0, none⟩ (Nat.lt_of_lt_of_le hz4 hz5) hne2).trans HL.out.1, (hB ⟨wo.heap.size, 1, none⟩ (Nat.lt_of_lt_of_le hz4 hz5) hne2).trans HL.out.2⟩, Lib.hid ⟨(hB ⟨w2.heap.size, 0, none⟩ (by show w2.heap.size < wr.heap.size; omega) hne1).trans HLo.out.1, (hB ⟨w2.heap.size, 1, none⟩ (by show w2.heap.size < wr.heap.size; omega) hne1).trans HLo.out.2⟩, Lib.hid (by simpa [encCu] using ho7), Lib.hid (fun q e => ?_)⟩
              have e' : g7 = q := by simpa [Value.ownBlock] using e
              rcases hl7 with r | r
              · exact HNE.out q (r.trans (by simp [Value.ownBlock, e']))
              · simp [Value.ownBlock] at r
                omega
            case measure => simp [intOf]
        · go_wp2_with fail
          go_roundw
          case rel => exact ⟨2, D, A', c', by omega, by go_num, rfl, by omega, HD, hbr, by omega, HLo, HO, Lib.hid (fun q e => (HNE.out q e).1)⟩
          case measure => simp [intOf]
    · have hD4 : D = chC m := HD.out
      subst hD4
      go_wp2_with fail
      go_ret
      exact ⟨A', c', rfl, own_base HO.out (by simp), hbw⟩
end Go.Proofs.YtaobbkiepggafaaGreat
