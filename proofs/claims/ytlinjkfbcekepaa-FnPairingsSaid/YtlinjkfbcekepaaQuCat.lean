/-
  The draws of module quakes: catalogues.
-/
import Derived.Test.YtlinjkfbcekepaaQuDr1
namespace Go.Proofs.Ytlinjkfbcekepaa
set_option linter.unusedVariables false
set_option linter.unusedSimpArgs false
set_option linter.unnecessarySimpa false
open Go.RowKit
attribute [local go_sem] ext_cell ext_frozen

theorem putL_len (l : List Qu) (q : Qu) : (putL l q).length ≤ l.length + 1 := by
  have h := putQ_len q l
  unfold putL
  split <;> simp <;> omega
set_option maxRecDepth 100000 in
set_option maxHeartbeats 8000000 in
theorem catalogue_any {w0 : World} {p : Nat} {A : Option Addr} {n c K : Nat} (w : World) (h : Dr w0 w p A n c K) (hk : K ≤ 700000) (hn : n ≤ 9223372036854775807) :
    Calls Try.prog 90 #[.pointer (some ⟨p, 0, none⟩)] w fun e w' => ∃ (l : List Qu) (B : Option Addr) (cb : Nat), e = .returned (.slice B l.length cb) ∧ l.length ≤ 11 ∧ w'.ownsRow w.heap.size 26 4 (.slice B l.length cb) l.length (l.flatMap encQu) ∧ Dr w0 w' p A n c (K + 200) ∧ w.grownBy w' (some p) := by
  have hlt := h.lt
  have HD := Lib.hid h
  clear h
  go_enter Try.func90, Try.ntmps90
  go_wp2_with (go_at_call 75; ((with_reducible refine (pick_dr 8 _ (HD.out.alloc _) (by omega) hn (by decide)).mono ?_); rintro e w1 ⟨r1, rfl, hr1, hd1, hg1⟩; have HD1 := Lib.hid hd1; clear hd1; have hlt1 := HD1.out.lt; have hs1 : w.heap.size + 1 ≤ w1.heap.size := (by simpa using hg1.size)))
  have HO1 := Lib.hid (own_dr (own_made (E := 26) (K := 4) (n := 0) (cur := #[]) (w := w) rfl (Nat.zero_le _)) hg1 hlt)
  have HG1 := Lib.hid (only_two (only_alloc (World.grownBy.refl w (some p)) _) hg1)
  clear hg1
  go_loopw [3, 4, 5, 6] (fun v i x y wr => ∃ (j : Nat) (L : List Qu) (A1 : Option Addr) (c1 : Nat), (j : Int) ≤ r1 ∧ L.length + j ≤ 7 ∧ i = .int .i64 j ∧ v = .slice A1 L.length c1 ∧ Hid (wr.ownsRow w.heap.size 26 4 (.slice A1 L.length c1) L.length (L.flatMap encQu)) ∧ Hid (Dr w0 wr p A n c (K + 2 + 12 * (7 - j))) ∧ Hid (w.grownBy wr (some p))) (fun _ i _ _ _ => (intOf i).toNat)
  case atStart => exact ⟨r1.toNat, [], some ⟨w.heap.size, 0, none⟩, 0, by omega, by simp; omega, by simp; omega, rfl, HO1, Lib.hid (HD1.out.more (by omega)), HG1⟩
  case round =>
    obtain ⟨j, L, A1, c1, hj, hLj, rfl, rfl, HO, HDr, HG⟩ := hrel
    have hcap := own_cap HO.out
    have haf := Lib.hid (af_own HO.out)
    have hltr := HDr.out.lt
    have hsr := HG.out.size
    by_cases hj0 : 0 < j
    · go_wp2_with first | (go_at_call 77; ((with_reducible refine (oneQuake_any _ HDr.out (by omega) hn).mono ?_); rintro e w2 ⟨m, rfl, hd2, hg2⟩; have HD2 := Lib.hid hd2; clear hd2; have hs2 := hg2.size; have HO2 := Lib.hid (own_dr HO.out hg2 hlt); have hpl := putQ_len m L; have HPL := Lib.hid (putL_len L m))) | (go_at_call 47; (with_reducible refine (sPutQ_any L m A1 c1 _ (RowAt.of_own HO2.out encQu_len (by decide)) haf.out hcap (by omega)).mono ?_); rintro e w3 ⟨A3, c3, rfl, ho3, hb3⟩)
      · have hpL := HPL.out
        exact ⟨⟨j - 1, putL L m, A3, c3, by omega, by omega, by congr 1; omega, rfl, Lib.hid (own_base ho3 (by omega)), Lib.hid ((HD2.out.below hb3).more (by omega)), Lib.hid (only_two HG.out (only_two hg2 (only_of_below hb3 _)))⟩, by simp [intOf]; omega⟩
      · exact ⟨⟨j - 1, L, A1, c1, by omega, by omega, by congr 1; omega, rfl, Lib.hid (own_below HO2.out hb3), Lib.hid ((HD2.out.below hb3).more (by omega)), Lib.hid (only_two HG.out (only_two hg2 (only_of_below hb3 _)))⟩, by simp [intOf]; omega⟩
    · obtain rfl : j = 0 := by omega
      have HD3 := Lib.hid (HDr.out.more (show K + 2 + 12 * (7 - 0) ≤ K + 90 by omega))
      clear HDr HD1 HO1 HG1
      go_wp2_with first | (go_at_call 75; first | ((with_reducible refine (pick_dr 32 _ HD3.out (by omega) hn (by decide)).mono ?_); rintro e w4 ⟨r4, rfl, hr4, hd4, hg4⟩; have HD4 := Lib.hid hd4; clear hd4; have hlt4 := HD4.out.lt; have hs4 := hg4.size; have HO4 := Lib.hid (own_dr HO.out hg4 hlt); have HG4 := Lib.hid (only_two HG.out hg4))) | (go_at_call 77; ((with_reducible refine (oneQuake_any _ HD4.out (by omega) hn).mono ?_); rintro e w5 ⟨m, rfl, hd5, hg5⟩; have HD5 := Lib.hid hd5; clear hd5; have hs5 := hg5.size; have HO5 := Lib.hid (own_dr HO4.out hg5 hlt); have HG5 := Lib.hid (only_two HG4.out hg5))) | (at_builtin; refine wpList_app rfl _ _ 31 26 4 32 _ rfl Try.underlying31 infoQu rfl (by decide) w.heap.size _ L.length _ (by rfl) (HO5.out.alloc _) _ _ (by rfl) (heap_new1 _ _) rfl (encQu_one m) (by omega) (by decide) (by simp; omega) ?_; intro g6 c6 w6 ho6 hg6 hl6)
      case _ =>
        have B6 : Below w.heap.size w5 w6 := ((Below.refl _ _).alloc (by omega) _).grown hg6 (by simp; omega) (row_mine HO5.out)
        go_ret
        exact ⟨L ++ [m], some ⟨g6, 0, none⟩, c6, by simp, by simp; omega, by simpa [encQu] using ho6, (HD.out.above HD5.out B6).more (by omega), only_above HG5.out B6⟩
      case _ =>
        have HO5 := Lib.hid (own_below (own_made (E := 26) (K := 4) (n := 0) (cur := #[]) (w := w4) rfl (Nat.zero_le _)) (bref _))
        have HO5 := Lib.hid (own_base HO5.out (show w.heap.size ≤ w4.heap.size by omega))
        have HD5 := Lib.hid (HD4.out.alloc (.cells #[] 26))
        have HG5 := Lib.hid (only_two HG4.out (only_alloc (World.grownBy.refl _ _) (.cells #[] 26)))
        clear HO HO4 HD3 HD4 HG HG4
        go_loopw [3] (fun v wr => ∃ (L : List Qu) (A1 : Option Addr) (c1 : Nat), L.length ≤ 11 ∧ v = .slice A1 L.length c1 ∧ Hid (wr.ownsRow w.heap.size 26 4 (.slice A1 L.length c1) L.length (L.flatMap encQu)) ∧ Hid (Dr w0 wr p A n c (K + 92 + 2 * L.length)) ∧ Hid (w.grownBy wr (some p))) (fun v _ => 20 - slLen v)
        case atStart => exact ⟨[], some ⟨w4.heap.size, 0, none⟩, 0, by simp, rfl, HO5, HD5, HG5⟩
        case round =>
          clear HO5 HD5 HG5
          obtain ⟨L, A1, c1, hL, rfl, HO, HDr, HG⟩ := hrel
          have hcap := own_cap HO.out
          go_wp2_with first | (go_at_call 75; ((with_reducible refine (pick_dr 2 _ HDr.out (by omega) hn (by decide)).mono ?_); rintro e w6 ⟨r6, rfl, hr6, hd6, hg6⟩; have HD6 := Lib.hid hd6; clear hd6; have hs6 := hg6.size; have HO6 := Lib.hid (own_dr HO.out hg6 hlt); have HG6 := Lib.hid (only_two HG.out hg6); have hsw := HG6.out.size)) | (at_builtin; refine wpList_app rfl _ _ 31 26 4 32 _ rfl Try.underlying31 infoQu rfl (by decide) w.heap.size _ L.length _ (by rfl) (HO6.out.alloc _) _ _ (by rfl) (heap_new1 _ _) rfl (encQu_one ⟨50 * (L.length : Int), 0, 0, 20⟩) (by omega) (by decide) (by simp; omega) ?_; intro g7 c7 w7 ho7 hg7 hl7)
          · have hlL : L.length < 11 := by omega
            have B7 : Below w.heap.size w6 w7 := ((Below.refl _ _).alloc (by omega) _).grown hg7 (by simp; omega) (row_mine HO6.out)
            refine ⟨⟨L ++ [⟨50 * (L.length : Int), 0, 0, 20⟩], by simp; omega, some ⟨g7, 0, none⟩, c7, ⟨rfl, by simp, rfl⟩, Lib.hid (by simpa [encQu] using ho7), Lib.hid ((HD.out.above HD6.out B7).more (by simp; omega)), Lib.hid (only_above HG6.out B7)⟩, by simp [slLen]; omega⟩
          · go_ret
            exact ⟨L, A1, c1, rfl, hL, HO6.out, HD6.out.more (by omega), HG6.out⟩
      case _ =>
        go_ret
        exact ⟨L, A1, c1, rfl, by omega, HO4.out, HD4.out.more (by omega), HG4.out⟩
end Go.Proofs.Ytlinjkfbcekepaa
