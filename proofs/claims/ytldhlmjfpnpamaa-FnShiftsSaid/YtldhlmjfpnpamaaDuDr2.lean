/-
  The draws of module duties: lists of duties.
-/
import Derived.Test.YtldhlmjfpnpamaaDuDr1
import Derived.Test.YtldhlmjfpnpamaaDuAddS
namespace Go.Proofs.Ytldhlmjfpnpamaa
open Go.RowKit
attribute [local go_sem] ext_cell ext_frozen

set_option maxRecDepth 100000 in
set_option maxHeartbeats 8000000 in
theorem duties_any {w0 : World} {p : Nat} {A : Option Addr} {n c K : Nat} (w : World) (h : Dr w0 w p A n c K) (hk : K ≤ 600000) (hn : n ≤ 9223372036854775807) :
    Calls Try.prog 80 #[.pointer (some ⟨p, 0, none⟩)] w fun e w' => ∃ (l : List Du) (B : Option Addr) (cb : Nat), e = .returned (.slice B l.length cb) ∧ l.length ≤ 13 ∧ w'.ownsRow w.heap.size 25 4 (.slice B l.length cb) l.length (l.flatMap encDu) ∧ Dr w0 w' p A n c (K + 300) ∧ w.grownBy w' (some p) := by
  have hlt := h.lt
  have HD := Lib.hid h
  clear h
  go_enter Try.func80, Try.ntmps80
  go_wp2_with fail
  refine (pick_dr 14 _ (HD.out.alloc _) (by omega) hn (by decide)).mono ?_; rintro e w1 ⟨r1, rfl, hr1, hd1, hg1⟩
  have HO1 := Lib.hid (own_dr (own_made (E := 25) (K := 4) (n := 0) (cur := #[]) (w := w) rfl (Nat.zero_le _)) hg1 hlt)
  have HG1 := Lib.hid (only_two (only_alloc (World.grownBy.refl w (some p)) _) hg1)
  have HD1 := Lib.hid hd1
  obtain ⟨J, hJ⟩ : ∃ J : Nat, r1 = (J : Int) := ⟨r1.toNat, by omega⟩
  subst hJ
  have hJ8 : J ≤ 13 := by omega
  clear hd1 hg1 hr1
  go_wp2_with fail
  go_loopw [3, 4] (fun vo vn wr => ∃ (j : Nat) (L : List Du) (A1 : Option Addr) (c1 : Nat), j ≤ 13 ∧ L.length ≤ 12 ∧ vn = .int .i64 j ∧ vo = .slice A1 L.length c1 ∧ Hid (wr.ownsRow w.heap.size 25 4 (.slice A1 L.length c1) L.length (L.flatMap encDu)) ∧ Hid (Dr w0 wr p A n c (K + 2 + 14 * (13 - j))) ∧ Hid (w.grownBy wr (some p))) (fun _ v _ => (intOf v).toNat)
  case atStart => exact ⟨J, [], some ⟨w.heap.size, 0, none⟩, 0, hJ8, by simp, rfl, rfl, HO1, Lib.hid (HD1.out.more (by omega)), HG1⟩
  case round =>
    clear HO1 HD1 HG1 hJ8
    obtain ⟨j, L, A1, c1, hj8, hLj, rfl, rfl, HO, HDr, HG⟩ := hrel
    have hcap := own_cap HO.out
    have HAF := Lib.hid (af_own HO.out)
    have hltr := HDr.out.lt
    have hsr := HG.out.size
    by_cases hj0 : 0 < j
    · have hj0' : (0 : Int) < (j : Int) := by omega
      go_wp2_with fail
      refine (duty_any _ HDr.out (by omega) hn).mono ?_; rintro e w3 ⟨m, rfl, hd3, hg3⟩
      have HD3 := Lib.hid hd3
      have HO3 := Lib.hid (own_dr HO.out hg3 hlt)
      have HG3 := Lib.hid (only_two HG.out hg3)
      have hs3 := hg3.size
      clear hd3 hg3
      have har := addR_le L m
      go_wp2_with fail
      refine (sAdd_any L m A1 c1 _ (RowAt.of_own HO3.out encDu_len (by decide)) HAF.out hcap (by omega)).mono ?_; rintro e w4 ⟨A4, c4, rfl, ho4, hb4⟩
      have HO4 := Lib.hid (own_base ho4 (show w.heap.size ≤ w3.heap.size by omega))
      have HP4 := Lib.hid (own_below HO3.out hb4)
      have HD4 := Lib.hid (HD3.out.below hb4)
      have HG4 := Lib.hid (only_two HG3.out (only_of_below hb4 _))
      clear ho4 hb4
      cases hok : addOK L m
      case true =>
        go_wp2_with fail
        go_roundw
        case rel => exact ⟨j - 1, addR L m, A4, c4, by omega, har, by congr 1; omega, rfl, HO4, Lib.hid (HD4.out.more (by omega)), HG4⟩
        case measure => simp [intOf]; omega
      case false =>
        go_wp2_with fail
        go_roundw
        case rel => exact ⟨j - 1, L, A1, c1, by omega, hLj, by congr 1; omega, rfl, HP4, Lib.hid (HD4.out.more (by omega)), HG4⟩
        case measure => simp [intOf]; omega
    · obtain rfl : j = 0 := by omega
      have HD3 := Lib.hid (HDr.out.more (show K + 2 + 14 * (13 - 0) ≤ K + 190 by omega))
      clear HDr
      go_wp2_with fail
      refine (pick_dr 24 _ HD3.out (by omega) hn (by decide)).mono ?_; rintro e w4 ⟨r4, rfl, hr4, hd4, hg4⟩
      have HO4 := Lib.hid (own_dr HO.out hg4 hlt)
      have HG4 := Lib.hid (only_two HG.out hg4)
      have HD4 := Lib.hid hd4
      have hs4 := HG4.out.size
      clear hd4 hg4
      go_wp2_with fail
      case _ =>
        refine (duty_any _ HD4.out (by omega) hn).mono ?_; rintro e w5 ⟨m, rfl, hd5, hg5⟩
        have HO5 := Lib.hid (own_dr HO4.out hg5 hlt)
        have HG5 := Lib.hid (only_two HG4.out hg5)
        have HD5 := Lib.hid hd5
        have hs5 := HG5.out.size
        clear hd5 hg5
        go_wp2_with (at_builtin; (refine wpList_app rfl _ _ 31 25 4 32 _ rfl Try.underlying31 infoDu rfl (by decide) w.heap.size _ L.length _ (by rfl) (HO5.out.alloc _) _ _ (by rfl) (heap_new1 _ _) rfl (encDu_one m) (by omega) (by decide) (by simp; omega) ?_; intro g7 c7 w7 ho7 hg7 hl7; skip))
        have B7 : Below w.heap.size w5 w7 := ((Below.refl _ _).alloc (by omega) _).grown hg7 (by simp; omega) (row_mine HO5.out)
        go_ret
        exact ⟨L ++ [m], some ⟨g7, 0, none⟩, c7, by simp, by simp; omega, by simpa [encDu] using ho7, (HD.out.above HD5.out B7).more (by omega), only_above HG5.out B7⟩
      case _ =>
        have HN4 := Lib.hid (own_base (own_made (E := 25) (K := 4) (n := 0) (cur := #[]) (w := w4) rfl (Nat.zero_le _)) (show w.heap.size ≤ w4.heap.size from hs4))
        have HD5 := Lib.hid (HD4.out.alloc (.cells #[] 25))
        have HG5 := Lib.hid (only_alloc HG4.out (.cells #[] 25))
        clear HO HO4 HD4 HG HG4 hcap
        go_loopw [3, 7] (fun vo vn wr => ∃ (L : List Du) (A1 : Option Addr) (c1 : Nat), L.length ≤ 13 ∧ vn = .int .i64 L.length ∧ vo = .slice A1 L.length c1 ∧ Hid (wr.ownsRow w.heap.size 25 4 (.slice A1 L.length c1) L.length (L.flatMap encDu)) ∧ Hid (Dr w0 wr p A n c (K + 192 + 2 * L.length)) ∧ Hid (w.grownBy wr (some p))) (fun _ v _ => 20 - (intOf v).toNat)
        case atStart => exact ⟨[], _, 0, by simp, rfl, rfl, HN4, HD5, HG5⟩
        case round =>
          clear HN4 HD5 HG5
          obtain ⟨N, B1, d1, hN, rfl, rfl, HO, HDr, HG⟩ := hrel
          have hcap := own_cap HO.out
          have hsr := HG.out.size
          go_wp2_with fail
          refine (pick_dr 2 _ HDr.out (by omega) hn (by decide)).mono ?_; rintro e w6 ⟨r6, rfl, hr6, hd6, hg6⟩
          have HD6 := Lib.hid hd6
          have HO6 := Lib.hid (own_dr HO.out hg6 hlt)
          have HG6 := Lib.hid (only_two HG.out hg6)
          have hs6 := HG6.out.size
          clear hd6 hg6
          by_cases hc : (N.length : Int) < 12 + r6
          · go_wp2_with (at_builtin; (refine wpList_app rfl _ _ 31 25 4 32 _ rfl Try.underlying31 infoDu rfl (by decide) w.heap.size _ N.length _ (by rfl) (HO6.out.alloc _) _ _ (by rfl) (heap_new1 _ _) rfl (encDu_one ⟨(N.length : Int) + 1, 5, 9, false⟩) (by omega) (by decide) (by simp; omega) ?_; intro g7 c7 w7 ho7 hg7 hl7; skip))
            have B7 : Below w.heap.size w6 w7 := ((Below.refl _ _).alloc (by omega) _).grown hg7 (by simp; omega) (row_mine HO6.out)
            go_roundw
            case rel => exact ⟨N ++ [⟨(N.length : Int) + 1, 5, 9, false⟩], by simp; omega, by simp, some ⟨g7, 0, none⟩, c7, ⟨rfl, by simp, rfl⟩, Lib.hid (by simpa [encDu] using ho7), Lib.hid ((HD.out.above HD6.out B7).more (by simp; omega)), Lib.hid (only_above HG6.out B7)⟩
            case measure => simp [intOf]; omega
          · go_wp2_with fail
            go_ret
            exact ⟨N, B1, d1, rfl, hN, HO6.out, HD6.out.more (by omega), HG6.out⟩
      case _ =>
        go_ret
        exact ⟨L, A1, c1, rfl, by omega, HO4.out, HD4.out.more (by omega), HG4.out⟩
end Go.Proofs.Ytldhlmjfpnpamaa
