/-
  The draws of module felt reports: lists of reports.
-/
import Derived.Test.YtjjinblahmcplaaFeDr1
import Derived.Test.YtjjinblahmcplaaFeGood
import Derived.Test.YtjjinblahmcplaaFeMrgS
namespace Go.Proofs.Ytjjinblahmcplaa
open Go.RowKit
attribute [local go_sem] ext_cell ext_frozen

/-- An old row stays where a new one grows. -/
theorem own_low {w w' : World} {base E K n c B : Nat} {A : Option Addr} {xs : List Value} {r : Option Nat} (h : w.ownsRow base E K (.slice A n c) n xs) (hlt : ∀ q, (Value.slice A n c).ownBlock = some q → q < B) (hg : w.grownBy w' r) (hr : ∀ q, r = some q → B ≤ q) : w'.ownsRow base E K (.slice A n c) n xs := by
  refine h.kept hg ?_
  cases e : (Value.slice A n c).ownBlock with
  | none => exact .inl rfl
  | some q =>
    right
    intro e2
    have h1 := hlt q e
    have h2 := hr q e2.symm
    omega
set_option maxRecDepth 100000 in
set_option maxHeartbeats 8000000 in
theorem felts_any {w0 : World} {p : Nat} {A : Option Addr} {n c K : Nat} (w : World) (h : Dr w0 w p A n c K) (hk : K ≤ 600000) (hn : n ≤ 9223372036854775807) :
    Calls Try.prog 97 #[.pointer (some ⟨p, 0, none⟩)] w fun e w' => ∃ (l : List Fe) (B : Option Addr) (cb : Nat), e = .returned (.slice B l.length cb) ∧ l.length ≤ 13 ∧ w'.ownsRow w.heap.size 25 5 (.slice B l.length cb) l.length (l.flatMap encFe) ∧ Dr w0 w' p A n c (K + 300) ∧ w.grownBy w' (some p) := by
  have hlt := h.lt
  have HD := Lib.hid h
  clear h
  go_enter Try.func97, Try.ntmps97
  go_wp2_with fail
  refine (pick_dr 9 _ (HD.out.alloc _) (by omega) hn (by decide)).mono ?_; rintro e w1 ⟨r1, rfl, hr1, hd1, hg1⟩
  have HO1 := Lib.hid (own_dr (own_made (E := 25) (K := 5) (n := 0) (cur := #[]) (w := w) rfl (Nat.zero_le _)) hg1 hlt)
  have HG1 := Lib.hid (only_two (only_alloc (World.grownBy.refl w (some p)) _) hg1)
  have HD1 := Lib.hid hd1
  obtain ⟨J, hJ⟩ : ∃ J : Nat, r1 = (J : Int) := ⟨r1.toNat, by omega⟩
  subst hJ
  have hJ8 : J ≤ 8 := by omega
  clear hd1 hg1 hr1
  go_wp2_with fail
  go_loopw [3, 4, 5] (fun vo vi vn wr => ∃ (j : Nat) (L : List Fe) (A1 : Option Addr) (c1 : Nat) (id : Int), j ≤ 8 ∧ L.length + j ≤ 8 ∧ vn = .int .i64 j ∧ vi = .int .i64 id ∧ vo = .slice A1 L.length c1 ∧ (0 ≤ id ∧ id ≤ 24 - 3 * j) ∧ Hid (wr.ownsRow w.heap.size 25 5 (.slice A1 L.length c1) L.length (L.flatMap encFe)) ∧ Hid (Dr w0 wr p A n c (K + 2 + 24 * (8 - j))) ∧ Hid (w.grownBy wr (some p))) (fun _ _ v _ => (intOf v).toNat)
  case atStart => exact ⟨J, [], some ⟨w.heap.size, 0, none⟩, 0, 0, hJ8, by simp; omega, rfl, rfl, rfl, ⟨by omega, by omega⟩, HO1, Lib.hid (HD1.out.more (by omega)), HG1⟩
  case round =>
    clear HO1 HD1 HG1 hJ8
    obtain ⟨j, L, A1, c1, id, hj8, hLj, rfl, rfl, rfl, ⟨hi0, hi1⟩, HO, HDr, HG⟩ := hrel
    have hcap := own_cap HO.out
    have hltr := HDr.out.lt
    have hsr := HG.out.size
    by_cases hj0 : 0 < j
    · have hj0' : (0 : Int) < (j : Int) := by omega
      go_wp2_with fail
      refine (pick_dr 3 _ HDr.out (by omega) hn (by decide)).mono ?_; rintro e w3 ⟨r3, rfl, hr3, hd3, hg3⟩
      have hid3 : 0 ≤ id + 1 + r3 ∧ id + 1 + r3 ≤ 24 - 3 * ((j : Int) - 1) := by omega
      have HD3 := Lib.hid hd3
      have HO3 := Lib.hid (own_dr HO.out hg3 hlt)
      have HG3 := Lib.hid (only_two HG.out hg3)
      have hrow3 := HO3.out.lt
      have hs3 := hg3.size
      have hlt3 := hd3.lt
      clear hd3 hg3
      go_wp2_with (at_builtin; (refine wpList_appS rfl _ _ 31 25 5 40 _ rfl Try.underlying31 infoFe rfl (by decide) w3.heap.size _ 0 [] (by rfl) (own_empty (heap_new1 _ _) (Nat.le_refl _)) _ _ _ (L.flatMap encFe) (by rfl) (cellsFe_len L) ((RowAt.below (RowAt.of_own HO3.out encFe_len (by decide)) (balloc (bref _) _)).news encFe_len) (cellsFe_one L) L.length (Nat.zero_add _) _ (List.nil_append _) (by omega) (by decide) (by simp) ?_; intro A4 c4 w4 ho4 hg4 hl4; skip))
      have hb4 : Below w3.heap.size w3 w4 := bgrown (balloc (bref _) _) hg4 (by intro k hk; simp [Value.ownBlock] at hk; omega)
      have HO4 := Lib.hid ho4
      have HP4 := Lib.hid (own_below HO3.out hb4)
      have HD4 := Lib.hid (HD3.out.below hb4)
      have HG4 := Lib.hid (only_two HG3.out (only_of_below hb4 _))
      have hs4 := hb4.size
      clear ho4 hg4 hl4 hb4
      refine (felt_any _ _ HD4.out (by omega) hn).mono ?_; rintro e w5 ⟨m, rfl, hd5, hg5⟩
      have HO5 := Lib.hid (own_dr HO4.out hg5 hlt3)
      have HP5 := Lib.hid (own_dr HP4.out hg5 hlt)
      have HD5 := Lib.hid hd5
      have HG5 := Lib.hid (only_two HG4.out hg5)
      have hs5 := hg5.size
      clear hd5 hg5
      go_wp2_with (at_builtin; (refine wpList_app rfl _ _ 31 25 5 40 _ rfl Try.underlying31 infoFe rfl (by decide) w3.heap.size _ L.length _ (by rfl) (HO5.out.alloc _) _ _ (by rfl) (heap_new1 _ _) rfl (encFe_one m) (by omega) (by decide) (by simp; omega) ?_; intro g6 c6 w6 ho6 hg6 hl6; skip))
      have B6 : Below w3.heap.size w5 w6 := ((Below.refl _ _).alloc (by omega) _).grown hg6 (by simp; omega) (row_mine HO5.out)
      have HP6 := Lib.hid (own_low (HP5.out.alloc _) (fun q hq => (hrow3 q hq).2) hg6 (row_mine HO5.out))
      obtain ⟨M, hMl, hMo⟩ : ∃ M : List Fe, M.length = L.length + 1 ∧ w6.ownsRow w.heap.size 25 5 (.slice (some ⟨g6, 0, none⟩) (L.length + 1) c6) (L.length + 1) (M.flatMap encFe) := ⟨L ++ [m], by simp, by simpa [encFe] using own_base ho6 (by omega)⟩
      have HMO := Lib.hid (show w6.ownsRow w.heap.size 25 5 (.slice (some ⟨g6, 0, none⟩) M.length c6) M.length (M.flatMap encFe) by rw [hMl]; exact hMo)
      have HML := Lib.hid hMl
      have HD6 := Lib.hid (HD.out.above HD5.out (B6.mono (by omega)))
      have HG6 := Lib.hid (only_above HG5.out (B6.mono (by omega)))
      have h7 := sgoodFe_any M (some ⟨g6, 0, none⟩) c6 w6 (RowAt.of_own HMO.out encFe_len (by decide)) (by omega)
      rw [hMl] at h7
      have hM9 : M.length + j ≤ 9 := by omega
      clear hMl hMo ho6 hg6 hl6 B6 HO5 HO4 HP5 HP4
      have hs6 := HG6.out.size
      cases hgd : goodFe M
      case true =>
        rw [hgd] at h7
        refine h7.mono ?_; rintro e w7 ⟨rfl, hb7⟩
        clear h7
        go_wp2_with fail
        go_roundw
        case rel => exact ⟨j - 1, M, some ⟨g6, 0, none⟩, c6, id + 1 + r3, by omega, by omega, by congr 1; omega, rfl, by rw [HML.out], ⟨by omega, by omega⟩, Lib.hid (own_below HMO.out hb7), Lib.hid ((HD6.out.below hb7).more (by omega)), Lib.hid (only_two HG6.out (only_of_below hb7 _))⟩
        case measure => simp [intOf]; omega
      case false =>
        rw [hgd] at h7
        refine h7.mono ?_; rintro e w7 ⟨rfl, hb7⟩
        clear h7
        go_wp2_with fail
        refine (one_dr 50 _ (HD6.out.below hb7) (by omega) hn (by decide)).mono ?_; rintro e w8 ⟨b8, rfl, hd8, hg8⟩
        have HM8 := Lib.hid (own_dr (own_below HMO.out hb7) hg8 hlt)
        have HP8 := Lib.hid (own_dr (own_below HP6.out hb7) hg8 hlt)
        have HG8 := Lib.hid (only_two HG6.out (only_two (only_of_below hb7 _) hg8))
        have HD8 := Lib.hid hd8
        clear hd8 hg8 hb7
        cases b8
        case true =>
          go_wp2_with fail
          go_roundw
          case rel => exact ⟨j - 1, M, some ⟨g6, 0, none⟩, c6, id + 1 + r3, by omega, by omega, by congr 1; omega, rfl, by rw [HML.out], ⟨by omega, by omega⟩, HM8, Lib.hid (HD8.out.more (by omega)), HG8⟩
          case measure => simp [intOf]; omega
        case false =>
          go_wp2_with fail
          go_roundw
          case rel => exact ⟨j - 1, L, A1, c1, id + 1 + r3, by omega, by omega, by congr 1; omega, rfl, rfl, ⟨by omega, by omega⟩, HP8, Lib.hid (HD8.out.more (by omega)), HG8⟩
          case measure => simp [intOf]; omega
    · obtain rfl : j = 0 := by omega
      have HD3 := Lib.hid (HDr.out.more (show K + 2 + 24 * (8 - 0) ≤ K + 200 by omega))
      clear HDr
      go_wp2_with fail
      refine (one_dr 24 _ HD3.out (by omega) hn (by decide)).mono ?_; rintro e w4 ⟨b4, rfl, hd4, hg4⟩
      have HO4 := Lib.hid (own_dr HO.out hg4 hlt)
      have HG4 := Lib.hid (only_two HG.out hg4)
      have HD4 := Lib.hid hd4
      have hs4 := HG4.out.size
      clear hd4 hg4
      cases b4
      case false =>
        go_wp2_with fail
        go_ret
        exact ⟨L, A1, c1, rfl, by omega, HO4.out, HD4.out.more (by omega), HG4.out⟩
      case true =>
        have HN4 := Lib.hid (own_base (own_made (E := 25) (K := 5) (n := 0) (cur := #[]) (w := w4) rfl (Nat.zero_le _)) (show w.heap.size ≤ w4.heap.size from hs4))
        have HD5 := Lib.hid (HD4.out.alloc (.cells #[] 25))
        have HG5 := Lib.hid (only_alloc HG4.out (.cells #[] 25))
        clear HO HO4 HD4 HG HG4 hcap
        go_wp2_with fail
        go_loopw [3, 7] (fun vo vn wr => ∃ (L : List Fe) (A1 : Option Addr) (c1 : Nat), L.length ≤ 13 ∧ vn = .int .i64 L.length ∧ vo = .slice A1 L.length c1 ∧ Hid (wr.ownsRow w.heap.size 25 5 (.slice A1 L.length c1) L.length (L.flatMap encFe)) ∧ Hid (Dr w0 wr p A n c (K + 202 + 2 * L.length)) ∧ Hid (w.grownBy wr (some p))) (fun _ v _ => 20 - (intOf v).toNat)
        case atStart => exact ⟨[], _, 0, by simp, rfl, rfl, HN4, HD5, HG5⟩
        case round =>
          clear HN4 HD5 HG5
          obtain ⟨N, B1, d1, hN, rfl, rfl, HO, HDr, HG⟩ := hrel
          have hcap := own_cap HO.out
          have hsr := HG.out.size
          go_wp2_with fail
          refine (pick_dr 2 _ HDr.out (by omega) hn (by decide)).mono ?_; rintro e w6 ⟨r6, rfl, hr6, hd6, hg6⟩
          have HD6 := Lib.hid hd6
          have HO6 := Lib.hid (own_dr HO.out hg6 hlt)
          have HG6 := Lib.hid (only_two HG.out hg6)
          have hs6 := HG6.out.size
          clear hd6 hg6
          by_cases hc : (N.length : Int) < 12 + r6
          · go_wp2_with (at_builtin; (refine wpList_app rfl _ _ 31 25 5 40 _ rfl Try.underlying31 infoFe rfl (by decide) w.heap.size _ N.length _ (by rfl) (HO6.out.alloc _) _ _ (by rfl) (heap_new1 _ _) rfl (encFe_one ⟨(N.length : Int) + 1, 7 * (N.length : Int), 3 * (N.length : Int), 1 + (N.length : Int) % 12, 2⟩) (by omega) (by decide) (by simp; omega) ?_; intro g7 c7 w7 ho7 hg7 hl7; skip))
            have B7 : Below w.heap.size w6 w7 := ((Below.refl _ _).alloc (by omega) _).grown hg7 (by simp; omega) (row_mine HO6.out)
            go_roundw
            case rel => exact ⟨N ++ [⟨(N.length : Int) + 1, 7 * (N.length : Int), 3 * (N.length : Int), 1 + (N.length : Int) % 12, 2⟩], some ⟨g7, 0, none⟩, c7, by simp; omega, by simp, by simp, Lib.hid (by simpa [encFe] using ho7), Lib.hid ((HD.out.above HD6.out B7).more (by simp; omega)), Lib.hid (only_above HG6.out B7)⟩
            case measure => simp [intOf]; omega
          · go_wp2_with fail
            go_ret
            exact ⟨N, B1, d1, rfl, hN, HO6.out, HD6.out.more (by omega), HG6.out⟩
end Go.Proofs.Ytjjinblahmcplaa
