/-
  The draws of module packets: lists of packets.
-/
import Derived.Test.YtifkakpiipoadaaPkDr3
namespace Go.Proofs.Ytifkakpiipoadaa
set_option linter.unusedVariables false
set_option linter.unusedSimpArgs false
set_option linter.unnecessarySimpa false
open Go.RowKit
attribute [local go_sem] ext_cell ext_frozen

set_option maxRecDepth 100000 in
set_option maxHeartbeats 8000000 in
theorem packets_any {w0 : World} {p : Nat} {A : Option Addr} {n c K : Nat} (w : World) (h : Dr w0 w p A n c K) (hk : K ≤ 600000) (hn : n ≤ 9223372036854775807) :
    Calls Try.prog 89 #[.pointer (some ⟨p, 0, none⟩)] w fun e w' => ∃ (L : List Pk) (B : Option Addr) (cb : Nat), e = .returned (.slice B L.length cb) ∧ L.length ≤ 14 ∧ few9 L ∧ PkRes w.heap.size w' B cb L ∧ Dr w0 w' p A n c (K + 500) ∧ w.grownBy w' (some p) := by
  have hlt := h.lt
  have HD := Lib.hid h
  clear h
  go_enter Try.func89, Try.ntmps89
  go_wp2_with first
    | (go_at_call 92; ((with_reducible refine (among_dr [0, 1, 98] 3 _ _ _ ((HD.out.alloc _).alloc _) (by omega) hn ?_ ?_ ?_ (by decide) (by decide)).mono ?_); exact RowAt.of_block encI_len (heap_new2 _ _ _) rfl; omega; rfl; rintro e w1 ⟨v1, rfl, hv1, hd1, hg1⟩; have hs1 : w.heap.size + 2 ≤ w1.heap.size := (by simpa using hg1.size)))
    | (go_at_call 91; ((with_reducible refine (pick_dr 8 _ hd1 (by omega) hn (by decide)).mono ?_); rintro e w2 ⟨r2, rfl, hr2, hd2, hg2⟩))
    | fail
  have HG2 := Lib.hid (only_two (only_two (only_alloc (only_alloc (World.grownBy.refl w (some p)) _) _) hg1) hg2)
  have HR2 := Lib.hid (((PkRes.empty (base := w.heap.size) (heap_new1 w (.cells #[] 40)) (Nat.le_refl _)).below (balloc (bref _) _)).draw (only_two hg1 hg2) hlt)
  have HD2 := Lib.hid hd2
  have hv1' : 0 ≤ v1 ∧ v1 ≤ 98 := by
    simp at hv1
    omega
  obtain ⟨j0, hj0⟩ : ∃ j0 : Nat, r2 = (j0 : Int) := ⟨r2.toNat, by omega⟩
  subst hj0
  have hj7 : j0 ≤ 7 := by omega
  clear hd1 hg1 hd2 hg2 hv1
  go_loopw [3, 4, 5] (fun v i x wr => ∃ (t j : Nat) (N : Int) (L : List Pk) (A' : Option Addr) (c' : Nat), t + j ≤ 7 ∧ (0 ≤ N ∧ N ≤ 98 + 5 * t) ∧ i = .int .i64 N ∧ x = .int .i64 j ∧ v = .slice A' L.length c' ∧ L.length ≤ 2 * t ∧ Hid (few9 L) ∧ Hid (PkRes w.heap.size wr A' c' L) ∧ Hid (Dr w0 wr p A n c (K + 4 + 50 * t)) ∧ Hid (w.grownBy wr (some p))) (fun _ _ x _ => (intOf x).toNat)
  case atStart => exact ⟨0, j0, v1, [], _, 0, by omega, by omega, rfl, rfl, rfl, by simp, Lib.hid (fun m hm => by simp at hm), HR2, Lib.hid (HD2.out.more (by omega)), HG2⟩
  case round =>
    clear HR2 HD2 HG2
    obtain ⟨t, j, N, L, A', c', htj, hN, rfl, rfl, rfl, hL, H9, HP, HDr, HG⟩ := hrel
    have hsr := HG.out.size
    by_cases hj1 : 0 < j
    · have hj1' : (0 : Int) < (j : Int) := by omega
      go_wp2_with fail
      refine (packet_any _ HDr.out (by omega) hn).mono ?_; rintro e w3 ⟨no, sm, g, cs, rfl, hsm, ho3, hd3, hg3⟩
      have hs3 := hg3.size
      have hgl := (ho3.lt g rfl)
      have HL3 : Hid (PkLp w0 w (w3.alloc (.cells #[.int .i64 no, .slice (some ⟨g, 0, none⟩) sm.length cs] 40)) p A n c (K + 4 + 50 * t + 40) A' c' L w3.heap.size no sm g cs) :=
        Lib.hid ⟨hd3.alloc _, only_two HG.out (only_alloc hg3 _), (HP.out.draw hg3 hlt).below (balloc (bref _) _), own_below (own_base ho3 hsr) (balloc (bref _) _), box2_new _ _ _ _, HP.out.far_ hgl.1, HP.out.far_ hs3, ⟨by omega, by omega⟩⟩
      clear ho3 hd3 hg3 HDr HG HP
      go_wp2_with fail
      refine (one_dr 4 _ HL3.out.dr (by omega) hn (by decide)).mono ?_; rintro e w4 ⟨b4, rfl, hd4, hg4⟩
      have HL4 := Lib.hid (HL3.out.draw hd4 hg4 hlt)
      obtain ⟨_, ⟨y0, y1⟩, f0, f1⟩ := HL4.out.box
      have hs4 : w3.heap.size + 1 ≤ w4.heap.size := by simpa using hg4.size
      clear hd4 hg4 HL3
      cases b4
      case' false =>
        go_wp2_with fail
        have HL5 := Lib.hid (HL4.out.number HD.out N)
      case' true =>
        go_wp2_with fail
        have HL5 := HL4
      all_goals
        clear HL4 y0 y1 f0 f1
        refine (among_dr [1, 1, 1, 2, 0, 5] 6 _ _ _ (HL5.out.dr.alloc _) (by omega) hn ?_ ?_ ?_ (by decide) (by decide)).mono ?_
        · exact RowAt.of_block encI_len (by first | exact heap_new1 _ _ | exact heap_newS _ _ _ _) rfl
        · omega
        · rfl
        rintro e w6 ⟨v6, rfl, hv6, hd6, hg6⟩
        have HL6 := Lib.hid ((HL5.out.below (balloc (bref _) _)).draw hd6 hg6 hlt)
        obtain ⟨_, ⟨y0, y1⟩, f0, f1⟩ := HL6.out.box
        have hv6' : 0 ≤ v6 ∧ v6 ≤ 5 := by
          simp at hv6
          omega
        have hw6 := HL6.out.only.size
        have hcap := own_cap HL6.out.res.out
        clear hd6 hg6 HL5 hv6
        have hNv : 0 ≤ N + v6 ∧ N + v6 ≤ 98 + 5 * ((t : Int) + 1) := by omega
        have H9b := Lib.hid (fun no => few9_one (m := ⟨no, sm, some ⟨g, 0, none⟩, cs⟩) H9.out hsm)
        go_wp2_with first
          | (at_builtin; refine wpList_app rfl _ _ 25 40 2 32 _ rfl Try.underlying25 infoPk rfl (by decide) w.heap.size _ L.length _ (by rfl) (own_below HL6.out.res.out (balloc (bref _) _)) _ _ (by rfl) (heap_new1 _ _) rfl (encPk_one ⟨_, sm, some ⟨g, 0, none⟩, cs⟩) (by omega) (by decide) (by simp; omega) ?_; intro g7 c7 w7 ho7 hg7 hl7; have HQ7 := Lib.hid (PkLp.push (HL6.out.below (balloc (bref _) _)) HD.out ho7 hg7 (by rcases hl7 with r | r <;> simp [Value.ownBlock] at r ⊢ <;> first | exact .inl r | (right; omega)) hlt); clear ho7 hg7 hl7)
          | fail
        clear HL6 y0 y1 f0 f1
        refine (one_dr 6 _ HQ7.out.dr (by omega) hn (by decide)).mono ?_; rintro e w8 ⟨b8, rfl, hd8, hg8⟩
        have HQ8 := Lib.hid (HQ7.out.draw hd8 hg8 hlt)
        obtain ⟨_, ⟨y0, y1⟩, f0, f1⟩ := HQ8.out.box
        have hs8 := hg8.size
        clear hd8 hg8 HQ7
        cases b8
        case false =>
          clear y0 y1 f0 f1
          go_wp2_with fail
          go_roundw
          case rel => exact ⟨t + 1, j - 1, N + v6, _, some ⟨g7, 0, none⟩, c7, by omega, by omega, rfl, by first | (rw [show ((j - 1 : Nat) : Int) = (j : Int) - 1 by omega]; done) | go_num, by simp, by simp; omega, Lib.hid (H9b.out _), Lib.hid HQ8.out.res, Lib.hid (HQ8.out.dr.more (by omega)), Lib.hid HQ8.out.only⟩
          case measure => simp [intOf]; omega
        case true =>
          clear y0 y1 f0 f1
          obtain ⟨nx, LL, hLL, HQ9, H9c⟩ : ∃ nx LL, LL.length = L.length + 1 ∧ Hid (PkLq w0 w w8 p A n c (K + 4 + 50 * t + 40 + 2 + 2 + 2) (some ⟨g7, 0, none⟩) c7 LL w3.heap.size nx sm g cs) ∧ Hid (few9 LL) := ⟨_, _, by simp, HQ8, Lib.hid (H9b.out _)⟩
          obtain ⟨_, ⟨y0, y1⟩, f0, f1⟩ := HQ9.out.box
          have hown := HQ9.out.res.out
          have hfq := HQ9.out.farq.1
          rw [hLL] at hown hfq
          have HOW := Lib.hid hown
          have HFQ := Lib.hid hfq
          have HQB := Lib.hid HQ9.out.box.1
          have HQ0 := Lib.hid y0
          have HQ1 := Lib.hid y1
          have hw8 := HQ9.out.only.size
          clear hown hfq HQ8
          go_wp2_with fail
          go_region_held3 (fun w' => w'.cell? ⟨w3.heap.size, 0, none⟩ = some (.int .i64 nx) ∧ w'.cell? ⟨w3.heap.size, 1, none⟩ = some (.slice (some ⟨g, 0, none⟩) sm.length cs))
            (first | exact hKA | exact ⟨(Below.cell (B := w8.heap.size) (w := w8) (p := ⟨w3.heap.size, 0, none⟩) (by repeat (first | exact bref _ | exact hbX1 | (refine balloc ?_ _) | (refine bdrew ?_) | (refine bdrewN ?_ _))) HQB.out).trans HQ0.out, (Below.cell (B := w8.heap.size) (w := w8) (p := ⟨w3.heap.size, 1, none⟩) (by repeat (first | exact bref _ | exact hbX1 | (refine balloc ?_ _) | (refine bdrew ?_) | (refine bdrewN ?_ _))) HQB.out).trans HQ1.out⟩)
            (first
              | (go_at_call 69; (with_reducible refine (l1Own_any sm (some ⟨g, 0, none⟩) cs _ ?_ (by omega)).mono ?_); exact RowAt.below HQ9.out.row (by repeat (first | exact bref _ | exact hbX1 | (refine balloc ?_ _) | (refine bdrew ?_) | (refine bdrewN ?_ _))); rintro e w9 ⟨g9, c9, rfl, ho9, hb9⟩; have hbX1 : Below w8.heap.size w8 w9 := bstep (by repeat (first | exact bref _ | exact hbX1 | (refine balloc ?_ _) | (refine bdrew ?_) | (refine bdrewN ?_ _))) hb9; have HO9 := Lib.hid ho9; have hg9 := row_mine ho9 g9 rfl; have hl9 := (ho9.lt g9 rfl).2; clear ho9 hb9)
              | (refine step_appS (by rfl) (.tmp 38) (.tmp 45) 25 40 2 32 _ (by rfl) Try.underlying25 infoPk rfl (by decide) w.heap.size _ (L.length + 1) _ (by rfl) (own_below HOW.out (by repeat (first | exact bref _ | exact hbX1 | (refine balloc ?_ _) | (refine bdrew ?_) | (refine bdrewN ?_ _)))) _ 1 _ (encPk ⟨nx, sm, some ⟨g9, 0, none⟩, c9⟩) (by rfl) rfl (news1 (heap_new1 _ _) rfl) (encPk_one ⟨nx, sm, some ⟨g9, 0, none⟩, c9⟩) (L.length + 1 + 1) rfl _ rfl (by omega) (by decide) (by have := hbX1.size; simp <;> omega) ?_; intro A10 c10 w10 ho10 hg10 hl10; have hKA : w10.cell? ⟨w3.heap.size, 0, none⟩ = some (.int .i64 nx) ∧ w10.cell? ⟨w3.heap.size, 1, none⟩ = some (.slice (some ⟨g, 0, none⟩) sm.length cs) := ⟨hg10.cell ((Below.cell (B := w8.heap.size) (w := w8) (p := ⟨w3.heap.size, 0, none⟩) (by repeat (first | exact bref _ | exact hbX1 | (refine balloc ?_ _) | (refine bdrew ?_) | (refine bdrewN ?_ _))) HQB.out).trans HQ0.out) HFQ.out, hg10.cell ((Below.cell (B := w8.heap.size) (w := w8) (p := ⟨w3.heap.size, 1, none⟩) (by repeat (first | exact bref _ | exact hbX1 | (refine balloc ?_ _) | (refine bdrew ?_) | (refine bdrewN ?_ _))) HQB.out).trans HQ1.out) HFQ.out⟩)
              | fail)
          all_goals
            have hbW : Below w.heap.size w8 w10 := ((Below.mono (balloc hbX1 _) hw8)).grown hg10 (by have := hbX1.size; simp; omega) (fun k hk => row_mine HOW.out k hk)
            have hDW := HD.out.above HQ9.out.dr hbW
            have hGW := only_above HQ9.out.only hbW
            rw [← hLL] at ho10 hg10 hl10
            have hpush := PkRes.push (no := nx) (sm := sm) HQ9.out.res hg9 (balloc hbX1 _) (by simp; omega) (Nat.le_refl _) (own_base (own_below HO9.out (balloc (bref _) _)) hw8) ho10 hg10 hl10
            rw [hLL] at ho10 hg10 hl10
            go_wp2_with fail
            go_roundw
            case rel => exact ⟨t + 1, j - 1, N + v6, _, A10, c10, by omega, by omega, rfl, by first | (rw [show ((j - 1 : Nat) : Int) = (j : Int) - 1 by omega]; done) | go_num, by simp [hLL], by simp [hLL]; omega, Lib.hid (few9_one H9c.out hsm), Lib.hid hpush, Lib.hid (hDW.more (by omega)), Lib.hid hGW⟩
            case measure => simp [intOf]; omega
    · obtain rfl : j = 0 := by omega
      have hL14 : L.length ≤ 14 := by omega
      have HDa := Lib.hid (HDr.out.more (show K + 4 + 50 * t ≤ K + 360 by omega))
      clear HDr hj1
      by_cases hl1 : 1 < L.length
      case' pos =>
        have hl1' : (1 : Int) < (L.length : Int) := by omega
        go_wp2_with fail
        refine (one_dr 3 _ HDa.out (by omega) hn (by decide)).mono ?_; rintro e w3 ⟨b3, rfl, hd3, hg3⟩
        have HD3 := Lib.hid hd3
        have HP3 := Lib.hid (HP.out.draw hg3 hlt)
        have HG3 := Lib.hid (only_two HG.out hg3)
        clear hd3 hg3
        cases b3
        case' true =>
          go_wp2_with fail
          refine (pick_dr ((L.length : Int) - 1) _ HD3.out (by omega) hn (by omega)).mono ?_; rintro e w4 ⟨r4, rfl, hr4, hd4, hg4⟩
          obtain ⟨i, hi⟩ : ∃ i : Nat, r4 = (i : Int) := ⟨r4.toNat, by omega⟩
          subst hi
          have hi1 : i + 1 < L.length := by omega
          have HD4 := Lib.hid hd4
          have HP4 := Lib.hid (HP3.out.draw hg4 hlt)
          have HG4 := Lib.hid (only_two HG3.out hg4)
          clear hd4 hg4 hr4
          obtain ⟨gA, rfl⟩ : ∃ gA, A' = some ⟨gA, 0, none⟩ := by
            rcases own_form HP4.out.out with ⟨_, h0, _⟩ | h
            · omega
            · exact h
          obtain ⟨ma, hma⟩ := some_get (l := L) (k := i) (by omega)
          obtain ⟨k, hki⟩ : ∃ k : Nat, k = i + 1 := ⟨_, rfl⟩
          have hkL : k < L.length := by omega
          have hkL2 : k < 14 := by omega
          have hiL : i < L.length := by omega
          obtain ⟨mb, hmb⟩ := some_get hkL
          obtain ⟨_, _, ea, _, a0, a1⟩ := RowAt.pkc HP4.out.at_.1 hma
          cases ea
          obtain ⟨_, _, eb, hgl, c0, c1⟩ := RowAt.pkc HP4.out.at_.1 hmb
          cases eb
          have ek : (1 + (i : Int)) = (k : Int) := by omega
          have hik : i < k := by omega
          have ew : IntKind.i64.wrap ((k : Int) - 1) = (i : Int) := by rw [IntKind.wrap_i64]; omega
          have k0 := ib0 k
          have k1 := ib1 hkL
          have i0 := ib0 i
          have i1 := ib1 hiL
          simp only [Nat.zero_add] at a0 a1 c0 c1
          have HMA := Lib.hid hma
          have HMB := Lib.hid hmb
          have z0 := HP4.out.out.frozenAt (i * 2)
          have z1 := HP4.out.out.frozenAt (i * 2 + 1)
          have z2 := HP4.out.out.frozenAt (k * 2)
          have z3 := HP4.out.out.frozenAt (k * 2 + 1)
          clear hma hmb hki hi1
          go_wp2_with fail
          try simp only [ek]
          clear ek
          go_region
          all_goals
            go_wp2_with fail
            have hgA := row_mine HP4.out.out gA rfl
            have hsw := PkRes.swap HP4.out hik HMA.out HMB.out
            have hBs : Below w.heap.size w4 ((((w4.setCell ⟨gA, i * 2, none⟩ (.int .i64 mb.no)).setCell ⟨gA, i * 2 + 1, none⟩ (.slice mb.A mb.sm.length mb.c)).setCell ⟨gA, k * 2, none⟩ (.int .i64 ma.no)).setCell ⟨gA, k * 2 + 1, none⟩ (.slice ma.A ma.sm.length ma.c)) := ((((Below.refl _ _).setCell (p := ⟨gA, i * 2, none⟩) hgA _).setCell (p := ⟨gA, i * 2 + 1, none⟩) hgA _).setCell (p := ⟨gA, k * 2, none⟩) hgA _).setCell (p := ⟨gA, k * 2 + 1, none⟩) hgA _
            have hDs := HD.out.above HD4.out hBs
            have hGs := only_above HG4.out hBs
            generalize ((((w4.setCell ⟨gA, i * 2, none⟩ (.int .i64 mb.no)).setCell ⟨gA, i * 2 + 1, none⟩ (.slice mb.A mb.sm.length mb.c)).setCell ⟨gA, k * 2, none⟩ (.int .i64 ma.no)).setCell ⟨gA, k * 2 + 1, none⟩ (.slice ma.A ma.sm.length ma.c)) = S at hsw hDs hGs ⊢
            have hXX : ∀ W, Below S.heap.size S W → ∃ L2 : List Pk, L2.length = L.length ∧ Hid (few9 L2) ∧ Hid (PkRes w.heap.size W (some ⟨gA, 0, none⟩) c' L2) ∧ Hid (Dr w0 W p A n c (K + 370)) ∧ Hid (w.grownBy W (some p)) := fun W hW => ⟨_, by simp, Lib.hid (few9_swap H9.out HMA.out HMB.out), Lib.hid (hsw.below hW), Lib.hid ((hDs.below hW).more (by omega)), Lib.hid (only_two hGs (only_of_below hW _))⟩
            first
              | (obtain ⟨Wz, hWz⟩ : ∃ Wz, Wz = ((S.alloc (.cells #[.int .i64 ma.no, .slice ma.A ma.sm.length ma.c] 40)).alloc (.cells #[.int .i64 mb.no, .slice mb.A mb.sm.length mb.c] 40)).drew := ⟨_, rfl⟩; rw [← hWz]; have hbz : Below S.heap.size S Wz := (by rw [hWz]; exact bdrew (balloc (balloc (bref S) _) _)); clear hWz)
              | (obtain ⟨Wz, hWz⟩ : ∃ Wz, Wz = ((S.alloc (.cells #[.int .i64 mb.no, .slice mb.A mb.sm.length mb.c] 40)).alloc (.cells #[.int .i64 ma.no, .slice ma.A ma.sm.length ma.c] 40)).drew := ⟨_, rfl⟩; rw [← hWz]; have hbz : Below S.heap.size S Wz := (by rw [hWz]; exact bdrew (balloc (balloc (bref S) _) _)); clear hWz)
            have HX := hXX Wz hbz
        case' false =>
          go_wp2_with fail
          have HX : ∃ L2 : List Pk, L2.length = L.length ∧ Hid (few9 L2) ∧ Hid (PkRes w.heap.size w3 A' c' L2) ∧ Hid (Dr w0 w3 p A n c (K + 370)) ∧ Hid (w.grownBy w3 (some p)) := ⟨L, rfl, H9, HP3, Lib.hid (HD3.out.more (by omega)), HG3⟩
      case' neg =>
        go_wp2_with fail
        have HX : ∃ L2 : List Pk, L2.length = L.length ∧ Hid (few9 L2) ∧ Hid (PkRes w.heap.size wr A' c' L2) ∧ Hid (Dr w0 wr p A n c (K + 370)) ∧ Hid (w.grownBy wr (some p)) := ⟨L, rfl, H9, HP, Lib.hid (HDa.out.more (by omega)), HG⟩
      all_goals
        obtain ⟨L2, hL2, H92, HP2, HD2, HG2⟩ := HX
        refine (one_dr 32 _ HD2.out (by omega) hn (by decide)).mono ?_; rintro e w5 ⟨b5, rfl, hd5, hg5⟩
        have HD5 := Lib.hid hd5
        have HP5 := Lib.hid (HP2.out.draw hg5 hlt)
        have HG5 := Lib.hid (only_two HG2.out hg5)
        clear hd5 hg5 HP2 HD2 HG2
        rw [← hL2]
        have hL3 : L2.length ≤ 14 := by omega
        cases b5
        case false =>
          go_wp2_with fail
          go_ret
          exact ⟨L2, _, c', by rw [hL2]; rfl, hL3, H92.out, HP5.out, HD5.out.more (by omega), HG5.out⟩
        case true =>
          go_wp2_with fail
          go_loopw [3] (fun v wr => ∃ (M : List Pk) (A2 : Option Addr) (c2 : Nat), M.length ≤ 14 ∧ v = .slice A2 M.length c2 ∧ Hid (few9 M) ∧ Hid (PkRes w.heap.size wr A2 c2 M) ∧ Hid (Dr w0 wr p A n c (K + 372 + 2 * M.length)) ∧ Hid (w.grownBy wr (some p))) (fun v _ => 15 - slLen v)
          case atStart => exact ⟨L2, _, c', hL3, by rw [hL2], H92, HP5, Lib.hid (HD5.out.more (by omega)), HG5⟩
          case round =>
            clear HP5 HD5 HG5 H92
            obtain ⟨M, A2, c2, hM, rfl, H9M, HPM, HDM, HGM⟩ := hrel
            go_wp2_with fail
            refine (pick_dr 2 _ HDM.out (by omega) hn (by decide)).mono ?_; rintro e w6 ⟨r6, rfl, hr6, hd6, hg6⟩
            have HP6 := Lib.hid (HPM.out.draw hg6 hlt)
            have HG6 := Lib.hid (only_two HGM.out hg6)
            have HD6 := Lib.hid hd6
            have hw6 := HG6.out.size
            have hcap := own_cap HP6.out.out
            clear hd6 hg6
            have ew : IntKind.i64.wrap (10 + r6) = 10 + r6 := by rw [IntKind.wrap_i64]; omega
            by_cases hmore : (M.length : Int) < 10 + r6
            · have hM10 : M.length ≤ 10 := by omega
              go_wp2_with first
                | (at_builtin; refine wpList_app rfl _ _ 25 40 2 32 _ rfl Try.underlying25 infoPk rfl (by decide) w.heap.size _ M.length _ (by rfl) (own_below HP6.out.out (balloc (balloc (bref _) _) _)) _ _ (by rfl) (heap_new2 _ _ _) rfl (encPk_one ⟨_, [1], some ⟨w6.heap.size, 0, none⟩, 1⟩) (by omega) (by decide) (by simp; omega) ?_; intro g7 c7 w7 ho7 hg7 hl7)
                | fail
              have hrow1 : ((w6.alloc (.cells #[.int .i64 1] 3)).alloc (.cells #[.int .i64 (500 + (M.length : Int)), .slice (some ⟨w6.heap.size, 0, none⟩) 1 1] 40)).ownsRow w.heap.size 3 1 (.slice (some ⟨w6.heap.size, 0, none⟩) [(1 : Int)].length 1) [(1 : Int)].length ([(1 : Int)].flatMap encI) :=
                own_base (own_below (own_made (E := 3) (K := 1) (n := 1) (cur := #[.int .i64 1]) (w := w6) rfl (by decide)) (balloc (bref _) _)) hw6
              have hpush := PkRes.push (w0 := w6) (no := 500 + (M.length : Int)) (sm := [1]) HP6.out (Nat.le_refl _) (balloc (balloc (bref w6) _) _) (by first | (simp; done) | (simp; omega)) (Nat.le_refl _) hrow1 ho7 hg7 (by rcases hl7 with r | r <;> simp [Value.ownBlock] at r ⊢ <;> first | exact .inl r | (right; omega))
              have hbW : Below w.heap.size w6 w7 := (((Below.refl _ _).alloc hw6 _).alloc (by simp; omega) _).grown hg7 (by simp; omega) (fun k hk => row_mine HP6.out.out k hk)
              exact ⟨⟨_, some ⟨g7, 0, none⟩, c7, by simp; omega, by simp, Lib.hid (few9_one H9M.out (by simp)), Lib.hid hpush, Lib.hid ((HD.out.above HD6.out hbW).more (by simp; omega)), Lib.hid (only_above HG6.out hbW)⟩, by simp [slLen]; omega⟩
            · go_wp2_with fail
              go_ret
              exact ⟨M, A2, c2, rfl, hM, H9M.out, HP6.out, HD6.out.more (by omega), HG6.out⟩
end Go.Proofs.Ytifkakpiipoadaa
