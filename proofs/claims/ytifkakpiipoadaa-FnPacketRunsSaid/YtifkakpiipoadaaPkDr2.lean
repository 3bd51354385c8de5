/-
  The draws of module packets: one packet.
-/
import Derived.Test.YtifkakpiipoadaaPkDr1
import Derived.Deep.RegionLaw
namespace Go.Proofs.Ytifkakpiipoadaa
set_option linter.unusedVariables false
set_option linter.unusedSimpArgs false
set_option linter.unnecessarySimpa false
open Go.RowKit
attribute [local go_sem] ext_cell ext_frozen

set_option maxRecDepth 100000 in
set_option maxHeartbeats 8000000 in
theorem packet_any {w0 : World} {p : Nat} {A : Option Addr} {n c K : Nat} (w : World) (h : Dr w0 w p A n c K) (hk : K ≤ 700000) (hn : n ≤ 9223372036854775807) :
    Calls Try.prog 93 #[.pointer (some ⟨p, 0, none⟩)] w fun e w' => ∃ (no : Int) (sm : List Int) (g cb : Nat), e = .returned (.agg #[.int .i64 no, .slice (some ⟨g, 0, none⟩) sm.length cb]) ∧ sm.length ≤ 9 ∧ w'.ownsRow w.heap.size 3 1 (.slice (some ⟨g, 0, none⟩) sm.length cb) sm.length (sm.flatMap encI) ∧ Dr w0 w' p A n c (K + 40) ∧ w.grownBy w' (some p) := by
  have hlt := h.lt
  have HD := Lib.hid h
  clear h
  go_enter Try.func93, Try.ntmps93
  go_wp2_with first
    | (go_at_call 92; ((with_reducible refine (among_dr [0, 1, 2, 3, 4, 5, 7, 8, 12, 100, 104, 999] 12 _ _ _ ((HD.out.alloc _).alloc _) (by omega) hn ?_ ?_ ?_ (by decide) (by decide)).mono ?_); exact RowAt.of_block encI_len (heap_new2 _ _ _) rfl; omega; rfl; rintro e w1 ⟨v1, rfl, hv1, hd1, hg1⟩; have hs1 : w.heap.size + 2 ≤ w1.heap.size := (by simpa using hg1.size)))
    | fail
  have HST0 : Hid (PkSt w0 w ((w1.alloc (.cells #[] 3)).alloc (.cells #[.int .i64 v1, .slice (some ⟨w1.heap.size, 0, none⟩) 0 0] 40)) p A n c (K + 2) (w1.heap.size + 1) v1 [] w1.heap.size 0) := by
    have e1 : (w1.alloc (.cells #[] 3)).heap.size = w1.heap.size + 1 := by simp
    have hb2 := box2_new (w1.alloc (.cells #[] 3)) (.int .i64 v1) (.slice (some ⟨w1.heap.size, 0, none⟩) 0 0) 40
    rw [e1] at hb2
    have ha : w1.grownBy ((w1.alloc (.cells #[] 3)).alloc (.cells #[.int .i64 v1, .slice (some ⟨w1.heap.size, 0, none⟩) 0 0] 40)) (some p) := only_alloc (only_alloc (World.grownBy.refl _ _) _) _
    have hw := only_two (only_two (only_alloc (World.grownBy.refl _ _) _) hg1) ha
    exact Lib.hid ⟨(hd1.alloc _).alloc _, only_two (only_alloc (World.grownBy.refl _ _) _) hw, (box2_new w _ _ _).moved hw (by simp; omega), hb2, own_empty (heap_old2 _ _ _) (by omega), ⟨by omega, by omega⟩⟩
  clear hg1 hd1
  generalize hw2 : ((w1.alloc (.cells #[] 3)).alloc (.cells #[.int .i64 v1, .slice (some ⟨w1.heap.size, 0, none⟩) 0 0] 40)) = w2 at HST0 ⊢
  clear hw2
  go_wp2_with first
    | (go_at_call 91; ((with_reducible refine (pick_dr 3 _ HST0.out.dr (by omega) hn (by decide)).mono ?_); rintro e w3 ⟨r3, rfl, hr3, hd3, hg3⟩; have HST3 := Lib.hid (HST0.out.draw hd3 hg3 hlt); clear hd3 hg3))
    | fail
  generalize hq : w1.heap.size + 1 = q at HST3 HST0 ⊢
  generalize hg0 : w1.heap.size = g0 at HST3 HST0 ⊢
  clear HST0 hq hg0
  obtain ⟨j0, hj0⟩ : ∃ j0 : Nat, 1 + r3 = (j0 : Int) := ⟨(1 + r3).toNat, by omega⟩
  have hj3 : j0 ≤ 3 := by omega
  rw [hj0]
  go_loopw [4] (fun i wr => ∃ (j : Nat) (sm : List Int) (g cb : Nat), j + sm.length ≤ 3 ∧ i = .int .i64 j ∧ Hid (PkSt w0 w wr p A n c (K + 4 + 2 * sm.length) q v1 sm g cb)) (fun i _ => (intOf i).toNat)
  case atStart => exact ⟨j0, [], g0, 0, by simpa using hj3, rfl, Lib.hid (HST3.out.more (by simp))⟩
  case round =>
    clear HST3
    obtain ⟨j, sm, g, cb, hj, rfl, HST⟩ := hrel
    by_cases hj1 : 0 < j
    · have hj1' : (0 : Int) < (j : Int) := by omega
      obtain ⟨_, ⟨y0, y1⟩, f0, f1⟩ := HST.out.box
      have hqs := HST.out.box.1
      have hws := HST.out.res.1
      have hfar := HST.out.far
      have hcap := own_cap HST.out.row
      go_wp2_with fail
      go_region_law (first
        | (go_simp; go_at_call 92; ((with_reducible refine (among_dr (w0 := w0) (K := K + 4 + 2 * sm.length) (A := A) (n := n) (c := c) [0, 1, -3, 40] 4 _ _ _ ?_ (by omega) hn ?_ ?_ ?_ (by decide) (by decide)).mono ?_); exact HST.out.dr.below (by repeat (first | exact bref _ | (refine balloc ?_ _) | (refine bdrew ?_) | (refine bdrewN ?_ _))); exact RowAt.of_block encI_len (by first | exact heap_new1 _ _) rfl; (first | omega | (simp; omega)); rfl); rintro e w3 ⟨v3, rfl, hv3, hd3, hg3⟩; have hgX1 : wr.grownBy w3 (some p) := only_two (by repeat (first | exact World.grownBy.refl _ _ | (refine only_alloc ?_ _) | (refine only_drew ?_) | (refine only_drewN ?_ _))) hg3; have HST3 := Lib.hid (HST.out.draw hd3 hgX1 hlt); obtain ⟨_, ⟨z0, z1⟩, k0, k1⟩ := HST3.out.box; clear hd3 hg3 hgX1; go_wp2_with fail)
        | (refine step_appS (by rfl) (.tmp 18) (.tmp 22) 29 3 1 8 _ (by rfl) Try.underlying29 infoI rfl (by decide) (w.heap.size + 1) _ sm.length _ (by rfl) (own_below HST3.out.row (by repeat (first | exact bref _ | (refine balloc ?_ _) | (refine bdrew ?_) | (refine bdrewN ?_ _)))) _ 1 _ (encI v3) (by rfl) rfl (news1 (heap_new1 _ _) rfl) (encI_one v3) (sm.length + 1) rfl _ rfl (by omega) (by decide) (by have := HST3.out.res.1; simp <;> omega) ?_; intro A4 c4 w4 ho4 hg4 hl4; obtain ⟨g4, rfl⟩ : ∃ g4, A4 = some ⟨g4, 0, none⟩ := (by rcases own_form ho4 with ⟨_, h0, _⟩ | h <;> first | exact h | (exfalso; omega)); have HST4 := Lib.hid (PkSt.push (PkSt.below HST3.out (by repeat (first | exact bref _ | (refine balloc ?_ _) | (refine bdrew ?_) | (refine bdrewN ?_ _)))) HD.out ho4 hg4 (by rcases hl4 with r | r <;> simp [Value.ownBlock] at r <;> first | exact .inl r | (right; simp; omega))); obtain ⟨_, ⟨z0, z1⟩, k0, k1⟩ := (PkSt.below HST3.out (by repeat (first | exact bref _ | (refine balloc ?_ _) | (refine bdrew ?_) | (refine bdrewN ?_ _)))).box.moved hg4 (by simp [Value.ownBlock]; omega))
        | fail)
      all_goals
        go_wp2_with fail
        go_roundw
        case rel => exact ⟨j - 1, sm ++ [v3], g4, c4, by simp; omega, by first | (rw [show ((j - 1 : Nat) : Int) = (j : Int) - 1 by omega]; done) | go_num, Lib.hid (HST4.out.more (by simp; omega))⟩
        case measure => simp [intOf]; omega
    · obtain rfl : j = 0 := by omega
      have hsl : sm.length ≤ 3 := by omega
      have HSA := Lib.hid (HST.out.more (show K + 4 + 2 * sm.length ≤ K + 10 by omega))
      have hcap := own_cap HST.out.row
      clear HST hj
      go_wp2_with first
        | (go_at_call 91; ((with_reducible refine (pick_dr 64 _ HSA.out.dr (by omega) hn (by decide)).mono ?_); rintro e w5 ⟨r5, rfl, hr5, hd5, hg5⟩; have HST5 := Lib.hid (HSA.out.draw hd5 hg5 hlt); have hqs := HST5.out.box.1; have hws := HST5.out.res.1; have hfar := HST5.out.far; have hp5 := HST5.out.dr.lt; obtain ⟨_, ⟨y0, y1⟩, f0, f1⟩ := HST5.out.box; obtain ⟨_, ⟨x0, x1⟩, e0, e1⟩ := HST5.out.res; clear hd5 hg5))
        | (go_at_call 92; ((with_reducible refine (among_dr [-1, 1000] 2 _ _ _ (HST5.out.dr.alloc _) (by omega) hn ?_ ?_ ?_ (by decide) (by decide)).mono ?_); exact RowAt.of_block encI_len (heap_new1 _ _) rfl; omega; rfl; rintro e w6 ⟨v6, rfl, hv6, hd6, hg6⟩; have HST6 := Lib.hid ((HST5.out.below (balloc (bref _) _)).draw hd6 hg6 hlt); have hqs6 := HST6.out.box.1; have hws6 := HST6.out.res.1; obtain ⟨_, ⟨z0, z1⟩, k0, k1⟩ := HST6.out.box; obtain ⟨_, ⟨u0, u1⟩, l0, l1⟩ := HST6.out.res; clear hd6 hg6))
        | fail
      case _ =>
        obtain ⟨⟨s0, s1⟩, hro, hdr, hgr⟩ := (HST6.out.number HD.out v6).fin HD.out
        generalize (((w6.setCell ⟨q, 0, none⟩ (.int .i64 v6)).setCell ⟨w.heap.size, 0, none⟩ (.int .i64 v6)).setCell ⟨w.heap.size, 1, none⟩ (.slice (some ⟨g, 0, none⟩) sm.length cb)) = W at s0 s1 hro hdr hgr ⊢
        exact bodyPost_ret (v := .agg #[.int .i64 v6, .slice (some ⟨g, 0, none⟩) sm.length cb]) (by simp [results, Try.results93, go_sem, s0, s1]) rfl ⟨v6, sm, g, cb, rfl, by omega, hro, hdr.more (by omega), hgr⟩
      case _ =>
        have hX : (((w5.setCell ⟨q, 1, none⟩ (.slice (some ⟨w5.heap.size, 0, none⟩) 0 0)).setCell ⟨w.heap.size, 0, none⟩ (.int .i64 v1)).setCell ⟨w.heap.size, 1, none⟩ (.slice (some ⟨w5.heap.size, 0, none⟩) 0 0)).heap.size = w5.heap.size := by simp
        have hb : Below w.heap.size w5 (((w5.setCell ⟨q, 1, none⟩ (.slice (some ⟨w5.heap.size, 0, none⟩) 0 0)).setCell ⟨w.heap.size, 0, none⟩ (.int .i64 v1)).setCell ⟨w.heap.size, 1, none⟩ (.slice (some ⟨w5.heap.size, 0, none⟩) 0 0)) := (((Below.refl _ _).setCell (p := ⟨q, 1, none⟩) (Nat.le_of_lt hfar.2) _).setCell (p := ⟨w.heap.size, 0, none⟩) (Nat.le_refl _) _).setCell (p := ⟨w.heap.size, 1, none⟩) (Nat.le_refl _) _
        have hbx : Box2 (((w5.setCell ⟨q, 1, none⟩ (.slice (some ⟨w5.heap.size, 0, none⟩) 0 0)).setCell ⟨w.heap.size, 0, none⟩ (.int .i64 v1)).setCell ⟨w.heap.size, 1, none⟩ (.slice (some ⟨w5.heap.size, 0, none⟩) 0 0)) w.heap.size (.int .i64 v1) (.slice (some ⟨w5.heap.size, 0, none⟩) 0 0) := ((HST5.out.res.moved (only_setCell (World.grownBy.refl w5 (some q)) (.inl rfl) _) (by have := hfar.2; simp; omega)).set0 _).set1 _
        generalize (((w5.setCell ⟨q, 1, none⟩ (.slice (some ⟨w5.heap.size, 0, none⟩) 0 0)).setCell ⟨w.heap.size, 0, none⟩ (.int .i64 v1)).setCell ⟨w.heap.size, 1, none⟩ (.slice (some ⟨w5.heap.size, 0, none⟩) 0 0)) = X at hX hb hbx ⊢
        have hnew := heap_new1 X (.cells #[] 3)
        rw [hX] at hnew
        have hb2 : Below w.heap.size w5 (X.alloc (.cells #[] 3)) := hb.alloc (by rw [hX]; omega) _
        obtain ⟨_, ⟨s0, s1⟩, _⟩ := hbx.moved (only_alloc (World.grownBy.refl X none) (.cells #[] 3)) (by simp)
        exact bodyPost_ret (v := .agg #[.int .i64 v1, .slice (some ⟨w5.heap.size, 0, none⟩) 0 0]) (by simp [results, Try.results93, go_sem, s0, s1]) rfl ⟨v1, [], w5.heap.size, 0, rfl, by simp, own_empty hnew (by omega), (HD.out.above HST5.out.dr hb2).more (by omega), only_above HST5.out.only hb2⟩
      case _ =>
        have HSB := Lib.hid (HST5.out.more (show K + 10 + 2 ≤ K + 12 + 2 * sm.length by omega))
        clear HST5 HSA y0 y1 f0 f1 x0 x1 e0 e1
        go_loopw [] (fun wr => ∃ (sm : List Int) (g cb : Nat), sm.length ≤ 7 ∧ Hid (PkSt w0 w wr p A n c (K + 12 + 2 * sm.length) q v1 sm g cb)) (fun wr => smLeft wr q)
        case atStart => exact ⟨sm, g, cb, by omega, HSB⟩
        case round =>
          clear HSB hsl hcap hfar hqs hws
          obtain ⟨sm, g, cb, hsl, HST⟩ := hrel
          obtain ⟨_, ⟨y0, y1⟩, f0, f1⟩ := HST.out.box
          have HLF := Lib.hid HST.out.left
          have hqs := HST.out.box.1
          have hws := HST.out.res.1
          have hfar := HST.out.far
          have hcap := own_cap HST.out.row
          go_wp2_with fail
          go_region_with (first
            | (go_at_call 91; ((with_reducible refine (pick_dr (w0 := w0) (K := K + 12 + 2 * sm.length) (A := A) (n := n) (c := c) 2 _ ?_ (by omega) hn (by decide)).mono ?_); exact HST.out.dr.below (by repeat (first | exact bref _ | (refine balloc ?_ _) | (refine bdrew ?_) | (refine bdrewN ?_ _)))); rintro e w7 ⟨r7, rfl, hr7, hd7, hg7⟩; have hgX1 : wr.grownBy w7 (some p) := only_two (by repeat (first | exact World.grownBy.refl _ _ | (refine only_alloc ?_ _) | (refine only_drew ?_) | (refine only_drewN ?_ _))) hg7; have HST7 := Lib.hid (HST.out.draw hd7 hgX1 hlt); have hqs7 := HST7.out.box.1; have hws7 := HST7.out.res.1; obtain ⟨_, ⟨z0, z1⟩, k0, k1⟩ := HST7.out.box; obtain ⟨_, ⟨x0, x1⟩, e0, e1⟩ := HST7.out.res; clear hd7 hg7 hgX1)
            | fail)
          all_goals
            have ew : IntKind.i64.wrap (6 + r7) = 6 + r7 := by rw [IntKind.wrap_i64]; omega
            by_cases hmore : (sm.length : Int) < 6 + r7
            · have hl6 : sm.length ≤ 6 := by omega
              go_wp2_with first
                | (at_builtin; refine wpList_app rfl _ _ 29 3 1 8 _ rfl Try.underlying29 infoI rfl (by decide) (w.heap.size + 1) _ sm.length _ (by rfl) (own_below HST7.out.row (by repeat (first | exact bref _ | (refine balloc ?_ _) | (refine bdrew ?_) | (refine bdrewN ?_ _)))) _ _ (by rfl) (heap_new1 _ _) rfl (encI_one 2) (by omega) (by decide) (by simp; omega) ?_; intro g8 c8 w8 ho8 hg8 hl8; have HST8 := Lib.hid (PkSt.push (PkSt.below HST7.out (by repeat (first | exact bref _ | (refine balloc ?_ _) | (refine bdrew ?_) | (refine bdrewN ?_ _)))) HD.out ho8 hg8 (by rcases hl8 with r | r <;> simp [Value.ownBlock] at r <;> first | exact .inl r | (right; simp; omega))); obtain ⟨_, ⟨i0, i1⟩, h0, h1⟩ := (PkSt.below HST7.out (by repeat (first | exact bref _ | (refine balloc ?_ _) | (refine bdrew ?_) | (refine bdrewN ?_ _)))).box.moved hg8 (by simp [Value.ownBlock]; omega))
                | fail
              refine ⟨⟨sm ++ [2], by simp; omega, g8, c8, Lib.hid (HST8.out.more (by simp; omega))⟩, ?_⟩
              rw [HLF.out, HST8.out.left]
              simp
              omega
            · go_wp2_with fail
              obtain ⟨⟨s0, s1⟩, hro, hdr, hgr⟩ := HST7.out.fin HD.out
              generalize ((w7.setCell ⟨w.heap.size, 0, none⟩ (.int .i64 v1)).setCell ⟨w.heap.size, 1, none⟩ (.slice (some ⟨g, 0, none⟩) sm.length cb)) = W at s0 s1 hro hdr hgr ⊢
              exact bodyPost_ret (v := .agg #[.int .i64 v1, .slice (some ⟨g, 0, none⟩) sm.length cb]) (by simp [results, Try.results93, go_sem, s0, s1]) rfl ⟨v1, sm, g, cb, rfl, by omega, hro, hdr.more (by omega), hgr⟩
      case _ =>
        obtain ⟨⟨s0, s1⟩, hro, hdr, hgr⟩ := HST5.out.fin HD.out
        generalize ((w5.setCell ⟨w.heap.size, 0, none⟩ (.int .i64 v1)).setCell ⟨w.heap.size, 1, none⟩ (.slice (some ⟨g, 0, none⟩) sm.length cb)) = W at s0 s1 hro hdr hgr ⊢
        exact bodyPost_ret (v := .agg #[.int .i64 v1, .slice (some ⟨g, 0, none⟩) sm.length cb]) (by simp [results, Try.results93, go_sem, s0, s1]) rfl ⟨v1, sm, g, cb, rfl, by omega, hro, hdr.more (by omega), hgr⟩
end Go.Proofs.Ytifkakpiipoadaa
