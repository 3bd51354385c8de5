/-
  The draws of module quakes: two catalogues.
-/
import Derived.Test.YtlinjkfbcekepaaQuCat
import Derived.Test.YtlinjkfbcekepaaBox4
import Derived.Deep.CutRange
namespace Go.Proofs.Ytlinjkfbcekepaa
set_option linter.unusedVariables false
set_option linter.unusedSimpArgs false
set_option linter.unnecessarySimpa false
open Go.RowKit
attribute [local go_sem] ext_cell ext_frozen

set_option maxRecDepth 100000 in
set_option maxHeartbeats 8000000 in
theorem twins_any {w0 : World} {p : Nat} {A : Option Addr} {n c K : Nat} (w : World) (h : Dr w0 w p A n c K) (hk : K ≤ 600000) (hn : n ≤ 9223372036854775807) :
    Calls Try.prog 72 #[.pointer (some ⟨p, 0, none⟩)] w fun e w' => ∃ (l m : List Qu) (B D : Option Addr) (cb cd : Nat), e = .returned (.tuple #[.slice B l.length cb, .slice D m.length cd]) ∧ (l.length ≤ 11 ∧ m.length ≤ 11) ∧ w'.ownsRow w.heap.size 26 4 (.slice B l.length cb) l.length (l.flatMap encQu) ∧ w'.ownsRow w.heap.size 26 4 (.slice D m.length cd) m.length (m.flatMap encQu) ∧ Dr w0 w' p A n c (K + 500) ∧ w.grownBy w' (some p) := by
  have hlt := h.lt
  have HD := Lib.hid h
  clear h
  go_enter Try.func72, Try.ntmps72
  go_wp2_with first | (go_at_call 90; first | ((with_reducible refine (catalogue_any _ HD.out (by omega) hn).mono ?_); rintro e w1 ⟨l, B, cb, rfl, hl, ho1, hd1, hg1⟩; have HD1 := Lib.hid hd1; have HO1 := Lib.hid ho1; have HG1 := Lib.hid hg1; have hs1 := hg1.size; clear hd1 ho1 hg1) | ((with_reducible refine (catalogue_any _ HD2.out (by omega) hn).mono ?_); rintro e w3 ⟨m, D, cd, rfl, hm, ho3, hd3, hg3⟩)) | (go_at_call 74; ((with_reducible refine (one_dr 4 _ HD1.out (by omega) hn (by decide)).mono ?_); rintro e w2 ⟨b2, rfl, hd2, hg2⟩; have HD2 := Lib.hid hd2; have HO2 := Lib.hid (own_dr HO1.out hg2 hlt); have HG2 := Lib.hid (only_two HG1.out hg2); have hs2 := hg2.size; clear hd2 hg2))
  case _ =>
    go_ret2
    exact ⟨l, m, B, D, cb, cd, rfl, ⟨hl, hm⟩, own_dr HO2.out hg3 hlt, own_base ho3 (by omega), hd3.more (by omega), only_two HG2.out hg3⟩
  case _ =>
    have hb2 : b2 = false := by assumption
    subst hb2
    have HM2 := Lib.hid (own_below (own_made (E := 26) (K := 4) (n := 0) (cur := #[]) (w := w2) rfl (Nat.zero_le _)) (bref _))
    have HM2 := Lib.hid (own_base HM2.out (show w.heap.size ≤ w2.heap.size by omega))
    have HD3 := Lib.hid (HD2.out.alloc (.cells #[] 26))
    have HG3 := Lib.hid (only_two HG2.out (only_alloc (World.grownBy.refl _ _) (.cells #[] 26)))
    have HO3 := Lib.hid (HO2.out.alloc (.cells #[] 26))
    clear HO1 HO2 HD1 HD2 HG1 HG2
    go_loopw [5, 6] (fun v i wr => ∃ (k : Nat) (L : List Qu) (D : Option Addr) (cd : Nat), k ≤ l.length ∧ i = .int .i64 k ∧ L.length ≤ k ∧ v = .slice D L.length cd ∧ Hid (wr.ownsRow w.heap.size 26 4 (.slice B l.length cb) l.length (l.flatMap encQu)) ∧ Hid (wr.ownsRow w.heap.size 26 4 (.slice D L.length cd) L.length (L.flatMap encQu)) ∧ Hid (Dr w0 wr p A n c (K + 202 + 6 * k)) ∧ Hid (w.grownBy wr (some p))) (fun _ i _ => l.length - (intOf i).toNat)
    case atStart => exact ⟨0, [], some ⟨w2.heap.size, 0, none⟩, 0, Nat.zero_le _, rfl, Nat.zero_le _, rfl, HO3, HM2, HD3, HG3⟩
    case round =>
      clear HO3 HM2 HD3 HG3
      obtain ⟨k, L, D, cd, hkl, rfl, hLk, rfl, HO, HM, HDr, HG⟩ := hrel
      by_cases hkl2 : k < l.length
      · obtain ⟨m, hm⟩ := some_get hkl2
        have k0 := ib0 k
        have k1 := ib1 hkl2
        obtain ⟨bB, oB, e3, hbB, r0, r1, r2, r3⟩ := (RowAt.of_own HO.out encQu_len (by decide)).qu hm
        have hrow := HO.out.lt bB (by rw [e3]; rfl)
        clear hm
        subst e3
        have hltr := HDr.out.lt
        have HQ := Lib.hid (box4_new wr (.int .i64 m.tk) (.int .i64 m.x) (.int .i64 m.y) (.int .i64 m.sz) 26)
        have hne : wr.heap.size ≠ p := by omega
        have hDq := Lib.hid (HDr.out.alloc (.cells #[.int .i64 m.tk, .int .i64 m.x, .int .i64 m.y, .int .i64 m.sz] 26))
        have hsq : wr.heap.size + 1 ≤ (wr.alloc (.cells #[.int .i64 m.tk, .int .i64 m.x, .int .i64 m.y, .int .i64 m.sz] 26)).heap.size := by simp
        have hGq := Lib.hid (only_alloc (World.grownBy.refl wr (some p)) (.cells #[.int .i64 m.tk, .int .i64 m.x, .int .i64 m.y, .int .i64 m.sz] 26))
        go_upto_region 9 with fail
        clear r0 r1 r2 r3
        generalize wr.alloc (.cells #[.int .i64 m.tk, .int .i64 m.x, .int .i64 m.y, .int .i64 m.sz] 26) = wq at HQ hDq hsq hGq ⊢
        go_cut [6] from 16 to 46 (fun s6 wx => s6 = .int .i64 k ∧ ∃ tk : Int, Hid (Box4 wx wr.heap.size (.int .i64 tk) (.int .i64 m.x) (.int .i64 m.y) (.int .i64 m.sz)) ∧ Hid (Dr w0 wx p A n c (K + 204 + 6 * k)) ∧ Hid (wr.grownBy wx (some p)))
        case first =>
          have hlq := hDq.out.lt
          obtain ⟨_, ⟨q0, q1, q2, q3⟩, f0, f1, f2, f3⟩ := HQ.out
          go_region_with (first
            | (go_at_call 107; ((with_reducible refine (among_dr (w0 := w0) (K := K + 202 + 6 * k) (A := A) (n := n) (c := c) [0, 3, -10, 40] 4 _ _ _ ?_ (by omega) hn ?_ ?_ ?_ (by decide) (by decide)).mono ?_); exact hDq.out.below (by repeat (first | exact bref _ | (refine balloc ?_ _) | (refine bdrew ?_) | (refine bdrewN ?_ _))); exact RowAt.of_block encI_len (by first | exact heap_new1 _ _) rfl; (first | omega | (simp; omega)); rfl); rintro e w3 ⟨v3, rfl, hv3, hd3, hg3⟩; have hgX1 : wq.grownBy w3 (some p) := only_two (by repeat (first | exact World.grownBy.refl _ _ | exact hgX1 | (refine only_alloc ?_ _) | (refine only_drew ?_) | (refine only_drewN ?_ _))) hg3; have HD3 := Lib.hid hd3; clear hd3; obtain ⟨_, ⟨z0, z1, z2, z3⟩, y0, y1, y2, y3⟩ := HQ.out.moved hgX1 hne; have HQ3 := Lib.hid (HQ.out.moved hgX1 hne))
            | (go_at_call 106; (with_reducible refine (l1Most_any _ _ _).mono ?_); rintro e w' ⟨rfl, rfl⟩)
            | fail)
          all_goals
            go_wp2_with fail
            go_meet
            have HB : Below wr.heap.size w3 (w3.setCell ⟨wr.heap.size, 0, none⟩ (.int .i64 (maxI 0 (IntKind.i64.wrap (m.tk + v3))))) := (Below.refl _ _).setCell (by simp) _
            exact ⟨rfl, _, Lib.hid (HQ3.out.set0 _), Lib.hid (HDr.out.above (HD3.out.more (by omega)) HB), Lib.hid (only_above (only_two hGq.out hgX1) HB)⟩
        case rest =>
          clear HQ hDq hGq hsq
          obtain ⟨rfl, tk, HQ, hDq, hGq⟩ := hcut
          obtain ⟨wq2, hw⟩ : ∃ wq2 : World, wq2 = wc := ⟨_, rfl⟩
          rw [← hw] at HQ hDq hGq ⊢
          clear hw
          go_upto_region 10 with fail
          go_cut [6] from 16 to 46 (fun s6 wx => s6 = .int .i64 k ∧ ∃ sz : Int, Hid (Box4 wx wr.heap.size (.int .i64 tk) (.int .i64 m.x) (.int .i64 m.y) (.int .i64 sz)) ∧ Hid (Dr w0 wx p A n c (K + 206 + 6 * k)) ∧ Hid (wr.grownBy wx (some p)))
          case first =>
            have hlq := hDq.out.lt
            have hsq := hGq.out.size
            obtain ⟨_, ⟨q0, q1, q2, q3⟩, f0, f1, f2, f3⟩ := HQ.out
            go_region_with (first
              | (go_at_call 107; ((with_reducible refine (among_dr (w0 := w0) (K := K + 204 + 6 * k) (A := A) (n := n) (c := c) [0, 1, -2] 3 _ _ _ ?_ (by omega) hn ?_ ?_ ?_ (by decide) (by decide)).mono ?_); exact hDq.out.below (by repeat (first | exact bref _ | (refine balloc ?_ _) | (refine bdrew ?_) | (refine bdrewN ?_ _))); exact RowAt.of_block encI_len (by first | exact heap_new1 _ _) rfl; (first | omega | (simp; omega)); rfl); rintro e w4 ⟨v4, rfl, hv4, hd4, hg4⟩; have hgX2 : wq2.grownBy w4 (some p) := only_two (by repeat (first | exact World.grownBy.refl _ _ | exact hgX2 | (refine only_alloc ?_ _) | (refine only_drew ?_) | (refine only_drewN ?_ _))) hg4; have HD4 := Lib.hid hd4; clear hd4; obtain ⟨_, ⟨z0, z1, z2, z3⟩, y0, y1, y2, y3⟩ := HQ.out.moved hgX2 hne; have HQ4 := Lib.hid (HQ.out.moved hgX2 hne))
              | fail)
            all_goals
              go_wp2_with fail
              go_meet
              have HB : Below wr.heap.size w4 (w4.setCell ⟨wr.heap.size, 3, none⟩ (.int .i64 (IntKind.i64.wrap (m.sz + v4)))) := (Below.refl _ _).setCell (by simp) _
              exact ⟨rfl, _, Lib.hid (HQ4.out.set3 _), Lib.hid (HDr.out.above (HD4.out.more (by omega)) HB), Lib.hid (only_above (only_two hGq.out hgX2) HB)⟩
          case rest =>
            clear HQ hDq hGq
            obtain ⟨rfl, sz, HQ, hDq, hGq⟩ := hcut
            have HO2 := Lib.hid (own_dr HO.out hGq.out hlt)
            have HM2 := Lib.hid (own_dr HM.out hGq.out hlt)
            have HG2 := Lib.hid (only_two HG.out hGq.out)
            have haf := Lib.hid (af_own HM.out)
            have hcap := own_cap HM.out
            have hpl := putQ_len ⟨tk, m.x, m.y, sz⟩ L
            go_wp2_with first | (go_at_call 74; ((with_reducible refine (one_dr 4 _ hDq.out (by omega) hn (by decide)).mono ?_); rintro e w5 ⟨b5, rfl, hd5, hg5⟩; have HD5 := Lib.hid hd5; have HO5 := Lib.hid (own_dr HO2.out hg5 hlt); have HM5 := Lib.hid (own_dr HM2.out hg5 hlt); have HG5 := Lib.hid (only_two HG2.out hg5); have hs5 := HG5.out.size; obtain ⟨_, ⟨z0, z1, z2, z3⟩, y0, y1, y2, y3⟩ := HQ.out.moved hg5 hne; clear hd5 hg5)) | (go_at_call 84; (with_reducible refine (l16Put_any L ⟨tk, m.x, m.y, sz⟩ D cd _ (RowAt.of_own HM5.out encQu_len (by decide)) haf.out hcap (by omega)).mono ?_); rintro e w6 ⟨A6, c6, rfl, hb6, ho6⟩)
            · refine ⟨⟨k + 1, putQ ⟨tk, m.x, m.y, sz⟩ L, A6, c6, by omega, by simp, by omega, rfl, Lib.hid (own_below HO5.out hb6), ?_, Lib.hid ((HD5.out.below hb6).more (by omega)), Lib.hid (only_two HG5.out (only_of_below hb6 _))⟩, by simp [intOf]; omega⟩
              rcases ho6 with ⟨rfl, rfl, e⟩ | ho6
              · rw [e]; exact Lib.hid (own_below HM5.out hb6)
              · exact Lib.hid (own_base ho6 hs5)
            · exact ⟨⟨k + 1, L, D, cd, by omega, by simp, by omega, rfl, HO5, HM5, Lib.hid (HD5.out.more (by omega)), HG5⟩, by simp [intOf]; omega⟩
      · go_wp2_with fail
        go_ret2
        exact ⟨l, L, B, D, cb, cd, rfl, ⟨hl, by omega⟩, HO.out, HM.out, HDr.out.more (by omega), HG.out⟩
end Go.Proofs.Ytlinjkfbcekepaa
