/-
  The draws of module cubes: arrivals that are known of an origin.
-/
import Derived.Test.YtaobbkiepggafaaGreatCuDr3
import Derived.Test.YtaobbkiepggafaaGreatArCons
namespace Go.Proofs.YtaobbkiepggafaaGreat
set_option linter.unusedVariables false
set_option linter.unusedSimpArgs false
set_option linter.unnecessarySimpa false
open Go.RowKit
attribute [local go_sem] ext_cell ext_frozen

theorem flat_setAr3 : ∀ (N : List Ar) (k : Nat) (m : Ar) (v : Int), N[k]? = some m → (N.set k { m with tk := v }).flatMap encAr = (N.flatMap encAr).set (k * 5 + 3) (.int .i64 v)
  | [], k, m, v, h => by simp at h
  | p :: N, 0, m, v, h => by
    simp only [List.getElem?_cons_zero, Option.some.injEq] at h
    subst h
    simp [encAr]
  | p :: N, k + 1, m, v, h => by
    have ih := flat_setAr3 N k m v (by simpa using h)
    rw [List.set_cons_succ, List.flatMap_cons, List.flatMap_cons, ih, show (k + 1) * 5 + 3 = k * 5 + 3 + 1 + 1 + 1 + 1 + 1 by omega]
    rfl
theorem flat_setAr4 : ∀ (N : List Ar) (k : Nat) (m : Ar) (v : Int), N[k]? = some m → (N.set k { m with er := v }).flatMap encAr = (N.flatMap encAr).set (k * 5 + 4) (.int .i64 v)
  | [], k, m, v, h => by simp at h
  | p :: N, 0, m, v, h => by
    simp only [List.getElem?_cons_zero, Option.some.injEq] at h
    subst h
    simp [encAr]
  | p :: N, k + 1, m, v, h => by
    have ih := flat_setAr4 N k m v (by simpa using h)
    rw [List.set_cons_succ, List.flatMap_cons, List.flatMap_cons, ih, show (k + 1) * 5 + 4 = k * 5 + 4 + 1 + 1 + 1 + 1 + 1 by omega]
    rfl
theorem get_set {L : List Ar} {k j : Nat} {m m' x : Ar} (hm : L[k]? = some m) (h : (L.set k m')[j]? = some x) : (j = k ∧ x = m') ∨ (j ≠ k ∧ L[j]? = some x) := by
  by_cases e : j = k
  · subst e
    rw [List.getElem?_set_self (List.getElem?_eq_some_iff.1 hm).1] at h
    exact .inl ⟨rfl, (Option.some.inj h).symm⟩
  · rw [List.getElem?_set_ne (Ne.symm e)] at h
    exact .inr ⟨e, h⟩
theorem arBd_set {L : List Ar} {k : Nat} {m m' : Ar} (hm : L[k]? = some m) (hL : ∀ m ∈ L, arBd m) (hx : m'.x = m.x) (hy : m'.y = m.y) : ∀ m ∈ L.set k m', arBd m := fun x hxm => by
  obtain ⟨j, hj⟩ := List.mem_iff_getElem?.1 hxm
  rcases get_set hm hj with ⟨_, rfl⟩ | ⟨_, h⟩
  · have := hL m (List.mem_of_getElem? hm)
    unfold arBd at *
    rw [hx, hy]
    exact this
  · exact hL x (List.mem_of_getElem? h)
set_option maxRecDepth 100000 in
set_option maxHeartbeats 16000000 in
theorem known_any {w0 : World} {p : Nat} {A : Option Addr} {n c K : Nat} (w : World) (h : Dr w0 w p A n c K) (hk : K ≤ 500000) (hn : n ≤ 9223372036854775807) :
    Calls Tryz.prog 23 #[.pointer (some ⟨p, 0, none⟩)] w fun e w' => ∃ (l : List Ar) (B : Option Addr) (cb : Nat) (o : Og), e = .returned (.tuple #[.slice B l.length cb, .agg #[.int .i64 o.x, .int .i64 o.y, .int .i64 o.tk]]) ∧ l.length ≤ 9 ∧ ogBd o ∧ w'.ownsRow w.heap.size 71 5 (.slice B l.length cb) l.length (l.flatMap encAr) ∧ Dr w0 w' p A n c (K + 450) ∧ w.grownBy w' (some p) := by
  have hlt := h.lt
  have HD := Lib.hid h
  have HZ0 := Lib.hid (box3_new w (.int .i64 0) (.int .i64 0) (.int .i64 0) 38)
  clear h
  go_enter Tryz.func23, Tryz.ntmps23
  go_wp2_with fail
  refine (quakeOrigin_any _ (HD.out.alloc _) (by omega) hn).mono ?_; rintro e w1 ⟨o, rfl, ho, hd1, hg1⟩
  have HOG := Lib.hid ho
  have HZ1 := Lib.hid (HZ0.out.moved hg1 (by omega))
  have HG1 := Lib.hid (only_two (only_alloc (World.grownBy.refl w (some p)) _) hg1)
  have HQ1 := Lib.hid (box3_new w1 (.int .i64 o.x) (.int .i64 o.y) (.int .i64 o.tk) 38)
  have hs1 : w.heap.size + 1 ≤ w1.heap.size := by simpa using hg1.size
  have hlt1 := hd1.lt
  have HD1 := Lib.hid hd1
  clear ho hd1 hg1 HZ0
  go_wp2_with fail
  refine (arrivals_any _ (HD1.out.alloc _) (by omega) hn).mono ?_; rintro e w2 ⟨l, B, cb, rfl, hl, hbd, ho2, hd2, hg2⟩
  have hg2' := only_two (only_alloc (World.grownBy.refl w1 (some p)) (.cells #[.int .i64 o.x, .int .i64 o.y, .int .i64 o.tk] 38)) hg2
  have neq : w1.heap.size ≠ p := by omega
  have nez : w.heap.size ≠ p := by omega
  have HO2 := Lib.hid (show w2.ownsRow (w1.heap.size + 1) 71 5 (.slice B l.length cb) l.length (l.flatMap encAr) by simpa using ho2)
  have HQ2 := Lib.hid (HQ1.out.moved hg2 neq)
  have HZ2 := Lib.hid (HZ1.out.moved hg2' nez)
  have HG2 := Lib.hid (only_two HG1.out hg2')
  have HD2 := Lib.hid hd2
  have hlt2 := hd2.lt
  clear hd2 hg2 hg2' ho2 HQ1 HZ1 HG1 HD1
  go_wp2_with fail
  refine (one_dr 3 _ HD2.out (by omega) hn (by decide)).mono ?_; rintro e w3 ⟨b3, rfl, hd3, hg3⟩
  have HO3 := Lib.hid (own_dr HO2.out hg3 (by omega))
  have HQ3 := Lib.hid (HQ2.out.moved hg3 neq)
  have HZ3 := Lib.hid (HZ2.out.moved hg3 nez)
  have HG3 := Lib.hid (only_two HG2.out hg3)
  have HD3 := Lib.hid hd3
  clear hd3 hg3 HO2 HQ2 HZ2 HG2 HD2
  have FIN := Lib.hid (fun (W : World) (k : Nat) (hd : Dr w0 W p A n c k) (hg : w.grownBy W (some p)) (hz : Box3 W w.heap.size (.int .i64 0) (.int .i64 0) (.int .i64 0)) =>
    show Box3 (((W.setCell ⟨w.heap.size, 0, none⟩ (.int .i64 o.x)).setCell ⟨w.heap.size, 1, none⟩ (.int .i64 o.y)).setCell ⟨w.heap.size, 2, none⟩ (.int .i64 o.tk)) w.heap.size (.int .i64 o.x) (.int .i64 o.y) (.int .i64 o.tk) ∧ Dr w0 (((W.setCell ⟨w.heap.size, 0, none⟩ (.int .i64 o.x)).setCell ⟨w.heap.size, 1, none⟩ (.int .i64 o.y)).setCell ⟨w.heap.size, 2, none⟩ (.int .i64 o.tk)) p A n c k ∧ w.grownBy (((W.setCell ⟨w.heap.size, 0, none⟩ (.int .i64 o.x)).setCell ⟨w.heap.size, 1, none⟩ (.int .i64 o.y)).setCell ⟨w.heap.size, 2, none⟩ (.int .i64 o.tk)) (some p) from by
      have hB : Below w.heap.size W (((W.setCell ⟨w.heap.size, 0, none⟩ (.int .i64 o.x)).setCell ⟨w.heap.size, 1, none⟩ (.int .i64 o.y)).setCell ⟨w.heap.size, 2, none⟩ (.int .i64 o.tk)) := (((Below.refl _ _).setCell (p := ⟨w.heap.size, 0, none⟩) (by simp) _).setCell (p := ⟨w.heap.size, 1, none⟩) (by simp) _).setCell (p := ⟨w.heap.size, 2, none⟩) (by simp) _
      exact ⟨hz.all _ _ _, HD.out.above hd hB, only_above hg hB⟩)
  have FINO := Lib.hid (fun (W : World) (L : List Ar) (ho : W.ownsRow (w1.heap.size + 1) 71 5 (.slice B L.length cb) L.length (L.flatMap encAr)) =>
    show (((W.setCell ⟨w.heap.size, 0, none⟩ (.int .i64 o.x)).setCell ⟨w.heap.size, 1, none⟩ (.int .i64 o.y)).setCell ⟨w.heap.size, 2, none⟩ (.int .i64 o.tk)).ownsRow (w1.heap.size + 1) 71 5 (.slice B L.length cb) L.length (L.flatMap encAr) from by
      have hg : W.grownBy (((W.setCell ⟨w.heap.size, 0, none⟩ (.int .i64 o.x)).setCell ⟨w.heap.size, 1, none⟩ (.int .i64 o.y)).setCell ⟨w.heap.size, 2, none⟩ (.int .i64 o.tk)) (some w.heap.size) := only_setCell (only_setCell (only_setCell (World.grownBy.refl W _) (p := ⟨w.heap.size, 0, none⟩) (.inl rfl) _) (p := ⟨w.heap.size, 1, none⟩) (.inl rfl) _) (p := ⟨w.heap.size, 2, none⟩) (.inl rfl) _
      exact own_dr ho hg (by omega))
  obtain ⟨_, ⟨q0, q1, q2⟩, f0, f1, f2⟩ := HQ3.out
  cases b3
  case' false =>
    go_wp2_with fail
    refine (l10Origin_any o _).mono ?_; rintro e w4 ⟨rfl, hb4⟩
    have HO4 := Lib.hid (own_below HO3.out hb4)
    have HQ4 := Lib.hid (HQ3.out.below hb4)
    have HZ4 := Lib.hid (HZ3.out.below hb4)
    have HG4 := Lib.hid (only_two HG3.out (only_of_below hb4 _))
    have HD4 := Lib.hid (HD3.out.below hb4)
    clear hb4 HO3 HQ3 HZ3 HG3 HD3 q0 q1 q2 f0 f1 f2
    cases ho : origB o
    case true =>
      obtain ⟨o1, o2, o3⟩ := origB_true ho
      clear ho
      go_wp2_with fail
      go_loopw [6] (fun vi wr => ∃ (k : Nat) (L : List Ar), vi = .int .i64 k ∧ k ≤ l.length ∧ Hid (L.length = l.length) ∧ Hid (∀ m ∈ L, arBd m) ∧ Hid (wr.ownsRow (w1.heap.size + 1) 71 5 (.slice B l.length cb) l.length (L.flatMap encAr)) ∧ Hid (Dr w0 wr p A n c (K + 414 + 2 * k)) ∧ Hid (w.grownBy wr (some p)) ∧ Hid (Box3 wr w1.heap.size (.int .i64 o.x) (.int .i64 o.y) (.int .i64 o.tk)) ∧ Hid (Box3 wr w.heap.size (.int .i64 0) (.int .i64 0) (.int .i64 0))) (fun vi _ => l.length - (intOf vi).toNat)
      case atStart => exact ⟨0, l, rfl, Nat.zero_le _, Lib.hid rfl, hbd, HO4, Lib.hid (HD4.out.more (by omega)), HG4, HQ4, HZ4⟩
      case round =>
        clear HO4 HD4 HG4 HQ4 HZ4 hbd
        obtain ⟨k, L, rfl, hk2, HLL, HL, HO, HDr, HG, HQ, HZ⟩ := hrel
        have hltr := HDr.out.lt
        by_cases hkl : k < l.length
        · obtain ⟨m, hm⟩ := some_get (show k < L.length by rw [HLL.out]; exact hkl)
          have i0 := ib0 k
          have i1 := ib1 hkl
          have hrow := (show RowAt 5 encAr wr B L from RowAt.of_own HO.out encAr_len (by decide))
          obtain ⟨g, hBg⟩ : ∃ g, B = some ⟨g, 0, none⟩ := by
            rcases own_form HO.out with ⟨_, h0, _⟩ | h
            · omega
            · exact h
          subst hBg
          obtain ⟨bb, ob, eA, hbb, r0, r1, r2, r3, r4⟩ := hrow.ar hm
          cases eA
          simp only [Nat.zero_add] at r0 r1 r2 r3 r4
          obtain ⟨⟨mx0, mx1⟩, my0, my1⟩ := HL.out m (List.mem_of_getElem? hm)
          have hgl := HO.out.lt g rfl
          have hgb : w1.heap.size + 1 ≤ g := hgl.1
          have f3 := HO.out.frozenAt (k * 5 + 3)
          have HM := Lib.hid hm
          have HN := Lib.hid (sqG_bd (a := m.x) (b := m.y) (c := o.x) (d := o.y) (by omega) (by omega))
          have HKB := Lib.hid (fun (W : World) (h : Below wr.heap.size wr W) => show W.cell? ⟨w1.heap.size, 0, none⟩ = some (.int .i64 o.x) ∧ W.cell? ⟨w1.heap.size, 1, none⟩ = some (.int .i64 o.y) ∧ W.cell? ⟨w1.heap.size, 2, none⟩ = some (.int .i64 o.tk) ∧ W.cell? ⟨g, k * 5 + 1, none⟩ = some (.int .i64 m.x) ∧ W.cell? ⟨g, k * 5 + 2, none⟩ = some (.int .i64 m.y) from by
            obtain ⟨_, ⟨q0, q1, q2⟩, _⟩ := HQ.out.below h
            exact ⟨q0, q1, q2, (h.cell (p := ⟨g, k * 5 + 1, none⟩) hbb).trans r1, (h.cell (p := ⟨g, k * 5 + 2, none⟩) hbb).trans r2⟩)
          have HKS := Lib.hid (fun (W : World) (v : Value) (h : Below wr.heap.size wr W) => show (W.setCell ⟨g, k * 5 + 3, none⟩ v).cell? ⟨w1.heap.size, 0, none⟩ = some (.int .i64 o.x) ∧ (W.setCell ⟨g, k * 5 + 3, none⟩ v).cell? ⟨w1.heap.size, 1, none⟩ = some (.int .i64 o.y) ∧ (W.setCell ⟨g, k * 5 + 3, none⟩ v).cell? ⟨w1.heap.size, 2, none⟩ = some (.int .i64 o.tk) ∧ (W.setCell ⟨g, k * 5 + 3, none⟩ v).cell? ⟨g, k * 5 + 1, none⟩ = some (.int .i64 m.x) ∧ (W.setCell ⟨g, k * 5 + 3, none⟩ v).cell? ⟨g, k * 5 + 2, none⟩ = some (.int .i64 m.y) from by
            obtain ⟨_, ⟨q0, q1, q2⟩, _⟩ := (HQ.out.below h).far (g' := g) (o := k * 5 + 3) (by omega) v
            refine ⟨q0, q1, q2, ?_, ?_⟩
            · rw [World.cell?_setCell_other, h.cell (p := ⟨g, k * 5 + 1, none⟩) hbb, r1]; simp
            · rw [World.cell?_setCell_other, h.cell (p := ⟨g, k * 5 + 2, none⟩) hbb, r2]; simp)
          have HFR := Lib.hid f3
          have R3 := Lib.hid r3
          clear hm hrow r0 r3
          go_upto_region 8 with fail
          go_cut [] from 26 to 49 (fun wy => ∃ v : Int, Hid (wy.ownsRow (w1.heap.size + 1) 71 5 (.slice (some ⟨g, 0, none⟩) l.length cb) l.length ((L.set k { m with tk := v }).flatMap encAr)) ∧ Hid (Dr w0 wy p A n c (K + 414 + 2 * k)) ∧ Hid (wr.grownBy wy (some g)))
          case first =>
            obtain ⟨_, ⟨q0, q1, q2⟩, _⟩ := HQ.out
            go_region_held3 (fun w' => w'.cell? ⟨w1.heap.size, 0, none⟩ = some (.int .i64 o.x) ∧ w'.cell? ⟨w1.heap.size, 1, none⟩ = some (.int .i64 o.y) ∧ w'.cell? ⟨w1.heap.size, 2, none⟩ = some (.int .i64 o.tk) ∧ w'.cell? ⟨g, k * 5 + 1, none⟩ = some (.int .i64 m.x) ∧ w'.cell? ⟨g, k * 5 + 2, none⟩ = some (.int .i64 m.y))
              (first | (refine HKB.out _ ?_; (repeat (first | exact bref _ | exact hb7 | (refine balloc ?_ _) | (refine bdrew ?_) | (refine bdrewN ?_ _))); done) | (refine HKS.out _ _ ?_; (repeat (first | exact bref _ | exact hb7 | (refine balloc ?_ _) | (refine bdrew ?_) | (refine bdrewN ?_ _))); done) | fail)
              (first
              | (go_at_call 57; (with_reducible refine (l10SquareG_any _ _ _ _ _ (by omega) (by omega)).mono ?_); rintro e w' ⟨rfl, rfl⟩)
              | (go_at_call 56; (with_reducible refine (l10Root_any _ _ HN.out.1 HN.out.2).mono ?_); rintro e w7 ⟨rfl, hb7W⟩; have hb7 : Below wr.heap.size wr w7 := bstep (by repeat (first | exact bref _ | exact hb7 | (refine balloc ?_ _) | (refine bdrew ?_) | (refine bdrewN ?_ _))) hb7W; have s3 := (hb7.cell (p := ⟨g, k * 5 + 3, none⟩) hbb).trans R3.out; have s4 := (hb7.frozen (p := ⟨g, k * 5 + 3, none⟩) hbb).trans HFR.out)
              | (go_at_call 55; (with_reducible refine (l1Least_any _ _ _).mono ?_); rintro e w' ⟨rfl, rfl⟩)
              | fail)
            all_goals
              go_wp2_with fail
              go_meet
              exact ⟨_, Lib.hid (by rw [flat_setAr3 L k m _ HM.out]; exact (World.ownsRow.stored (own_below HO.out hb7) (k * 5 + 3) _).1), Lib.hid (HD.out.above (HDr.out.below hb7) (Below.setCell (Below.refl _ _) (by show w.heap.size ≤ g; omega) _)), Lib.hid (only_setCell (only_of_below hb7 _) (.inl rfl) _)⟩
          case rest =>
            obtain ⟨v, HO5, HD5, HG5⟩ := hcut
            obtain ⟨w5, hw⟩ : ∃ w5 : World, w5 = wc := ⟨_, rfl⟩
            rw [← hw] at HO5 HD5 HG5 ⊢
            clear hw HKB HKS HN R3 HFR
            have hs5 := HG5.out.size
            have HQ5 := Lib.hid (HQ.out.moved HG5.out (by omega))
            have HZ5 := Lib.hid (HZ.out.moved HG5.out (by omega))
            have HGw := Lib.hid (only_new HG.out HG5.out (fun q hq => by cases hq; omega))
            have hm1 : (L.set k { m with tk := v })[k]? = some { m with tk := v } := by rw [List.getElem?_set_self (List.getElem?_eq_some_iff.1 HM.out).1]
            have HL1 := Lib.hid (arBd_set (m' := { m with tk := v }) HM.out HL.out rfl rfl)
            have HLL1 := Lib.hid (show (L.set k { m with tk := v }).length = l.length by rw [List.length_set]; exact HLL.out)
            generalize hL1 : L.set k { m with tk := v } = L1 at hm1 HL1 HLL1 HO5
            generalize hme : ({ m with tk := v } : Ar) = m1 at hm1
            clear hL1 hme HL HLL HO HQ HZ HG HDr HG5
            have hrow := (show RowAt 5 encAr w5 (some ⟨g, 0, none⟩) L1 from RowAt.of_own HO5.out encAr_len (by decide))
            obtain ⟨bb, ob, eA, hbb5, r0, r1, r2, r3, r4⟩ := hrow.ar hm1
            cases eA
            simp only [Nat.zero_add] at r4
            have f4 := HO5.out.frozenAt (k * 5 + 4)
            have HM1 := Lib.hid hm1
            have hlt5 := HD5.out.lt
            have hgp : g ≠ p := by omega
            clear hm1 hrow r0 r1 r2 r3
            go_upto_region 9 with fail
            go_region_with (first
              | (go_at_call 25; ((with_reducible refine (among_dr (w0 := w0) (K := K + 414 + 2 * k) (A := A) (n := n) (c := c) [1, 5, 60] 3 _ _ _ ?_ (by omega) hn ?_ ?_ ?_ (by decide) (by decide)).mono ?_); exact HD5.out.below (by repeat (first | exact bref _ | (refine balloc ?_ _) | (refine bdrew ?_) | (refine bdrewN ?_ _))); exact RowAt.of_block encI_len (by first | exact heap_new1 _ _) rfl; (first | omega | (simp <;> omega)); rfl); rintro e w6 ⟨v6, rfl, hv6, hd6, hg6⟩; have hgX6 : w5.grownBy w6 (some p) := only_two (by repeat (first | exact World.grownBy.refl _ _ | (refine only_alloc ?_ _) | (refine only_drew ?_) | (refine only_drewN ?_ _))) hg6; have HD6 := Lib.hid hd6; have hbl := hgX6.block g hbb5 (by simpa using hgp); have s4 := (World.cell?_of_block (a := ⟨g, k * 5 + 4, none⟩) hbl).trans r4; have s5 := (World.frozen?_of_block (a := ⟨g, k * 5 + 4, none⟩) hbl).trans f4; clear hd6 hv6 hg6 hbl)
              | (go_at_call 26; (with_reducible refine (l1Most_any _ _ _).mono ?_); rintro e w' ⟨rfl, rfl⟩)
              | fail)
            all_goals
              have hB6 : Below w.heap.size w6 (w6.setCell ⟨g, k * 5 + 4, none⟩ (.int .i64 (maxI m1.er v6))) := Below.setCell (Below.refl _ _) (by show w.heap.size ≤ g; omega) _
              have hst := (World.ownsRow.stored (own_dr HO5.out hgX6 (by omega)) (k * 5 + 4) (.int .i64 (maxI m1.er v6))).1
              rw [← flat_setAr4 L1 k m1 _ HM1.out] at hst
              have hq6 := (HQ5.out.moved hgX6 neq).far (g' := g) (o := k * 5 + 4) (by omega) (.int .i64 (maxI m1.er v6))
              have hz6 := (HZ5.out.moved hgX6 nez).far (g' := g) (o := k * 5 + 4) (by omega) (.int .i64 (maxI m1.er v6))
              have hd8 := HD.out.above HD6.out hB6
              have hg8 := only_above (only_two HGw.out hgX6) hB6
              generalize (w6.setCell ⟨g, k * 5 + 4, none⟩ (.int .i64 (maxI m1.er v6))) = w8 at hst hq6 hz6 hd8 hg8 ⊢
              clear s4 s5 hB6
              go_wp2_with fail
              go_roundw
              case rel => exact ⟨k + 1, L1.set k { m1 with er := maxI m1.er v6 }, by go_num, by omega, Lib.hid (by rw [List.length_set]; exact HLL1.out), Lib.hid (arBd_set (m' := { m1 with er := maxI m1.er v6 }) HM1.out HL1.out rfl rfl), Lib.hid hst, Lib.hid (hd8.more (by omega)), Lib.hid hg8, Lib.hid hq6, Lib.hid hz6⟩
              case measure => simp [intOf]; omega
        · obtain rfl : k = l.length := by omega
          have HOL := Lib.hid (show wr.ownsRow (w1.heap.size + 1) 71 5 (.slice B L.length cb) L.length (L.flatMap encAr) by rw [HLL.out]; exact HO.out)
          have hLn : L.length ≤ 9 := by rw [HLL.out]; exact hl
          obtain ⟨_, ⟨q0, q1, q2⟩, f0, f1, f2⟩ := HQ.out
          obtain ⟨_, ⟨z0, z1, z2⟩, y0, y1, y2⟩ := HZ.out
          obtain ⟨hbx, hdx0, hgx0⟩ := FIN.out wr _ HDr.out HG.out HZ.out
          have hox0 := FINO.out wr L HOL.out
          have hbx := hbx.below (bdrew (bref _))
          have hdx := hdx0.below (bdrew (bref _))
          have hgx := only_drew hgx0
          have hox := own_drew hox0
          clear hdx0 hgx0 hox0
          go_wp2_with fail
          go_region
          all_goals
            go_wp2_with fail
            obtain ⟨_, ⟨s0, s1, s2⟩, _⟩ := hbx
            generalize (((wr.setCell ⟨w.heap.size, 0, none⟩ (.int .i64 o.x)).setCell ⟨w.heap.size, 1, none⟩ (.int .i64 o.y)).setCell ⟨w.heap.size, 2, none⟩ (.int .i64 o.tk)).drew = WW at s0 s1 s2 hdx hgx hox ⊢
            exact bodyPost_ret (v := .tuple #[.slice B l.length cb, .agg #[.int .i64 o.x, .int .i64 o.y, .int .i64 o.tk]]) (by simp [results, Tryz.results23, go_sem, s0, s1, s2]) rfl ⟨L, B, cb, o, by rw [HLL.out], by omega, HOG.out, own_base hox (by omega), hdx.more (by omega), hgx⟩
  case false =>
    obtain ⟨_, ⟨q0, q1, q2⟩, f0, f1, f2⟩ := HQ4.out
    obtain ⟨_, ⟨z0, z1, z2⟩, y0, y1, y2⟩ := HZ4.out
    obtain ⟨hbx, hdx0, hgx0⟩ := FIN.out w4 _ HD4.out HG4.out HZ4.out
    have hox0 := FINO.out w4 l HO4.out
    have hbx := hbx.below (bdrew (bref _))
    have hdx := hdx0.below (bdrew (bref _))
    have hgx := only_drew hgx0
    have hox := own_drew hox0
    clear hdx0 hgx0 hox0
    go_wp2_with fail
    go_region
    all_goals
      go_wp2_with fail
      obtain ⟨_, ⟨s0, s1, s2⟩, _⟩ := hbx
      generalize (((w4.setCell ⟨w.heap.size, 0, none⟩ (.int .i64 o.x)).setCell ⟨w.heap.size, 1, none⟩ (.int .i64 o.y)).setCell ⟨w.heap.size, 2, none⟩ (.int .i64 o.tk)).drew = WW at s0 s1 s2 hdx hgx hox ⊢
      exact bodyPost_ret (v := .tuple #[.slice B l.length cb, .agg #[.int .i64 o.x, .int .i64 o.y, .int .i64 o.tk]]) (by simp [results, Tryz.results23, go_sem, s0, s1, s2]) rfl ⟨l, B, cb, o, rfl, by omega, HOG.out, own_base hox (by omega), hdx.more (by omega), hgx⟩
  case true =>
    clear q0 q1 q2 f0 f1 f2
    obtain ⟨_, ⟨q0, q1, q2⟩, f0, f1, f2⟩ := HQ3.out
    obtain ⟨_, ⟨z0, z1, z2⟩, y0, y1, y2⟩ := HZ3.out
    obtain ⟨hbx, hdx0, hgx0⟩ := FIN.out w3 _ HD3.out HG3.out HZ3.out
    have hox0 := FINO.out w3 l HO3.out
    have hbx := hbx.below (bdrew (bref _))
    have hdx := hdx0.below (bdrew (bref _))
    have hgx := only_drew hgx0
    have hox := own_drew hox0
    clear hdx0 hgx0 hox0
    go_wp2_with fail
    go_region
    all_goals
      go_wp2_with fail
      obtain ⟨_, ⟨s0, s1, s2⟩, _⟩ := hbx
      generalize (((w3.setCell ⟨w.heap.size, 0, none⟩ (.int .i64 o.x)).setCell ⟨w.heap.size, 1, none⟩ (.int .i64 o.y)).setCell ⟨w.heap.size, 2, none⟩ (.int .i64 o.tk)).drew = WW at s0 s1 s2 hdx hgx hox ⊢
      exact bodyPost_ret (v := .tuple #[.slice B l.length cb, .agg #[.int .i64 o.x, .int .i64 o.y, .int .i64 o.tk]]) (by simp [results, Tryz.results23, go_sem, s0, s1, s2]) rfl ⟨l, B, cb, o, rfl, by omega, HOG.out, own_base hox (by omega), hdx.more (by omega), hgx⟩
end Go.Proofs.YtaobbkiepggafaaGreat
