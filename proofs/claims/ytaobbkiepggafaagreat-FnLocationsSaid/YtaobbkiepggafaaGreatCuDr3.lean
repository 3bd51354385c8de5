/-
  The draws of module cubes: arrivals.
-/
import Derived.Test.YtaobbkiepggafaaGreatCuDr1
import Derived.Test.YtaobbkiepggafaaGreatAr0
import Derived.Test.YtaobbkiepggafaaGreatCuRch
import Derived.Test.YtaobbkiepggafaaGreatArTks
import Derived.Deep.CutRange
import Derived.Deep.RegionHeld3
namespace Go.Proofs.YtaobbkiepggafaaGreat
set_option linter.unusedVariables false
set_option linter.unusedSimpArgs false
set_option linter.unnecessarySimpa false
open Go.RowKit
attribute [local go_sem] ext_cell ext_frozen

def arBd (m : Ar) : Prop := (0 ≤ m.x ∧ m.x ≤ 1000) ∧ (0 ≤ m.y ∧ m.y ≤ 1000)
theorem sqg_bd {d : Int} (h : -1001 ≤ d ∧ d ≤ 1001) : 0 ≤ d * d ∧ d * d ≤ 1002001 := by
  have h1 : d * d = d.natAbs * d.natAbs := (Int.natAbs_mul_self (a := d)).symm
  have h2 : d.natAbs ≤ 1001 := by omega
  have h3 := Nat.mul_le_mul h2 h2
  have h4 : ((d.natAbs * d.natAbs : Nat) : Int) = (d.natAbs : Int) * (d.natAbs : Int) := Int.natCast_mul _ _
  constructor
  · rw [h1, ← h4]; omega
  · rw [h1, ← h4]; omega
def sqG (a b c d : Int) : Int := 400 * ((a - c) * (a - c) + (b - d) * (b - d))
set_option maxHeartbeats 1000000 in
theorem l10SquareG_any (a b c d : Int) (w : World) (h1 : -1001 ≤ a - c ∧ a - c ≤ 1001) (h2 : -1001 ≤ b - d ∧ b - d ≤ 1001) :
    Calls Tryz.prog 57 #[.int .i64 a, .int .i64 b, .int .i64 c, .int .i64 d] w fun e w' => e = .returned (.int .i64 (sqG a b c d)) ∧ w = w' := by
  have q1 := sqg_bd h1
  have q2 := sqg_bd h2
  go_enter Tryz.func57, Tryz.ntmps57
  go_wp2
  go_ret
  exact ⟨rfl, rfl⟩
theorem sqG_bd {a b c d : Int} (h1 : -1001 ≤ a - c ∧ a - c ≤ 1001) (h2 : -1001 ≤ b - d ∧ b - d ≤ 1001) : 0 ≤ sqG a b c d ∧ sqG a b c d ≤ 1000000000 := by
  have q1 := sqg_bd h1
  have q2 := sqg_bd h2
  unfold sqG
  omega
theorem own_low {w w' : World} {base E K n c B : Nat} {A : Option Addr} {xs : List Value} {r : Option Nat} (h : w.ownsRow base E K (.slice A n c) n xs) (hlt : ∀ q, (Value.slice A n c).ownBlock = some q → q < B) (hg : w.grownBy w' r) (hr : ∀ q, r = some q → B ≤ q) : w'.ownsRow base E K (.slice A n c) n xs := by
  refine h.kept hg ?_
  cases e : (Value.slice A n c).ownBlock with
  | none => exact .inl rfl
  | some q =>
    right
    intro e2
    have h1 := hlt q e
    have h2 := hr q e2.symm
    omega
/-- What turns a block that is new to the elder world turns none of its own. -/
theorem only_new {a w w' : World} {r1 r2 : Option Nat} (h1 : a.grownBy w r1) (h2 : w.grownBy w' r2) (hq : ∀ q, r2 = some q → a.heap.size ≤ q) : a.grownBy w' r1 :=
  ⟨h2.os.trans h1.os, h2.tape.trans h1.tape, h2.output.trans h1.output, Nat.le_trans h1.size h2.size, fun i hi hne => (h2.block i (Nat.lt_of_lt_of_le hi h1.size) (fun e => by have := hq i e.symm; omega)).trans (h1.block i hi hne)⟩
theorem Box3.movedR {w W : World} {g : Nat} {a b c : Value} {r : Option Nat} (h : Box3 w g a b c) (hg : w.grownBy W r) (hne : some g ≠ r) : Box3 W g a b c := by
  obtain ⟨h0, ⟨c0, c1, c2⟩, f0, f1, f2⟩ := h
  have hb := hg.block g h0 hne
  exact ⟨Nat.lt_of_lt_of_le h0 hg.size, ⟨(World.cell?_of_block (a := ⟨g, 0, none⟩) hb).trans c0, (World.cell?_of_block (a := ⟨g, 1, none⟩) hb).trans c1, (World.cell?_of_block (a := ⟨g, 2, none⟩) hb).trans c2⟩, (World.frozen?_of_block (a := ⟨g, 0, none⟩) hb).trans f0, (World.frozen?_of_block (a := ⟨g, 1, none⟩) hb).trans f1, (World.frozen?_of_block (a := ⟨g, 2, none⟩) hb).trans f2⟩
set_option maxRecDepth 100000 in
set_option maxHeartbeats 8000000 in
theorem arrivals_any {w0 : World} {p : Nat} {A : Option Addr} {n c K : Nat} (w : World) (h : Dr w0 w p A n c K) (hk : K ≤ 600000) (hn : n ≤ 9223372036854775807) :
    Calls Tryz.prog 53 #[.pointer (some ⟨p, 0, none⟩)] w fun e w' => ∃ (l : List Ar) (B : Option Addr) (cb : Nat), e = .returned (.slice B l.length cb) ∧ l.length ≤ 9 ∧ Hid (∀ m ∈ l, arBd m) ∧ w'.ownsRow w.heap.size 71 5 (.slice B l.length cb) l.length (l.flatMap encAr) ∧ Dr w0 w' p A n c (K + 400) ∧ w.grownBy w' (some p) := by
  have hlt := h.lt
  have HD := Lib.hid h
  clear h
  go_enter Tryz.func53, Tryz.ntmps53
  go_wp2_with fail
  refine (quakeOrigin_any _ (HD.out.alloc _) (by omega) hn).mono ?_; rintro e w1 ⟨a, rfl, ha, hd1, hg1⟩
  have HO1 := Lib.hid (own_dr (own_made (E := 71) (K := 5) (n := 0) (cur := #[]) (w := w) rfl (Nat.zero_le _)) hg1 hlt)
  have HG1 := Lib.hid (only_two (only_alloc (World.grownBy.refl w (some p)) _) hg1)
  have HA := Lib.hid ha
  have HD1 := Lib.hid hd1
  clear ha hd1 hg1
  go_wp2_with fail
  refine (quakeOrigin_any _ HD1.out (by omega) hn).mono ?_; rintro e w2 ⟨b, rfl, hb, hd2, hg2⟩
  have HO2 := Lib.hid (own_dr HO1.out hg2 hlt)
  have HG2 := Lib.hid (only_two HG1.out hg2)
  have HB := Lib.hid hb
  have HD2 := Lib.hid hd2
  have hlt2 := hd2.lt
  have hs2 := HG2.out.size
  clear hb hd2 hg2 HO1 HG1 HD1
  have HBa := Lib.hid (box3_of (blk_alloc (heap_new1 w2 (.cells #[.int .i64 a.x, .int .i64 a.y, .int .i64 a.tk] 38)) (.cells #[.int .i64 b.x, .int .i64 b.y, .int .i64 b.tk] 38)))
  have HBb := Lib.hid (box3_of (heap_new2 w2 (.cells #[.int .i64 a.x, .int .i64 a.y, .int .i64 a.tk] 38) (.cells #[.int .i64 b.x, .int .i64 b.y, .int .i64 b.tk] 38)))
  have HO3 := Lib.hid ((HO2.out.alloc (.cells #[.int .i64 a.x, .int .i64 a.y, .int .i64 a.tk] 38)).alloc (.cells #[.int .i64 b.x, .int .i64 b.y, .int .i64 b.tk] 38))
  have HG3 := Lib.hid (only_alloc (only_alloc HG2.out (.cells #[.int .i64 a.x, .int .i64 a.y, .int .i64 a.tk] 38)) (.cells #[.int .i64 b.x, .int .i64 b.y, .int .i64 b.tk] 38))
  have HD3 := Lib.hid ((HD2.out.alloc (.cells #[.int .i64 a.x, .int .i64 a.y, .int .i64 a.tk] 38)).alloc (.cells #[.int .i64 b.x, .int .i64 b.y, .int .i64 b.tk] 38))
  have nea : w2.heap.size ≠ p := by omega
  have neb : w2.heap.size + 1 ≠ p := by omega
  have hsw : w.heap.size < w2.heap.size := (HO2.out.lt _ rfl).2
  clear HO2 HG2 HD2
  go_wp2_with fail
  go_loopw [3, 6] (fun v i wr => ∃ (j : Nat) (L : List Ar) (A1 : Option Addr) (c1 : Nat), 1 ≤ j ∧ j ≤ 7 ∧ L.length + 1 ≤ j ∧ i = .int .i64 j ∧ v = .slice A1 L.length c1 ∧ Hid (∀ m ∈ L, arBd m) ∧ Hid (wr.ownsRow w.heap.size 71 5 (.slice A1 L.length c1) L.length (L.flatMap encAr)) ∧ Hid (∀ q, (Value.slice A1 L.length c1).ownBlock = some q → q ≠ w2.heap.size ∧ q ≠ w2.heap.size + 1) ∧ Hid (Dr w0 wr p A n c (K + 24 + 30 * j)) ∧ Hid (w.grownBy wr (some p)) ∧ w2.heap.size + 2 ≤ wr.heap.size ∧ Hid (Box3 wr w2.heap.size (.int .i64 a.x) (.int .i64 a.y) (.int .i64 a.tk)) ∧ Hid (Box3 wr (w2.heap.size + 1) (.int .i64 b.x) (.int .i64 b.y) (.int .i64 b.tk))) (fun _ i _ => 7 - (intOf i).toNat)
  case atStart => exact ⟨1, [], some ⟨w.heap.size, 0, none⟩, 0, by omega, by omega, by simp, rfl, rfl, Lib.hid (by simp), HO3, Lib.hid (fun q hq => by simp [Value.ownBlock] at hq; omega), Lib.hid (HD3.out.more (by omega)), HG3, by simp, HBa, HBb⟩
  case round =>
    clear HBa HBb HO3 HG3 HD3
    obtain ⟨j, L, A1, c1, hj1, hj7, hLj, rfl, rfl, HL, HO, HNE, HDr, HG, hsz, HBa, HBb⟩ := hrel
    have hltr := HDr.out.lt
    have hcap := own_cap HO.out
    by_cases hjl : j < 7
    · have hjz : (j : Int) < 7 := by omega
      go_wp2_with fail
      refine (one_dr 3 _ HDr.out (by omega) hn (by decide)).mono ?_; rintro e w3 ⟨b1, rfl, hd3, hg3⟩
      have HD3 := Lib.hid hd3
      have hlt3 := hd3.lt
      have HO3 := Lib.hid (own_dr HO.out hg3 hlt)
      have HG3 := Lib.hid (only_two HG.out hg3)
      have HBa3 := Lib.hid (HBa.out.moved hg3 nea)
      have HBb3 := Lib.hid (HBb.out.moved hg3 neb)
      have hs3 := hg3.size
      clear hd3 hg3 HO HG HBa HBb HDr
      cases b1
      case true =>
        go_wp2_with fail
        go_roundw
        case rel => exact ⟨j + 1, L, A1, c1, by omega, by omega, by omega, by go_num, rfl, HL, HO3, HNE, Lib.hid (HD3.out.more (by omega)), HG3, by omega, HBa3, HBb3⟩
        case measure => simp [intOf]; omega
      case false =>
        obtain ⟨_, ⟨q0, q1, q2⟩, f0, f1, f2⟩ := HBa3.out
        go_wp2_with fail
        have HQ4 := Lib.hid (box3_new w3 (.int .i64 a.x) (.int .i64 a.y) (.int .i64 a.tk) 38)
        refine (one_dr 3 _ (HD3.out.alloc _) (by omega) hn (by decide)).mono ?_; rintro e w4 ⟨b2, rfl, hd4, hg4⟩
        have hgx := only_two (only_alloc (World.grownBy.refl w3 (some p)) (.cells #[.int .i64 a.x, .int .i64 a.y, .int .i64 a.tk] 38)) hg4
        have neq : w3.heap.size ≠ p := by omega
        have HD4 := Lib.hid hd4
        have HO4 := Lib.hid (own_dr HO3.out hgx hlt)
        have HG4 := Lib.hid (only_two HG3.out hgx)
        have HQ5 := Lib.hid (HQ4.out.moved hg4 neq)
        have HBa4 := Lib.hid (HBa3.out.moved hgx nea)
        have HBb4 := Lib.hid (HBb3.out.moved hgx neb)
        have hs4 : w3.heap.size + 1 ≤ w4.heap.size := by simpa using hg4.size
        have HROW3 := Lib.hid (fun q hq => (HO3.out.lt q hq).2)
        clear hd4 hg4 hgx q0 q1 q2 f0 f1 f2 HO3 HG3 HBa3 HBb3 HQ4 HD3
        go_upto_if 22 with fail
        go_cut [] from 23 to 23 (fun wx => ∃ o : Og, ogBd o ∧ Hid (Box3 wx w3.heap.size (.int .i64 o.x) (.int .i64 o.y) (.int .i64 o.tk)) ∧ Hid (Dr w0 wx p A n c (K + 28 + 30 * j)) ∧ Hid (w4.grownBy wx (some w3.heap.size)))
        case first =>
          cases b2
          case false =>
            go_wp2_with fail
            go_meet
            exact ⟨a, HA.out, HQ5, Lib.hid (HD4.out.more (by omega)), Lib.hid (World.grownBy.refl _ _)⟩
          case true =>
            obtain ⟨_, ⟨q0, q1, q2⟩, f0, f1, f2⟩ := HBb4.out
            obtain ⟨_, ⟨z0, z1, z2⟩, y0, y1, y2⟩ := HQ5.out
            go_wp2_with fail
            go_meet
            have hBx : Below w3.heap.size w4 (((w4.setCell ⟨w3.heap.size, 0, none⟩ (.int .i64 b.x)).setCell ⟨w3.heap.size, 1, none⟩ (.int .i64 b.y)).setCell ⟨w3.heap.size, 2, none⟩ (.int .i64 b.tk)) := (((Below.refl _ _).setCell (p := ⟨w3.heap.size, 0, none⟩) (by simp) _).setCell (p := ⟨w3.heap.size, 1, none⟩) (by simp) _).setCell (p := ⟨w3.heap.size, 2, none⟩) (by simp) _
            have hq := HQ5.out.all (.int .i64 b.x) (.int .i64 b.y) (.int .i64 b.tk)
            have hgg : w4.grownBy (((w4.setCell ⟨w3.heap.size, 0, none⟩ (.int .i64 b.x)).setCell ⟨w3.heap.size, 1, none⟩ (.int .i64 b.y)).setCell ⟨w3.heap.size, 2, none⟩ (.int .i64 b.tk)) (some w3.heap.size) := only_setCell (only_setCell (only_setCell (World.grownBy.refl w4 _) (p := ⟨w3.heap.size, 0, none⟩) (.inl rfl) _) (p := ⟨w3.heap.size, 1, none⟩) (.inl rfl) _) (p := ⟨w3.heap.size, 2, none⟩) (.inl rfl) _
            have hdd : Dr w0 (((w4.setCell ⟨w3.heap.size, 0, none⟩ (.int .i64 b.x)).setCell ⟨w3.heap.size, 1, none⟩ (.int .i64 b.y)).setCell ⟨w3.heap.size, 2, none⟩ (.int .i64 b.tk)) p A n c _ := HD.out.above HD4.out (hBx.mono (by omega))
            generalize (((w4.setCell ⟨w3.heap.size, 0, none⟩ (.int .i64 b.x)).setCell ⟨w3.heap.size, 1, none⟩ (.int .i64 b.y)).setCell ⟨w3.heap.size, 2, none⟩ (.int .i64 b.tk)) = W at hq hgg hdd ⊢
            exact ⟨b, HB.out, Lib.hid hq, Lib.hid (hdd.more (by omega)), Lib.hid hgg⟩
        case rest =>
          obtain ⟨o, ho, HQ6, HD6, HG6⟩ := hcut
          obtain ⟨w6, hw⟩ : ∃ w6 : World, w6 = wc := ⟨_, rfl⟩
          rw [← hw] at HQ6 HD6 HG6 ⊢
          clear hw
          have hs6 := HG6.out.size
          have HO6 := Lib.hid (own_low HO4.out HROW3.out HG6.out (fun q hq => by cases hq; exact Nat.le_refl _))
          have HBa6 := Lib.hid (HBa4.out.moved HG6.out (by omega))
          have HBb6 := Lib.hid (HBb4.out.moved HG6.out (by omega))
          have hG6 : w.grownBy w6 (some p) := only_new HG4.out HG6.out (fun q hq => by cases hq; omega)
          have HGw6 := Lib.hid hG6
          have hlt6 := HD6.out.lt
          clear HO4 HBa4 HBb4 HG4 hG6 HQ5 HD4 HG6 HROW3
          go_wp2_with fail
          refine (among_dr [0, 60, 100, 250, 400, 900] 6 _ _ _ (HD6.out.alloc _) (by omega) hn ?_ ?_ ?_ (by decide) (by decide)).mono ?_
          · exact RowAt.of_block encI_len (heap_new1 _ _) rfl
          · omega
          · rfl
          rintro e w7 ⟨v1, rfl, hv7, hd7, hg7⟩
          have hlt7 := hd7.lt
          have hb1 : 0 ≤ v1 ∧ v1 ≤ 900 := by simp only [List.mem_cons, List.not_mem_nil, or_false] at hv7; omega
          go_wp2_with fail
          refine (among_dr [0, 80, 200, 500] 4 _ _ _ (hd7.alloc _) (by omega) hn ?_ ?_ ?_ (by decide) (by decide)).mono ?_
          · exact RowAt.of_block encI_len (heap_new1 _ _) rfl
          · omega
          · rfl
          rintro e w8 ⟨v2, rfl, hv8, hd8, hg8⟩
          have hlt8 := hd8.lt
          have hb2 : 0 ≤ v2 ∧ v2 ≤ 500 := by simp only [List.mem_cons, List.not_mem_nil, or_false] at hv8; omega
          go_wp2_with fail
          refine (among_dr [0, 1, 20, 200, 1000] 5 _ _ _ (hd8.alloc _) (by omega) hn ?_ ?_ ?_ (by decide) (by decide)).mono ?_
          · exact RowAt.of_block encI_len (heap_new1 _ _) rfl
          · omega
          · rfl
          rintro e w9 ⟨v3, rfl, hv9, hd9, hg9⟩
          have hlt9 := hd9.lt
          have hgA := Lib.hid (only_two (only_two (only_two (only_alloc (World.grownBy.refl w6 (some p)) _) hg7) (only_two (only_alloc (World.grownBy.refl w7 (some p)) _) hg8)) (only_two (only_alloc (World.grownBy.refl w8 (some p)) _) hg9))
          have HO9 := Lib.hid (own_dr HO6.out hgA.out hlt)
          have HBa9 := Lib.hid (HBa6.out.moved hgA.out nea)
          have HBb9 := Lib.hid (HBb6.out.moved hgA.out neb)
          have HQ9 := Lib.hid (HQ6.out.moved hgA.out neq)
          have HG9 := Lib.hid (only_two HGw6.out hgA.out)
          have HD9 := Lib.hid hd9
          have hs9 := hgA.out.size
          have nex : w9.heap.size ≠ p := by omega
          obtain ⟨⟨ox0, ox1⟩, ⟨oy0, oy1⟩, ot0, ot1⟩ := ho
          have HN := Lib.hid (sqG_bd (a := v1) (b := v2) (c := o.x) (d := o.y) (by omega) (by omega))
          have HX := Lib.hid (box5_new w9 (.int .i64 (9 * (j : Int))) (.int .i64 v1) (.int .i64 v2) (.int .i64 0) (.int .i64 v3) 71)
          have HDx := Lib.hid (hd9.alloc (.cells #[.int .i64 (9 * (j : Int)), .int .i64 v1, .int .i64 v2, .int .i64 0, .int .i64 v3] 71))
          have HGx := Lib.hid (only_alloc (World.grownBy.refl w9 (some p)) (.cells #[.int .i64 (9 * (j : Int)), .int .i64 v1, .int .i64 v2, .int .i64 0, .int .i64 v3] 71))
          have HQx := Lib.hid (HQ9.out.below (balloc (bref w9) (.cells #[.int .i64 (9 * (j : Int)), .int .i64 v1, .int .i64 v2, .int .i64 0, .int .i64 v3] 71)))
          clear hd7 hd8 hd9 hg7 hg8 hg9 hv7 hv8 hv9 hgA HO6 HBa6 HBb6 HQ6 HGw6 HQ9 HD6
          go_upto_region 11 with fail
          generalize w9.alloc (.cells #[.int .i64 (9 * (j : Int)), .int .i64 v1, .int .i64 v2, .int .i64 0, .int .i64 v3] 71) = wx at HX HDx HGx HQx ⊢
          have hltx := HDx.out.lt
          have HKP := Lib.hid (fun (W : World) (h : wx.grownBy W (some p)) => show W.cell? ⟨w3.heap.size, 0, none⟩ = some (.int .i64 o.x) ∧ W.cell? ⟨w3.heap.size, 1, none⟩ = some (.int .i64 o.y) ∧ W.cell? ⟨w3.heap.size, 2, none⟩ = some (.int .i64 o.tk) ∧ W.cell? ⟨w9.heap.size, 1, none⟩ = some (.int .i64 v1) ∧ W.cell? ⟨w9.heap.size, 2, none⟩ = some (.int .i64 v2) from by
            obtain ⟨_, ⟨q0, q1, q2⟩, _⟩ := HQx.out.moved h neq
            obtain ⟨_, ⟨z0, z1, z2, z3, z4⟩, _⟩ := HX.out.moved h nex
            exact ⟨q0, q1, q2, z1, z2⟩)
          have HKS := Lib.hid (fun (W : World) (v : Value) (h : wx.grownBy W (some p)) => show (W.setCell ⟨w9.heap.size, 3, none⟩ v).cell? ⟨w3.heap.size, 0, none⟩ = some (.int .i64 o.x) ∧ (W.setCell ⟨w9.heap.size, 3, none⟩ v).cell? ⟨w3.heap.size, 1, none⟩ = some (.int .i64 o.y) ∧ (W.setCell ⟨w9.heap.size, 3, none⟩ v).cell? ⟨w3.heap.size, 2, none⟩ = some (.int .i64 o.tk) ∧ (W.setCell ⟨w9.heap.size, 3, none⟩ v).cell? ⟨w9.heap.size, 1, none⟩ = some (.int .i64 v1) ∧ (W.setCell ⟨w9.heap.size, 3, none⟩ v).cell? ⟨w9.heap.size, 2, none⟩ = some (.int .i64 v2) from by
            have hne : w3.heap.size ≠ w9.heap.size := by omega
            obtain ⟨_, ⟨q0, q1, q2⟩, _⟩ := (HQx.out.moved h neq).far hne (o := 3) v
            obtain ⟨_, ⟨z0, z1, z2, z3, z4⟩, _⟩ := (HX.out.moved h nex).set3 v
            exact ⟨q0, q1, q2, z1, z2⟩)
          go_cut [] from 36 to 54 (fun wy => ∃ tk : Int, Hid (Box5 wy w9.heap.size (.int .i64 (9 * (j : Int))) (.int .i64 v1) (.int .i64 v2) (.int .i64 tk) (.int .i64 v3)) ∧ Hid (Dr w0 wy p A n c (K + 36 + 30 * j)) ∧ Hid (w9.grownBy wy (some p)))
          case first =>
            obtain ⟨hxz, ⟨x0, x1, x2, x3, x4⟩, x5, x6, x7, x8, x9⟩ := HX.out
            go_region_held3 (fun w' => w'.cell? ⟨w3.heap.size, 0, none⟩ = some (.int .i64 o.x) ∧ w'.cell? ⟨w3.heap.size, 1, none⟩ = some (.int .i64 o.y) ∧ w'.cell? ⟨w3.heap.size, 2, none⟩ = some (.int .i64 o.tk) ∧ w'.cell? ⟨w9.heap.size, 1, none⟩ = some (.int .i64 v1) ∧ w'.cell? ⟨w9.heap.size, 2, none⟩ = some (.int .i64 v2))
              (first | (refine HKP.out _ ?_; (repeat (first | exact World.grownBy.refl _ _ | exact hgX5 | exact only_of_below hb7 _ | (refine only_alloc ?_ _) | (refine only_drew ?_) | (refine only_drewN ?_ _))); done) | (refine HKS.out _ _ ?_; (repeat (first | exact World.grownBy.refl _ _ | exact hgX5 | exact only_of_below hb7 _ | (refine only_alloc ?_ _) | (refine only_drew ?_) | (refine only_drewN ?_ _))); done) | fail)
              (first
              | (go_at_call 25; ((with_reducible refine (among_dr (w0 := w0) (K := K + 34 + 30 * j) (A := A) (n := n) (c := c) [0, 0, 1, 15, -30] 5 _ _ _ ?_ (by omega) hn ?_ ?_ ?_ (by decide) (by decide)).mono ?_); exact (HDx.out.below (by repeat (first | exact bref _ | exact hb7 | (refine balloc ?_ _) | (refine bdrew ?_) | (refine bdrewN ?_ _)))).more (by omega); exact RowAt.of_block encI_len (by first | exact heap_new1 _ _ | exact (hb7W.block _ (by simp)).trans (heap_new1 _ _)) rfl; (first | omega | (simp <;> omega)); rfl); rintro e w5 ⟨v5, rfl, hv5, hd5, hg5⟩; have hgX5 : wx.grownBy w5 (some p) := only_two (by repeat (first | exact World.grownBy.refl _ _ | exact hgX5 | exact only_of_below hb7 _ | (refine only_alloc ?_ _) | (refine only_drew ?_) | (refine only_drewN ?_ _))) hg5; have HD5 := Lib.hid hd5; obtain ⟨_, ⟨z0, z1, z2, z3, z4⟩, y0, y1, y2, y3, y4⟩ := HX.out.moved hgX5 nex; clear hd5 hv5 hg5)
              | (go_at_call 26; (with_reducible refine (l1Most_any _ _ _).mono ?_); rintro e w' ⟨rfl, rfl⟩)
              | (go_at_call 57; (with_reducible refine (l10SquareG_any _ _ _ _ _ (by omega) (by omega)).mono ?_); rintro e w' ⟨rfl, rfl⟩)
              | (go_at_call 56; (with_reducible refine (l10Root_any _ _ HN.out.1 HN.out.2).mono ?_); rintro e w7 ⟨rfl, hb7W⟩; have hb7 : Below wx.heap.size wx w7 := bstep (by repeat (first | exact bref _ | exact hb7 | (refine balloc ?_ _) | (refine bdrew ?_) | (refine bdrewN ?_ _))) hb7W; have hsz7 := hb7.size)
              | fail)
            all_goals
              go_wp2_with fail
              go_meet
              exact ⟨_, Lib.hid ((HX.out.moved hgX5 nex).set3 _), Lib.hid ((HD9.out.above HD5.out (Below.setCell (Below.refl _ _) (by simp) _)).more (by omega)), Lib.hid (only_above (only_two HGx.out hgX5) (Below.setCell (Below.refl _ _) (by simp) _))⟩
          case rest =>
            obtain ⟨tk, HY, HDy, HGy⟩ := hcut
            obtain ⟨wy, hw⟩ : ∃ wy : World, wy = wc := ⟨_, rfl⟩
            rw [← hw] at HY HDy HGy ⊢
            clear hw HX HDx HGx HQx HKP HKS HN
            have hcap9 := own_cap HO9.out
            have HOy := Lib.hid (own_dr HO9.out HGy.out hlt)
            have HBay := Lib.hid (HBa9.out.moved HGy.out nea)
            have HBby := Lib.hid (HBb9.out.moved HGy.out neb)
            have hsy := HGy.out.size
            have HGwy := Lib.hid (only_two HG9.out HGy.out)
            obtain ⟨hyz, ⟨q0, q1, q2, q3, q4⟩, f0, f1, f2, f3, f4⟩ := HY.out
            go_upto_region 13 with (first | (go_at_call 55; (with_reducible refine (l1Least_any _ _ _).mono ?_); rintro e w' ⟨rfl, rfl⟩) | (go_at_call 26; (with_reducible refine (l1Most_any _ _ _).mono ?_); rintro e w' ⟨rfl, rfl⟩))
            have hz := HY.out.set3 (.int .i64 (maxI 0 (minI 1000000 tk)))
            have hBz : Below w9.heap.size wy (wy.setCell ⟨w9.heap.size, 3, none⟩ (.int .i64 (maxI 0 (minI 1000000 tk)))) := Below.setCell (Below.refl _ _) (by simp) _
            have hoz := own_low (B := w9.heap.size) HOy.out (fun q hq => (HO9.out.lt q hq).2) (only_setCell (World.grownBy.refl wy (some w9.heap.size)) (p := ⟨w9.heap.size, 3, none⟩) (.inl rfl) (.int .i64 (maxI 0 (minI 1000000 tk)))) (fun q hq => by cases hq; exact Nat.le_refl _)
            have haz := HBay.out.far (g' := w9.heap.size) (o := 3) (by have := HBa9.out.1; omega) (.int .i64 (maxI 0 (minI 1000000 tk)))
            have hbz := HBby.out.far (g' := w9.heap.size) (o := 3) (by have := HBb9.out.1; omega) (.int .i64 (maxI 0 (minI 1000000 tk)))
            have hdz := HD9.out.above HDy.out hBz
            have hgz := only_above HGwy.out (hBz.mono (by omega))
            have hszz : wy.heap.size ≤ (wy.setCell ⟨w9.heap.size, 3, none⟩ (.int .i64 (maxI 0 (minI 1000000 tk)))).heap.size := hBz.size
            clear q0 q1 q2 q3 q4 f0 f1 f2 f3 f4
            generalize wy.setCell ⟨w9.heap.size, 3, none⟩ (.int .i64 (maxI 0 (minI 1000000 tk))) = wz at hz hoz haz hbz hdz hgz hszz ⊢
            have HOz := Lib.hid hoz
            obtain ⟨_, ⟨z0, z1, z2, z3, z4⟩, _⟩ := hz
            clear hoz
            go_wp2_with (at_builtin; refine wpList_app rfl _ _ 24 71 5 40 _ rfl Tryz.underlying24 infoAr rfl (by decide) w.heap.size _ L.length _ (by rfl) (HOz.out.alloc _) _ _ (by rfl) (heap_new1 _ _) rfl (encAr_one ⟨9 * (j : Int), v1, v2, maxI 0 (minI 1000000 tk), v3⟩) (by omega) (by decide) (by simp; omega) ?_; intro g10 c10 w10 ho10 hg10 hl10)
            have B10 : Below w.heap.size wz w10 := ((Below.refl _ _).alloc (by omega) _).grown hg10 (by simp; omega) (row_mine HOz.out)
            have hal := only_alloc (World.grownBy.refl wz (Value.slice A1 L.length c1).ownBlock) (.cells #[.int .i64 (9 * (j : Int)), .int .i64 v1, .int .i64 v2, .int .i64 (maxI 0 (minI 1000000 tk)), .int .i64 v3] 71)
            have hg11 := only_two hal hg10
            have HNE10 := Lib.hid (show ∀ q, (Value.slice (some ⟨g10, 0, none⟩) (L ++ [(⟨9 * (j : Int), v1, v2, maxI 0 (minI 1000000 tk), v3⟩ : Ar)]).length c10).ownBlock = some q → q ≠ w2.heap.size ∧ q ≠ w2.heap.size + 1 from fun q hq => by
              have hq' : g10 = q := by simpa [Value.ownBlock] using hq
              subst hq'
              rcases hl10 with r | r
              · exact HNE.out _ r
              · simp only [World.size_alloc] at r
                omega)
            go_roundw
            case rel => exact ⟨j + 1, L ++ [⟨9 * (j : Int), v1, v2, maxI 0 (minI 1000000 tk), v3⟩], some ⟨g10, 0, none⟩, c10, by omega, by omega, by simp; omega, by go_num, by simp, Lib.hid (fun m hm => by rcases List.mem_append.1 hm with h | h; exact HL.out m h; rw [List.mem_singleton.1 h]; exact ⟨⟨by dsimp only; omega, by dsimp only; omega⟩, by dsimp only; omega, by dsimp only; omega⟩), Lib.hid (by simpa [encAr] using ho10), HNE10, Lib.hid ((HD.out.above hdz B10).more (by omega)), Lib.hid (only_above hgz B10), by have := hg11.size; omega, Lib.hid (haz.movedR hg11 (fun e => (HNE.out _ e.symm).1 rfl)), Lib.hid (hbz.movedR hg11 (fun e => (HNE.out _ e.symm).2 rfl))⟩
            case measure => simp [intOf]; omega
    · obtain rfl : j = 7 := by omega
      have HD3 := Lib.hid (HDr.out.more (show K + 24 + 30 * 7 ≤ K + 240 by omega))
      clear HDr HBa HBb HNE
      go_wp2_with fail
      refine (pick_dr 32 _ HD3.out (by omega) hn (by decide)).mono ?_; rintro e w4 ⟨r4, rfl, hr4, hd4, hg4⟩
      have HD4 := Lib.hid hd4
      have hlt4 := hd4.lt
      have HO4 := Lib.hid (own_dr HO.out hg4 hlt)
      have HG4 := Lib.hid (only_two HG.out hg4)
      have hs4 := HG4.out.size
      have hr : r4 = 0 ∨ r4 = 1 ∨ (¬ r4 = 0 ∧ ¬ r4 = 1) := by omega
      clear hr4 hd4 hg4 HO HG HD3
      rcases hr with rfl | rfl | ⟨h0, h1⟩
      · go_wp2_with fail
        refine (among_dr [0, 9, 99, 100] 4 _ _ _ (HD4.out.alloc _) (by omega) hn ?_ ?_ ?_ (by decide) (by decide)).mono ?_
        · exact RowAt.of_block encI_len (heap_new1 _ _) rfl
        · omega
        · rfl
        rintro e w5 ⟨u1, rfl, hv5, hd5, hg5⟩
        have hlt5 := hd5.lt
        go_wp2_with fail
        refine (among_dr [0, 1000] 2 _ _ _ (hd5.alloc _) (by omega) hn ?_ ?_ ?_ (by decide) (by decide)).mono ?_
        · exact RowAt.of_block encI_len (heap_new1 _ _) rfl
        · omega
        · rfl
        rintro e w6 ⟨u2, rfl, hv6, hd6, hg6⟩
        have hlt6 := hd6.lt
        have hb6 : 0 ≤ u2 ∧ u2 ≤ 1000 := by simp only [List.mem_cons, List.not_mem_nil, or_false] at hv6; omega
        go_wp2_with fail
        refine (among_dr [0, 1000001] 2 _ _ _ (hd6.alloc _) (by omega) hn ?_ ?_ ?_ (by decide) (by decide)).mono ?_
        · exact RowAt.of_block encI_len (heap_new1 _ _) rfl
        · omega
        · rfl
        rintro e w7 ⟨u3, rfl, hv7, hd7, hg7⟩
        have hlt7 := hd7.lt
        go_wp2_with fail
        refine (among_dr [0, 1001] 2 _ _ _ (hd7.alloc _) (by omega) hn ?_ ?_ ?_ (by decide) (by decide)).mono ?_
        · exact RowAt.of_block encI_len (heap_new1 _ _) rfl
        · omega
        · rfl
        rintro e w8 ⟨u4, rfl, hv8, hd8, hg8⟩
        have hgA := only_two (only_two (only_two (only_two (only_alloc (World.grownBy.refl w4 (some p)) _) hg5) (only_two (only_alloc (World.grownBy.refl w5 (some p)) _) hg6)) (only_two (only_alloc (World.grownBy.refl w6 (some p)) _) hg7)) (only_two (only_alloc (World.grownBy.refl w7 (some p)) _) hg8)
        have HO8 := Lib.hid (own_dr HO4.out hgA hlt)
        have HG8 := Lib.hid (only_two HG4.out hgA)
        have HD8 := Lib.hid hd8
        have hs8 := HG8.out.size
        have hcap8 := own_cap HO8.out
        clear hd5 hd6 hd7 hd8 hg5 hg6 hg7 hg8 hv5 hv6 hv7 hv8 hgA
        go_wp2_with (at_builtin; refine wpList_app rfl _ _ 24 71 5 40 _ rfl Tryz.underlying24 infoAr rfl (by decide) w.heap.size _ L.length _ (by rfl) (HO8.out.alloc _) _ _ (by rfl) (heap_new1 _ _) rfl (encAr_one ⟨u1, u2, 0, u3, u4⟩) (by omega) (by decide) (by simp; omega) ?_; intro g9 c9 w9 ho9 hg9 hl9)
        have B9 : Below w.heap.size w8 w9 := ((Below.refl _ _).alloc (by omega) _).grown hg9 (by simp; omega) (row_mine HO8.out)
        go_ret
        exact ⟨L ++ [⟨u1, u2, 0, u3, u4⟩], some ⟨g9, 0, none⟩, c9, by simp, by simp; omega, Lib.hid (fun m hm => by rcases List.mem_append.1 hm with h | h; exact HL.out m h; rw [List.mem_singleton.1 h]; exact ⟨⟨by dsimp only; omega, by dsimp only; omega⟩, by dsimp only; omega, by dsimp only; omega⟩), by simpa [encAr] using ho9, (HD.out.above HD8.out B9).more (by omega), only_above HG8.out B9⟩
      · have hL6 : L.length ≤ 6 := by omega
        go_wp2_with fail
        go_loopw [3] (fun v wr => ∃ (L : List Ar) (A1 : Option Addr) (c1 : Nat), L.length ≤ 9 ∧ v = .slice A1 L.length c1 ∧ Hid (∀ m ∈ L, arBd m) ∧ Hid (wr.ownsRow w.heap.size 71 5 (.slice A1 L.length c1) L.length (L.flatMap encAr)) ∧ Hid (Dr w0 wr p A n c (K + 244 + 2 * L.length)) ∧ Hid (w.grownBy wr (some p))) (fun v _ => 20 - slLen v)
        case atStart => exact ⟨L, A1, c1, by omega, rfl, HL, HO4, Lib.hid (HD4.out.more (by omega)), HG4⟩
        case round =>
          clear HO4 HD4 HG4 HL
          obtain ⟨L, A1, c1, hL, rfl, HL, HO, HDr, HG⟩ := hrel
          have hcap := own_cap HO.out
          go_wp2_with fail
          refine (pick_dr 2 _ HDr.out (by omega) hn (by decide)).mono ?_; rintro e w6 ⟨r6, rfl, hr6, hd6, hg6⟩
          have HD6 := Lib.hid hd6
          have HO6 := Lib.hid (own_dr HO.out hg6 hlt)
          have HG6 := Lib.hid (only_two HG.out hg6)
          have hsw := HG6.out.size
          clear hd6 hg6 HO HG HDr
          by_cases hlL : (L.length : Int) < 8 + r6
          · have hlN : L.length < 9 := by omega
            go_wp2_with (at_builtin; refine wpList_app rfl _ _ 24 71 5 40 _ rfl Tryz.underlying24 infoAr rfl (by decide) w.heap.size _ L.length _ (by rfl) (HO6.out.alloc _) _ _ (by rfl) (heap_new1 _ _) rfl (encAr_one ⟨70 + (L.length : Int), 5, 5, 400, 0⟩) (by omega) (by decide) (by simp; omega) ?_; intro g7 c7 w7 ho7 hg7 hl7)
            have B7 : Below w.heap.size w6 w7 := ((Below.refl _ _).alloc (by omega) _).grown hg7 (by simp; omega) (row_mine HO6.out)
            go_roundw
            case rel => exact ⟨L ++ [⟨70 + (L.length : Int), 5, 5, 400, 0⟩], some ⟨g7, 0, none⟩, c7, by simp; omega, by simp, Lib.hid (fun m hm => by rcases List.mem_append.1 hm with h | h; exact HL.out m h; rw [List.mem_singleton.1 h]; exact ⟨⟨by dsimp only; omega, by dsimp only; omega⟩, by dsimp only; omega, by dsimp only; omega⟩), Lib.hid (by simpa [encAr] using ho7), Lib.hid ((HD.out.above HD6.out B7).more (by simp; omega)), Lib.hid (only_above HG6.out B7)⟩
            case measure => simp [slLen]; omega
          · go_wp2_with fail
            go_ret
            exact ⟨L, A1, c1, rfl, hL, HL, HO6.out, HD6.out.more (by omega), HG6.out⟩
      · go_wp2_with fail
        go_ret
        exact ⟨L, A1, c1, rfl, by omega, HL, HO4.out, HD4.out.more (by omega), HG4.out⟩
end Go.Proofs.YtaobbkiepggafaaGreat
