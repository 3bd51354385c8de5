/-
  Proved here: for every code, the longest pairing has as many pairs as in the other order, and no pairing is longer (FnPairings returns true). No condition.
-/
import Derived.Test.YtlinjkfbcekepaaQuPl3
import Derived.Test.YtlinjkfbcekepaaQuDrw3
import Derived.Test.YtlinjkfbcekepaaQuPairI
import Derived.Test.YtlinjkfbcekepaaQuLngL
import Derived.Test.YtlinjkfbcekepaaQuMat
import Derived.Test.YtlinjkfbcekepaaQuSize
import Derived.Test.YtlinjkfbcekepaaQuMatch
import Derived.Test.YtlinjkfbcekepaaP2Vin
import Derived.Test.YtlinjkfbcekepaaVinB
import Derived.Test.YtlinjkfbcekepaaByte
import Derived.Test.YtlinjkfbcekepaaBox4
namespace Go.Proofs.Ytlinjkfbcekepaa
set_option linter.unusedVariables false
set_option linter.unusedSimpArgs false
set_option linter.unnecessarySimpa false
open Go.RowKit Go.WideShapes Go.ChangeShapes Go.ChangeAt

attribute [local go_sem] ext_cell ext_frozen
def QBox (w : World) (g : Nat) (q : Qu) : Prop := g < w.heap.size ∧ w.cell? ⟨g, 0, none⟩ = some (.int .i64 q.tk) ∧ w.cell? ⟨g, 1, none⟩ = some (.int .i64 q.x) ∧ w.cell? ⟨g, 2, none⟩ = some (.int .i64 q.y) ∧ w.cell? ⟨g, 3, none⟩ = some (.int .i64 q.sz)
theorem QBox.below {w w' : World} {g : Nat} {q : Qu} (h : QBox w g q) (hb : Below w.heap.size w w') : QBox w' g q := by
  obtain ⟨h0, h1, h2, h3, h4⟩ := h
  exact ⟨Nat.lt_of_lt_of_le h0 hb.size, (hb.cell (p := ⟨g, 0, none⟩) h0).trans h1, (hb.cell (p := ⟨g, 1, none⟩) h0).trans h2, (hb.cell (p := ⟨g, 2, none⟩) h0).trans h3, (hb.cell (p := ⟨g, 3, none⟩) h0).trans h4⟩
theorem qbox1 (w : World) (q : Qu) : QBox (w.alloc (.cells #[.int .i64 q.tk, .int .i64 q.x, .int .i64 q.y, .int .i64 q.sz] 26)) w.heap.size q := by
  have h2 := box4_of (heap_new1 w (.cells #[.int .i64 q.tk, .int .i64 q.x, .int .i64 q.y, .int .i64 q.sz] 26))
  exact ⟨h2.1, h2.2.1⟩
theorem qbox2 (w : World) (p q : Qu) : QBox ((w.alloc (.cells #[.int .i64 p.tk, .int .i64 p.x, .int .i64 p.y, .int .i64 p.sz] 26)).alloc (.cells #[.int .i64 q.tk, .int .i64 q.x, .int .i64 q.y, .int .i64 q.sz] 26)) w.heap.size p ∧ QBox ((w.alloc (.cells #[.int .i64 p.tk, .int .i64 p.x, .int .i64 p.y, .int .i64 p.sz] 26)).alloc (.cells #[.int .i64 q.tk, .int .i64 q.x, .int .i64 q.y, .int .i64 q.sz] 26)) (w.heap.size + 1) q := by
  have h1 := box4_of (blk_alloc (heap_new1 w (.cells #[.int .i64 p.tk, .int .i64 p.x, .int .i64 p.y, .int .i64 p.sz] 26)) (.cells #[.int .i64 q.tk, .int .i64 q.x, .int .i64 q.y, .int .i64 q.sz] 26))
  have h2 := box4_of (heap_new1 (w.alloc (.cells #[.int .i64 p.tk, .int .i64 p.x, .int .i64 p.y, .int .i64 p.sz] 26)) (.cells #[.int .i64 q.tk, .int .i64 q.x, .int .i64 q.y, .int .i64 q.sz] 26))
  simp only [World.size_alloc] at h2
  exact ⟨⟨h1.1, h1.2.1⟩, ⟨h2.1, h2.2.1⟩⟩
theorem CodeAt.below2 {w w' : World} {A : Option Addr} {n : Nat} (h : CodeAt w A n) (hb : Below w.heap.size w w') : CodeAt w' A n := h.grown (only_of_below hb none) (fun _ _ _ e => by cases e)
theorem pairR_told (a b : List Qu) (t f : Int) (l : List P2) : (pairR a b t f l).1 = true → (pairR a b t f l).2 = true := fun h => by rw [pairR_yes h]
set_option maxRecDepth 100000 in
set_option maxHeartbeats 16000000 in
theorem lawPair_walk (A : Option Addr) (n c : Nat) (w : World) (hr : CodeAt w A n) (hm : n ≤ 9223372036854775807) :
    Calls Try.prog 4 #[.slice A n c] w fun e w' => e = .returned (.bool true) ∧ Below w.heap.size w w' := by
  have HC := Lib.hid hr
  clear hr
  by_cases hn : n ≤ 65536
  · go_enter Try.func4, Try.ntmps4
    go_wp2_with fail
    refine (vBig_any _ _ _ _).mono ?_; rintro e w' ⟨rfl, rfl⟩
    rw [decide_eq_false (show ¬ 65536 < (n : Int) by omega)]
    go_wp2_with fail
    refine (drawLng_any A n c _ HC.out hn).mono ?_; rintro e w1 ⟨a, b, B, D, cb, cd, t, f, rfl, ⟨hla, hlb⟩, ho1, ho2, hb⟩
    have HA := Lib.hid (RowAt.of_own ho1 encQu_len (by decide))
    have HB := Lib.hid (RowAt.of_own ho2 encQu_len (by decide))
    have C := Lib.hid hb
    obtain ⟨M, hM⟩ : ∃ M, lngL a b t f = M := ⟨_, rfl⟩
    obtain ⟨N, hN⟩ : ∃ N, lngL b a t f = N := ⟨_, rfl⟩
    obtain ⟨O, hO⟩ : ∃ O, bothB a b t f = O := ⟨_, rfl⟩
    obtain ⟨G, hG⟩ : ∃ G, goodQu a = G := ⟨_, rfl⟩
    have HM := Lib.hid hM
    have HN := Lib.hid hN
    have HO := Lib.hid hO
    have HG := Lib.hid hG
    have hMl : M.length ≤ 10 := by rw [← hM]; exact lngL_le a b t f
    have HNM := Lib.hid (show N.length = M.length by rw [← hM, ← hN]; exact lng_back a b t f)
    clear ho1 ho2 hb hM hN hO hG
    go_wp2_with fail
    refine (iLng_any a b B D cb cd t f _ HA.out HB.out (by omega) (by omega)).mono ?_; rw [HM.out, HO.out]; rintro e w2 ⟨A2, k2, rfl, ho, hb⟩
    replace C := Lib.hid (bstep C.out hb)
    replace HA := Lib.hid (RowAt.below HA.out hb)
    replace HB := Lib.hid (RowAt.below HB.out hb)
    have H2 := Lib.hid (RowAt.of_own ho encP2_len (by decide))
    clear hb
    clear ho
    go_wp2_with fail
    refine (sLng_any a b B D cb cd t f _ HA.out HB.out (by omega) (by omega)).mono ?_; rw [HM.out, HO.out]; rintro e w3 ⟨A3, k3, rfl, ho, hb⟩
    replace C := Lib.hid (bstep C.out hb)
    replace HA := Lib.hid (RowAt.below HA.out hb)
    replace HB := Lib.hid (RowAt.below HB.out hb)
    replace H2 := Lib.hid (RowAt.below H2.out hb)
    have H3 := Lib.hid (RowAt.of_own ho encP2_len (by decide))
    clear hb
    clear ho
    go_wp2_with fail
    refine (vP2_same M A2 A3 k2 k3 _ H2.out H3.out (by omega)).mono ?_; rintro e w4 ⟨rfl, hb⟩
    replace C := Lib.hid (bstep C.out hb)
    replace HA := Lib.hid (RowAt.below HA.out hb)
    replace HB := Lib.hid (RowAt.below HB.out hb)
    replace H2 := Lib.hid (RowAt.below H2.out hb)
    replace H3 := Lib.hid (RowAt.below H3.out hb)
    clear hb
    clear H3
    go_wp2_with fail
    refine (iIsCat_any a B cb _ HA.out (by omega)).mono ?_; rw [HG.out]; rintro e w5 ⟨rfl, hb⟩
    replace C := Lib.hid (bstep C.out hb)
    replace HA := Lib.hid (RowAt.below HA.out hb)
    replace HB := Lib.hid (RowAt.below HB.out hb)
    replace H2 := Lib.hid (RowAt.below H2.out hb)
    clear hb
    go_wp2_with fail
    refine (sIsCat_any a B cb _ HA.out (by omega)).mono ?_; rw [HG.out]; rintro e w6 ⟨rfl, hb⟩
    replace C := Lib.hid (bstep C.out hb)
    replace HA := Lib.hid (RowAt.below HA.out hb)
    replace HB := Lib.hid (RowAt.below HB.out hb)
    replace H2 := Lib.hid (RowAt.below H2.out hb)
    clear hb
    cases O
    case' false =>
      go_wp2_with fail
    case' true =>
      obtain ⟨hpr, hml, hmp⟩ := lng_all HO.out
      rw [HM.out] at hpr hml hmp
      have HPR := Lib.hid hpr
      have HBS := Lib.hid (show bothB b a t f = true by rw [bothB_symm]; exact HO.out)
      have hma := matL_le a b t f
      clear hpr
      go_wp2_with fail
      refine (iLng_any b a D B cd cb t f _ HB.out HA.out (by omega) (by omega)).mono ?_; rw [HN.out, HBS.out, HNM.out]; rintro e w21 ⟨A4, k4, rfl, ho, hb⟩
      replace C := Lib.hid (bstep C.out hb)
      replace HA := Lib.hid (RowAt.below HA.out hb)
      replace HB := Lib.hid (RowAt.below HB.out hb)
      replace H2 := Lib.hid (RowAt.below H2.out hb)
      clear hb
      clear ho
      go_wp2_with fail
      refine (iPair_any a b B D A2 cb cd k2 t f M _ HA.out HB.out H2.out (by omega) (by omega) (by omega)).mono ?_; rw [HPR.out]; rintro e w22 ⟨rfl, hb⟩
      replace C := Lib.hid (bstep C.out hb)
      replace HA := Lib.hid (RowAt.below HA.out hb)
      replace HB := Lib.hid (RowAt.below HB.out hb)
      replace H2 := Lib.hid (RowAt.below H2.out hb)
      clear hb
      go_wp2_with fail
      refine (iMat_any a b B D cb cd t f _ HA.out HB.out (by omega) (by omega)).mono ?_; rw [HO.out]; rintro e w23 ⟨A5, k5, rfl, ho, hb⟩
      replace C := Lib.hid (bstep C.out hb)
      replace HA := Lib.hid (RowAt.below HA.out hb)
      replace HB := Lib.hid (RowAt.below HB.out hb)
      replace H2 := Lib.hid (RowAt.below H2.out hb)
      clear hb
      clear ho
      have hle : ¬ ((matL a b t f).length : Int) < (M.length : Int) := by omega
      by_cases h0 : 0 < M.length
      case' pos =>
        have h1 : (0 : Int) < (M.length : Int) := by omega
        have h2 : (0 : Int) < ((matL a b t f).length : Int) := by have := hmp.2 h0; omega
      case' neg =>
        have h1 : ¬ (0 : Int) < (M.length : Int) := by omega
        have h2 : ¬ (0 : Int) < ((matL a b t f).length : Int) := by intro h; exact h0 (hmp.1 (by omega))
      all_goals
        go_wp2_with fail
    all_goals
      refine (drawPair_any A n c _ (HC.out.below2 C.out) hn).mono ?_; rintro e w30 ⟨x, y, l, X, Y, Z, cx, cy, cz, u, v, rfl, ⟨hlx, hly, hll⟩, hx, hy, hz, hb⟩
      replace C := Lib.hid (bstep C.out hb)
      have HX := Lib.hid hx
      have HY := Lib.hid hy
      have HZ := Lib.hid hz
      obtain ⟨P1, hP1⟩ : ∃ P1, (pairR x y u v l).1 = P1 := ⟨_, rfl⟩
      obtain ⟨P2, hP2⟩ : ∃ P2, (pairR x y u v l).2 = P2 := ⟨_, rfl⟩
      have HP1 := Lib.hid hP1
      have HP2 := Lib.hid hP2
      clear hx hy hz hb hP1 hP2
      go_wp2_with fail
      refine (iPair_any x y X Y Z cx cy cz u v l _ HX.out HY.out HZ.out (by omega) (by omega) (by omega)).mono ?_; rw [HP1.out, HP2.out]; rintro e w31 ⟨rfl, hb⟩
      replace C := Lib.hid (bstep C.out hb)
      replace HX := Lib.hid (RowAt.below HX.out hb)
      replace HY := Lib.hid (RowAt.below HY.out hb)
      replace HZ := Lib.hid (RowAt.below HZ.out hb)
      clear hb
      go_wp2_with fail
      refine (sPair_any x y X Y Z cx cy cz u v l _ HX.out HY.out HZ.out (by omega) (by omega) (by omega)).mono ?_; rw [HP1.out, HP2.out]; rintro e w32 ⟨rfl, hb⟩
      replace C := Lib.hid (bstep C.out hb)
      replace HX := Lib.hid (RowAt.below HX.out hb)
      replace HY := Lib.hid (RowAt.below HY.out hb)
      replace HZ := Lib.hid (RowAt.below HZ.out hb)
      clear hb
      cases P1
      case' false =>
        go_wp2_with fail
      case' true =>
        have hpr := pairR_yes HP1.out
        have h2t : P2 = true := by rw [← HP2.out, hpr]
        subst h2t
        obtain ⟨hbo, hle⟩ := lng_best hpr
        have HBO := Lib.hid hbo
        have hlx2 := lngL_le x y u v
        have hlt : ¬ ((lngL x y u v).length : Int) < (l.length : Int) := by omega
        clear hpr hbo
        go_wp2_with fail
        refine (iLng_any x y X Y cx cy u v _ HX.out HY.out (by omega) (by omega)).mono ?_; rw [HBO.out]; rintro e w41 ⟨A6, k6, rfl, ho, hb⟩
        replace C := Lib.hid (bstep C.out hb)
        replace HX := Lib.hid (RowAt.below HX.out hb)
        replace HY := Lib.hid (RowAt.below HY.out hb)
        replace HZ := Lib.hid (RowAt.below HZ.out hb)
        clear hb
        clear ho
        go_wp2_with fail
      all_goals
        refine (drawDo_any A n c _ (HC.out.below2 C.out) hn).mono ?_; rintro e w50 ⟨p, q, u, v, rfl, hb⟩
        replace C := Lib.hid (bstep C.out hb)
        obtain ⟨D1, hD1⟩ : ∃ D1, (doB p q u v).1 = D1 := ⟨_, rfl⟩
        obtain ⟨D2, hD2⟩ : ∃ D2, (doB p q u v).2 = D2 := ⟨_, rfl⟩
        have HD1 := Lib.hid hD1
        have HD2 := Lib.hid hD2
        clear hb hD1 hD2
        go_wp2_with fail
        have hx := balloc (balloc (bref w50) (.cells #[.int .i64 p.tk, .int .i64 p.x, .int .i64 p.y, .int .i64 p.sz] 26)) (.cells #[.int .i64 q.tk, .int .i64 q.x, .int .i64 q.y, .int .i64 q.sz] 26)
        obtain ⟨hq1, hq2⟩ := qbox2 w50 p q
        generalize (w50.alloc (.cells #[.int .i64 p.tk, .int .i64 p.x, .int .i64 p.y, .int .i64 p.sz] 26)).alloc (.cells #[.int .i64 q.tk, .int .i64 q.x, .int .i64 q.y, .int .i64 q.sz] 26) = w5x at hx hq1 hq2 ⊢
        replace C := Lib.hid (bstep C.out hx)
        have HQ1 := Lib.hid hq1
        have HQ2 := Lib.hid hq2
        clear hx hq1 hq2
        refine (iDo_any p q u v _).mono ?_; rw [HD1.out, HD2.out]; rintro e w51 ⟨rfl, hb⟩
        replace C := Lib.hid (bstep C.out hb)
        replace HQ1 := Lib.hid (QBox.below HQ1.out hb)
        replace HQ2 := Lib.hid (QBox.below HQ2.out hb)
        clear hb
        obtain ⟨_, z0, z1, z2, z3⟩ := HQ1.out
        obtain ⟨_, u0, u1, u2, u3⟩ := HQ2.out
        go_wp2_with fail
        refine (iDo_any q p u v _).mono ?_; rw [doB_symm p q u v, HD1.out, HD2.out]; rintro e w52 ⟨rfl, hb⟩
        replace C := Lib.hid (bstep C.out hb)
        replace HQ1 := Lib.hid (QBox.below HQ1.out hb)
        replace HQ2 := Lib.hid (QBox.below HQ2.out hb)
        clear hb
        obtain ⟨_, z0, z1, z2, z3⟩ := HQ1.out
        obtain ⟨_, u0, u1, u2, u3⟩ := HQ2.out
        go_wp2_with fail
        refine (sDo_any p q u v _).mono ?_; rw [HD1.out, HD2.out]; rintro e w53 ⟨rfl, hb⟩
        replace C := Lib.hid (bstep C.out hb)
        replace HQ1 := Lib.hid (QBox.below HQ1.out hb)
        replace HQ2 := Lib.hid (QBox.below HQ2.out hb)
        clear hb
        clear HQ1 HQ2
        go_wp2_with fail
        refine (drawMat_any A n c _ (HC.out.below2 C.out) hn).mono ?_; rintro e w60 ⟨d, d2, E, E2, ce, ce2, u2, v2, rfl, ⟨hld, hld2⟩, ho1, ho2, hb⟩
        replace C := Lib.hid (bstep C.out hb)
        have HE := Lib.hid (RowAt.of_own ho1 encQu_len (by decide))
        have HE2 := Lib.hid (RowAt.of_own ho2 encQu_len (by decide))
        have hmd := matL_le d d2 u2 v2
        obtain ⟨S1, hS1⟩ : ∃ S1, (szR d d2 u2 v2).1 = S1 := ⟨_, rfl⟩
        obtain ⟨S2, hS2⟩ : ∃ S2, (szR d d2 u2 v2).2.1 = S2 := ⟨_, rfl⟩
        obtain ⟨S3, hS3⟩ : ∃ S3, (szR d d2 u2 v2).2.2 = S3 := ⟨_, rfl⟩
        have HS1 := Lib.hid hS1
        have HS2 := Lib.hid hS2
        have HS3 := Lib.hid hS3
        obtain ⟨O4, hO4⟩ : ∃ O4, bothB d d2 u2 v2 = O4 := ⟨_, rfl⟩
        have HO4 := Lib.hid hO4
        clear ho1 ho2 hb hS1 hS2 hS3 hO4
        go_wp2_with fail
        refine (iMat_any d d2 E E2 ce ce2 u2 v2 _ HE.out HE2.out (by omega) (by omega)).mono ?_; rw [HO4.out]; rintro e w61 ⟨A7, k7, rfl, ho, hb⟩
        replace C := Lib.hid (bstep C.out hb)
        replace HE := Lib.hid (RowAt.below HE.out hb)
        replace HE2 := Lib.hid (RowAt.below HE2.out hb)
        have H7 := Lib.hid (RowAt.of_own ho encP2_len (by decide))
        clear hb
        clear ho
        go_wp2_with fail
        refine (sMat_any d d2 E E2 ce ce2 u2 v2 _ HE.out HE2.out (by omega) (by omega)).mono ?_; rw [HO4.out]; rintro e w62 ⟨A8, k8, rfl, ho, hb⟩
        replace C := Lib.hid (bstep C.out hb)
        replace HE := Lib.hid (RowAt.below HE.out hb)
        replace HE2 := Lib.hid (RowAt.below HE2.out hb)
        replace H7 := Lib.hid (RowAt.below H7.out hb)
        have H8 := Lib.hid (RowAt.of_own ho encP2_len (by decide))
        clear hb
        clear ho
        go_wp2_with fail
        refine (vP2_same (matL d d2 u2 v2) A7 A8 k7 k8 _ H7.out H8.out (by omega)).mono ?_; rintro e w63 ⟨rfl, hb⟩
        replace C := Lib.hid (bstep C.out hb)
        replace HE := Lib.hid (RowAt.below HE.out hb)
        replace HE2 := Lib.hid (RowAt.below HE2.out hb)
        replace H7 := Lib.hid (RowAt.below H7.out hb)
        replace H8 := Lib.hid (RowAt.below H8.out hb)
        clear hb
        clear H7 H8
        go_wp2_with fail
        refine (iSize_any d d2 E E2 ce ce2 u2 v2 _ HE.out HE2.out (by omega) (by omega)).mono ?_; rw [HS1.out, HS2.out, HS3.out]; rintro e w64 ⟨rfl, hb⟩
        replace C := Lib.hid (bstep C.out hb)
        replace HE := Lib.hid (RowAt.below HE.out hb)
        replace HE2 := Lib.hid (RowAt.below HE2.out hb)
        clear hb
        go_wp2_with fail
        refine (sSize_any d d2 E E2 ce ce2 u2 v2 _ HE.out HE2.out (by omega) (by omega)).mono ?_; rw [HS1.out, HS2.out, HS3.out]; rintro e w65 ⟨rfl, hb⟩
        replace C := Lib.hid (bstep C.out hb)
        replace HE := Lib.hid (RowAt.below HE.out hb)
        replace HE2 := Lib.hid (RowAt.below HE2.out hb)
        clear hb
        go_wp2
        go_ret
        exact ⟨rfl, C.out⟩
  · go_enter Try.func4, Try.ntmps4
    go_wp2_with fail
    refine (vBig_any _ _ _ _).mono ?_; rintro e w' ⟨rfl, rfl⟩
    rw [decide_eq_true (show 65536 < (n : Int) by omega)]
    go_wp2
    go_ret
    exact ⟨rfl, bref _⟩
-- THE ROW --
set_option maxRecDepth 100000 in
theorem lawFnPairings_lifted (os : Os) (started : os.Started) (H : Type) (enc : TypeId × Value → H) :
    ReturnsInHanded {} Try.checked os 4 .any (Rows.fnPairingsSpec.pre6 enc Try.prog Try.f4 Rows.fnPairingsRow.domain false) (Rows.fnPairingsSpec.post enc Try.prog Try.f4 false true false false) := by
  refine returnsInHanded_of_change (C := Try.checked) Try.own started (by kernel_rfl) Try.func4
    (ChangeSpec.witness6 (enc := enc) (C := Try.checked) false ⟨#[], #[.slice none 0 0], []⟩ 8 (by kernel_rfl) (by kernel_rfl) (by kernel_rfl) (by kernel_rfl)) ?_
  intro W base args ds gs before hval0 hW hcnd _
  have hval : ∀ (j : Nat) t v, Try.f4.params[j]? = some t → args[j]? = some v → Value.okWide Try.prog W .any base t v := hval0
  have hW' := hW
  obtain ⟨p, q, hA0, hV, hpq, hfz, hnd⟩ := hW
  have hA : DataW.TrodAll enc Try.prog W 0 (fun _ => true) true Try.f4.params.toList args.toList ds p := hA0
  rw [Try.params4] at hA hval
  obtain ⟨v0, vs0, d0, ds0, p0, q0, hargs, rfl, rfl, h0, r0⟩ := trodAll_cons hA
  obtain ⟨rfl, rfl, rfl⟩ := trodAll_nil r0
  obtain rfl : args = #[v0] := by cases args; simp_all
  obtain ⟨A0, n0, c0, rfl, hr0, hm0⟩ := rowU8 (hval 0 29 v0 rfl rfl) h0
  refine (lawPair_walk A0 n0 c0 W hr0 hm0).mono fun e W' ⟨he, hb⟩ => ?_
  subst he
  exact law_post Try.laidOut (by kernel_rfl) (by kernel_rfl) Try.underlying4 rfl ⟨rfl, rfl, rfl⟩ hW' hb

theorem lawFnPairings : Rows.FnPairingsSaid :=
  OpenClaim.holds_of_wide 4 Try.f4 rfl rfl rfl rfl rfl rfl rfl ⟨rfl, rfl, rfl, rfl, rfl⟩ rfl rfl rfl rfl rfl (by kernel_rfl) Try.func4 (by kernel_rfl)
    (of_decide_eq_true (by kernel_rfl)) (by unfold Func.isWrapper; first | (rw [if_pos (by decide +kernel)]; kernel_rfl) | (rw [if_neg (by decide +kernel)]; exact ⟨rfl, rfl⟩))
    (fun os started H enc _ => lawFnPairings_lifted os started H enc)
end Go.Proofs.Ytlinjkfbcekepaa
