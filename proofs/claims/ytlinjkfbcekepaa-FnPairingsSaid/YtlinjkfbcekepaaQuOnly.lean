/-
  The quakes that match none: impl asks all of the second catalogue, spec loops.
-/
import Derived.Test.YtlinjkfbcekepaaQuBoth
import Derived.Test.YtlinjkfbcekepaaQuAll
import Derived.Test.YtlinjkfbcekepaaInts1
import Derived.Test.YtlinjkfbcekepaaKit
namespace Go.Proofs.Ytlinjkfbcekepaa
set_option linter.unusedVariables false
set_option linter.unusedSimpArgs false
set_option linter.unnecessarySimpa false
open Go.RowKit
attribute [local go_sem] ext_cell ext_frozen

def lonely (b : List Qu) (t f : Int) (q : Qu) : Bool := b.all fun r => !matchB t f q r
def onlyAt (a b : List Qu) (t f : Int) (k : Nat) : List Int := ((List.range k).filter fun i => match a[i]? with | none => false | some q => lonely b t f q).map fun (i : Nat) => (i : Int)
theorem onlyAt_hit {a b : List Qu} {t f : Int} {k : Nat} {m : Qu} (hm : a[k]? = some m) (h : lonely b t f m = true) : onlyAt a b t f (k + 1) = onlyAt a b t f k ++ [(k : Int)] := by
  unfold onlyAt
  rw [List.range_succ, List.filter_append]
  simp [hm, h]
theorem onlyAt_miss {a b : List Qu} {t f : Int} {k : Nat} {m : Qu} (hm : a[k]? = some m) (h : lonely b t f m = false) : onlyAt a b t f (k + 1) = onlyAt a b t f k := by
  unfold onlyAt
  rw [List.range_succ, List.filter_append]
  simp [hm, h]
def onlyL (a b : List Qu) (t f : Int) : List Int := if bothB a b t f then onlyAt a b t f a.length else []
theorem onlyL_le (a b : List Qu) (t f : Int) : (onlyL a b t f).length ≤ a.length := by
  unfold onlyL onlyAt; split
  · simpa using List.length_filter_le _ (List.range a.length)
  · simp

set_option maxHeartbeats 1000000 in
theorem onlyClos_any (t f : Int) (q r : Qu) (b1 b2 b3 : Nat) (w : World) (hq : oneQu q = true) (hr : oneQu r = true) (hw : winB t f = true)
    (c0 : w.cell? ⟨b1, 0, none⟩ = some (.int .i64 q.tk)) (c1 : w.cell? ⟨b1, 1, none⟩ = some (.int .i64 q.x)) (c2 : w.cell? ⟨b1, 2, none⟩ = some (.int .i64 q.y)) (c3 : w.cell? ⟨b1, 3, none⟩ = some (.int .i64 q.sz))
    (d0 : w.cell? ⟨b2, 0, none⟩ = some (.int .i64 t)) (e0 : w.cell? ⟨b3, 0, none⟩ = some (.int .i64 f)) :
    Calls Try.prog 83 #[.agg #[.int .i64 r.tk, .int .i64 r.x, .int .i64 r.y, .int .i64 r.sz], .pointer (some ⟨b1, 0, none⟩), .pointer (some ⟨b2, 0, none⟩), .pointer (some ⟨b3, 0, none⟩)] w fun e w' => e = .returned (.bool !(matchB t f q r)) ∧ Below w.heap.size w w' := by
  have l1 : b1 < w.heap.size := World.block_lt_of_cell? w ⟨b1, 0, none⟩ c0
  have l2 : b2 < w.heap.size := World.block_lt_of_cell? w ⟨b2, 0, none⟩ d0
  have l3 : b3 < w.heap.size := World.block_lt_of_cell? w ⟨b3, 0, none⟩ e0
  have HM := Lib.hid (fun W => match_any q r t f W hq hr hw)
  clear hq hr hw
  go_enter Try.func83, Try.ntmps83
  go_wp2_with (go_at_call 63; (with_reducible refine (HM.out _).mono ?_); rintro e w1 ⟨rfl, hb1⟩)
  go_ret
  exact ⟨rfl, (by repeat (first | exact bref _ | (refine balloc ?_ _) | (refine bdrew ?_) | (refine bdrewN ?_ _) | (refine bstep ?_ (by assumption))))⟩

theorem cell4Q {w W : World} {b off : Nat} {m : Qu} (hb : b < w.heap.size) (h : w.cell? ⟨b, off, none⟩ = some (.int .i64 m.tk) ∧ w.cell? ⟨b, off + 1, none⟩ = some (.int .i64 m.x) ∧ w.cell? ⟨b, off + 2, none⟩ = some (.int .i64 m.y) ∧ w.cell? ⟨b, off + 3, none⟩ = some (.int .i64 m.sz)) (hW : Below w.heap.size w W) :
    W.cell? ⟨b, off, none⟩ = some (.int .i64 m.tk) ∧ W.cell? ⟨b, off + 1, none⟩ = some (.int .i64 m.x) ∧ W.cell? ⟨b, off + 2, none⟩ = some (.int .i64 m.y) ∧ W.cell? ⟨b, off + 3, none⟩ = some (.int .i64 m.sz) :=
  ⟨(hW.cell (p := ⟨b, off, none⟩) hb).trans h.1, (hW.cell (p := ⟨b, off + 1, none⟩) hb).trans h.2.1, (hW.cell (p := ⟨b, off + 2, none⟩) hb).trans h.2.2.1, (hW.cell (p := ⟨b, off + 3, none⟩) hb).trans h.2.2.2⟩
theorem box4Q (w : World) (T : Nat) (m : Qu) : (w.alloc (.cells #[.int .i64 m.tk, .int .i64 m.x, .int .i64 m.y, .int .i64 m.sz] T)).cell? ⟨w.heap.size, 0, none⟩ = some (.int .i64 m.tk) ∧ (w.alloc (.cells #[.int .i64 m.tk, .int .i64 m.x, .int .i64 m.y, .int .i64 m.sz] T)).cell? ⟨w.heap.size, 0 + 1, none⟩ = some (.int .i64 m.x) ∧
    (w.alloc (.cells #[.int .i64 m.tk, .int .i64 m.x, .int .i64 m.y, .int .i64 m.sz] T)).cell? ⟨w.heap.size, 0 + 2, none⟩ = some (.int .i64 m.y) ∧ (w.alloc (.cells #[.int .i64 m.tk, .int .i64 m.x, .int .i64 m.y, .int .i64 m.sz] T)).cell? ⟨w.heap.size, 0 + 3, none⟩ = some (.int .i64 m.sz) := by
  simp [go_sem]

set_option maxRecDepth 100000 in
set_option maxHeartbeats 4000000 in
theorem iOnly_any (a b : List Qu) (A B : Option Addr) (ca cb : Nat) (t f : Int) (w : World) (ha : RowAt 4 encQu w A a) (hb : RowAt 4 encQu w B b) (hla : a.length ≤ 2097152) (hlb : b.length ≤ 2097152) :
    Calls Try.prog 40 #[.slice A a.length ca, .slice B b.length cb, .int .i64 t, .int .i64 f] w (MkS2 3 1 (onlyL a b t f).length ((onlyL a b t f).flatMap encI) (bothB a b t f) w) := by
  have hmf : ∀ (fn : Fn) (first cap : Array Value) (w : World), (Instr.makeFunc fn first cap).run Try.prog w = .ok (.func fn first cap) w := fun _ _ _ _ => rfl
  have HA := Lib.hid ha
  have HB := Lib.hid hb
  clear ha hb
  cases hg : bothB a b t f
  · have HE := Lib.hid (show onlyL a b t f = [] by simp [onlyL, hg])
    go_enter Try.func40, Try.ntmps40
    go_wp2_with (go_at_call 64; (with_reducible refine (iBoth_any a b _ _ _ _ t f _ (HA.out.below (balloc (balloc (bref _) _) _)) (HB.out.below (balloc (balloc (bref _) _) _)) hla hlb).mono ?_); rw [hg]; rintro e w1 ⟨rfl, hb1⟩)
    go_ret2
    rw [HE.out]
    exact ⟨none, 0, rfl, World.ownsRow_nil _ _ _ _, bstep (balloc (balloc (bref _) _) _) hb1⟩
  · obtain ⟨hga, hgb, hw⟩ := bothB_true hg
    have HE := Lib.hid (show onlyL a b t f = onlyAt a b t f a.length by simp [onlyL, hg])
    have HGA := Lib.hid (goodQu_all hga)
    have HGB := Lib.hid (goodQu_all hgb)
    have HW := Lib.hid hw
    clear hga hgb hw
    go_enter Try.func40, Try.ntmps40
    go_wp2_with (go_at_call 64; (with_reducible refine (iBoth_any a b _ _ _ _ t f _ (HA.out.below (balloc (balloc (bref _) _) _)) (HB.out.below (balloc (balloc (bref _) _) _)) hla hlb).mono ?_); rw [hg]; rintro e w1 ⟨rfl, hb1⟩)
    have hz1 : w.heap.size + 1 + 1 ≤ w1.heap.size := by simpa using hb1.size
    have b1 := bstep (balloc (balloc (bref w) _) _) hb1
    have HX1 := Lib.hid (show w1.cell? ⟨w.heap.size, 0, none⟩ = some (.int .i64 t) from (hb1.cell (p := ⟨w.heap.size, 0, none⟩) (by simp <;> omega)).trans (by simp [go_sem]))
    have HX2 := Lib.hid (show w1.cell? ⟨w.heap.size + 1, 0, none⟩ = some (.int .i64 f) from (hb1.cell (p := ⟨w.heap.size + 1, 0, none⟩) (by simp <;> omega)).trans (by simp [go_sem]))
    have HA1 := Lib.hid (HA.out.below b1)
    have HB1 := Lib.hid (HB.out.below b1)
    have hs1 : w.heap.size < w1.heap.size := by omega
    have hs2 : w.heap.size + 1 < w1.heap.size := by omega
    clear hb1 hg HA HB
    go_loopw [10, 22] (fun v i wr => ∃ (k : Nat) (D : List Int) (A' : Option Addr) (c' : Nat), k ≤ a.length ∧ i = .int .i64 k ∧ v = .slice A' D.length c' ∧ D.length ≤ k ∧ Hid (D = onlyAt a b t f k) ∧ Below w1.heap.size w1 wr ∧ wr.ownsRow w1.heap.size 3 1 (.slice A' D.length c') D.length (D.flatMap encI)) (fun _ i _ => a.length - (intOf i).toNat)
    case atStart => exact ⟨0, [], some ⟨w1.heap.size, 0, none⟩, 0, Nat.zero_le _, rfl, rfl, Nat.le_refl _, rfl, balloc (bref _) _, own_made (cur := #[]) rfl (Nat.zero_le _)⟩
    case round =>
      obtain ⟨k, D, A', c', hk, rfl, rfl, hDl, HD, hbr, hown⟩ := hrel
      have HO := Lib.hid hown
      have hsz := hbr.size
      clear hown
      by_cases hlt : k < a.length
      · obtain ⟨m, hm⟩ := some_get hlt
        have i0 := ib0 k
        have i1 := ib1 hlt
        obtain ⟨ba, oa, rfl, hba, q0, q1, q2, q3⟩ := (HA1.out.below hbr).qu hm
        have HM := Lib.hid hm
        clear hm
        have HBX := Lib.hid (box4Q wr 26 m)
        have HP := Lib.hid (allQu_any b B cb 83 #[.pointer (some ⟨wr.heap.size, 0, none⟩), .pointer (some ⟨w.heap.size, 0, none⟩), .pointer (some ⟨w.heap.size + 1, 0, none⟩)] (fun r => !matchB t f m r) (enters_of Try.func83 (by kernel_rfl) rfl) (wr.alloc (.cells #[.int .i64 m.tk, .int .i64 m.x, .int .i64 m.y, .int .i64 m.sz] 26)) (HB1.out.below (balloc hbr _)) hlb
          (fun w2 hb2 r hr => by
            obtain ⟨x0, x1, x2, x3⟩ := cell4Q (by simp) HBX.out hb2
            have hx := bstep (balloc hbr (.cells #[.int .i64 m.tk, .int .i64 m.x, .int .i64 m.y, .int .i64 m.sz] 26)) hb2
            exact onlyClos_any t f m r _ _ _ w2 (HGA.out m (List.mem_of_getElem? HM.out)) (HGB.out r hr) HW.out x0 x1 x2 x3 ((hx.cell (p := ⟨w.heap.size, 0, none⟩) hs1).trans HX1.out) ((hx.cell (p := ⟨w.heap.size + 1, 0, none⟩) hs2).trans HX2.out)))
        have hq : (b.all fun r => !matchB t f m r) = lonely b t f m := rfl
        cases hl : lonely b t f m
        · have HN := Lib.hid (onlyAt_miss HM.out hl)
          rw [hl] at hq
          rw [hq] at HP
          clear hq hl
          go_wp2_with (go_at_call 69; (with_reducible refine (HP.out).mono ?_); rintro e w2 ⟨rfl, hb2⟩)
          go_roundw
          case rel => exact ⟨k + 1, D, A', c', by omega, by go_num, rfl, by omega, Lib.hid (by rw [HN.out]; exact HD.out), bstep (balloc hbr _) hb2, own_below (HO.out.alloc _) hb2⟩
          case measure => simp [intOf]; omega
        · have HN := Lib.hid (onlyAt_hit HM.out hl)
          rw [hl] at hq
          rw [hq] at HP
          clear hq hl
          go_wp2_with (first | (go_at_call 69; (with_reducible refine (HP.out).mono ?_); rintro e w2 ⟨rfl, hb2⟩; have HO1 := Lib.hid (own_below (HO.out.alloc _) hb2)) | (at_builtin; refine wpList_app rfl _ _ 54 3 1 8 _ rfl Try.underlying54 infoI rfl (by decide) w1.heap.size _ D.length _ (by rfl) (HO1.out.alloc _) _ _ (by rfl) (heap_new1 _ _) rfl (encI_one (k : Int)) (by omega) (by decide) (by have := hb2.size; simp at this ⊢; omega) ?_; intro g5 c5 w5 ho5 hg5 hl5))
          go_roundw
          case rel => exact ⟨k + 1, D ++ [(k : Int)], some ⟨g5, 0, none⟩, c5, by omega, by go_num, by simp, by simp; omega, Lib.hid (by rw [HN.out, ← HD.out]), bgrown (balloc (bstep (balloc hbr _) hb2) _) hg5 (fun k hk => row_mine HO.out k hk), by simpa [encI] using ho5⟩
          case measure => simp [intOf]; omega
      · obtain rfl : k = a.length := by omega
        have HF := Lib.hid (show onlyL a b t f = D by rw [HE.out, HD.out])
        clear hmf
        go_wp2
        go_ret2
        refine ⟨A', c', ?_, ?_, bstep b1 hbr⟩
        · rw [HF.out]; rfl
        · rw [HF.out]; exact own_base HO.out (by omega)

theorem lonely_take {b : List Qu} {t f : Int} {q m : Qu} {j : Nat} (hm : b[j]? = some m) : lonely (b.take (j + 1)) t f q = (lonely (b.take j) t f q && !matchB t f q m) := by
  unfold lonely
  rw [List.take_add_one, hm]
  simp [List.all_append]

set_option maxRecDepth 100000 in
set_option maxHeartbeats 4000000 in
theorem sOnly_any (a b : List Qu) (A B : Option Addr) (ca cb : Nat) (t f : Int) (w : World) (ha : RowAt 4 encQu w A a) (hb : RowAt 4 encQu w B b) (hla : a.length ≤ 2097152) (hlb : b.length ≤ 2097152) :
    Calls Try.prog 39 #[.slice A a.length ca, .slice B b.length cb, .int .i64 t, .int .i64 f] w (MkS2 3 1 (onlyL a b t f).length ((onlyL a b t f).flatMap encI) (bothB a b t f) w) := by
  have HA := Lib.hid ha
  have HB := Lib.hid hb
  clear ha hb
  cases hg : bothB a b t f
  · have HE := Lib.hid (show onlyL a b t f = [] by simp [onlyL, hg])
    go_enter Try.func39, Try.ntmps39
    go_wp2_with (go_at_call 66; (with_reducible refine (sBoth_any a b _ _ _ _ t f _ (HA.out.below (balloc (bref _) _)) (HB.out.below (balloc (bref _) _)) hla hlb).mono ?_); rw [hg]; rintro e w1 ⟨rfl, hb1⟩)
    go_ret2
    rw [HE.out]
    exact ⟨some ⟨w.heap.size, 0, none⟩, 0, rfl, own_below (own_made (cur := #[]) rfl (Nat.zero_le _)) hb1, bstep (balloc (bref _) _) hb1⟩
  · obtain ⟨hga, hgb, hw⟩ := bothB_true hg
    have HE := Lib.hid (show onlyL a b t f = onlyAt a b t f a.length by simp [onlyL, hg])
    have HGA := Lib.hid (goodQu_all hga)
    have HGB := Lib.hid (goodQu_all hgb)
    have HW := Lib.hid hw
    clear hga hgb hw
    go_enter Try.func39, Try.ntmps39
    go_wp2_with (go_at_call 66; (with_reducible refine (sBoth_any a b _ _ _ _ t f _ (HA.out.below (balloc (bref _) _)) (HB.out.below (balloc (bref _) _)) hla hlb).mono ?_); rw [hg]; rintro e w1 ⟨rfl, hb1⟩)
    have b1 := bstep (balloc (bref w) _) hb1
    have HO0 := Lib.hid (own_below (own_made (E := 3) (K := 1) (n := 0) (cur := #[]) (w := w) rfl (Nat.zero_le _)) hb1)
    clear hb1 hg
    go_loopw [10, 11] (fun v i wr => ∃ (k : Nat) (D : List Int) (A' : Option Addr) (c' : Nat), k ≤ a.length ∧ i = .int .i64 k ∧ v = .slice A' D.length c' ∧ D.length ≤ k ∧ Hid (D = onlyAt a b t f k) ∧ Below w.heap.size w wr ∧ wr.ownsRow w.heap.size 3 1 (.slice A' D.length c') D.length (D.flatMap encI)) (fun _ i _ => a.length - (intOf i).toNat)
    case atStart => exact ⟨0, [], some ⟨w.heap.size, 0, none⟩, 0, Nat.zero_le _, rfl, rfl, Nat.le_refl _, rfl, b1, HO0.out⟩
    case round =>
      obtain ⟨k, D, A', c', hk, rfl, rfl, hDl, HD, hbr, hown⟩ := hrel
      have HO := Lib.hid hown
      clear hown
      by_cases hlt : k < a.length
      · obtain ⟨m, hm⟩ := some_get hlt
        have i0 := ib0 k
        have i1 := ib1 hlt
        obtain ⟨ba, oa, rfl, _, _⟩ := (HA.out.below hbr).qu hm
        have HM := Lib.hid hm
        clear hm
        obtain ⟨wo, rfl⟩ : ∃ wo : World, wo = wr := ⟨_, rfl⟩
        go_wp2_with fail
        go_loopw [12, 13] (fun sv i wr => ∃ (j : Nat) (S : Bool), j ≤ b.length ∧ i = .int .i64 j ∧ sv = .bool S ∧ Hid (S = !lonely (b.take j) t f m) ∧ Below wo.heap.size wo wr) (fun _ i _ => b.length - (intOf i).toNat)
        case atStart => exact ⟨0, false, Nat.zero_le _, rfl, rfl, Lib.hid (by simp [lonely]), bref _⟩
        case round =>
          obtain ⟨j, S, hj, rfl, rfl, HS, hbr2⟩ := hrel
          have hb3 := bstep hbr hbr2
          by_cases hjl : j < b.length
          · obtain ⟨g, hgj⟩ := some_get hjl
            have j0 := ib0 j
            have j1 := ib1 hjl
            have HL := Lib.hid (lonely_take (t := t) (f := f) (q := m) hgj)
            obtain ⟨ba', oa', e, hba, q0, q1, q2, q3⟩ := (HA.out.below hb3).qu HM.out
            cases e
            obtain ⟨bb, ob, rfl, hbb, r0, r1, r2, r3⟩ := (HB.out.below hb3).qu hgj
            have HC := Lib.hid (fun W => l16Match_any m g t f W (HGA.out m (List.mem_of_getElem? HM.out)) (HGB.out g (List.mem_of_getElem? hgj)) HW.out)
            clear hgj
            cases S
            · go_wp2_with fail
              (refine wp_region_calm (by kernel_rfl) (by kernel_rfl) ?_; (repeat (go_big_quiet_step (((go_at_call 60; exact calm_of (HC.out _)))))); refine wpQuiet_nil ?_; intro xw; have hb4 := xw.is; generalize xw.w = w4 at hb4 ⊢; clear xw)
              go_wp2
              go_roundw
              case rel => exact ⟨j + 1, matchB t f m g, by omega, by go_num, rfl, Lib.hid (by rw [HL.out]; have := HS.out; simp at this; simp [this]), bstep hbr2 hb4⟩
              case measure => simp [intOf]; omega
            · go_wp2_with fail
              (refine wp_region_calm (by kernel_rfl) (by kernel_rfl) ?_; (repeat (go_big_quiet_step ((fail)))); refine wpQuiet_nil ?_; intro xw; have hb4 := xw.is; generalize xw.w = w4 at hb4 ⊢; clear xw)
              go_wp2
              go_roundw
              case rel => exact ⟨j + 1, true, by omega, by go_num, rfl, Lib.hid (by rw [HL.out]; have := HS.out; simp at this; simp [this]), bstep hbr2 hb4⟩
              case measure => simp [intOf]; omega
          · obtain rfl : j = b.length := by omega
            have HC := Lib.hid (show lonely b t f m = !S by rw [HS.out, List.take_length]; simp)
            have HO3 := Lib.hid (own_below HO.out hbr2)
            have hsz := hb3.size
            clear HS
            cases S
            · have HN2 := Lib.hid (onlyAt_hit HM.out HC.out)
              go_wp2_with (at_builtin; refine wpList_app rfl _ _ 54 3 1 8 _ rfl Try.underlying54 infoI rfl (by decide) w.heap.size _ D.length _ (by rfl) (HO3.out.alloc _) _ _ (by rfl) (heap_new1 _ _) rfl (encI_one (k : Int)) (by omega) (by decide) (by simp; omega) ?_; intro g5 c5 w5 ho5 hg5 hl5)
              go_roundw
              case rel => exact ⟨k + 1, D ++ [(k : Int)], some ⟨g5, 0, none⟩, c5, by omega, by go_num, by simp, by simp; omega, Lib.hid (by rw [HN2.out, ← HD.out]), bgrown (balloc hb3 _) hg5 (fun k hk => row_mine HO.out k hk), by simpa [encI] using ho5⟩
              case measure => simp [intOf]; omega
            · have HN2 := Lib.hid (onlyAt_miss HM.out HC.out)
              go_wp2
              go_roundw
              case rel => exact ⟨k + 1, D, A', c', by omega, by go_num, rfl, by omega, Lib.hid (by rw [HN2.out]; exact HD.out), hb3, HO3.out⟩
              case measure => simp [intOf]; omega
      · obtain rfl : k = a.length := by omega
        have HF := Lib.hid (show onlyL a b t f = D by rw [HE.out, HD.out])
        go_wp2
        go_ret2
        refine ⟨A', c', ?_, ?_, hbr⟩
        · rw [HF.out]; rfl
        · rw [HF.out]; exact HO.out
end Go.Proofs.Ytlinjkfbcekepaa
