/-
  All pairs that match.
-/
import Derived.Test.YtlinjkfbcekepaaQuBoth
import Derived.Test.YtlinjkfbcekepaaP20
import Derived.Test.YtlinjkfbcekepaaKit
namespace Go.Proofs.Ytlinjkfbcekepaa
set_option linter.unusedVariables false
set_option linter.unusedSimpArgs false
set_option linter.unnecessarySimpa false
open Go.RowKit
attribute [local go_sem] ext_cell ext_frozen

def matR (b : List Qu) (t f : Int) (i : Nat) (q : Qu) (j : Nat) : List P2 := ((List.range j).filter fun k => match b[k]? with | none => false | some r => matchB t f q r).map fun (k : Nat) => ⟨(i : Int), (k : Int)⟩
def matAt (a b : List Qu) (t f : Int) : Nat → List P2
  | 0 => []
  | k + 1 => matAt a b t f k ++ match a[k]? with | none => [] | some q => matR b t f k q b.length
theorem matR_hit {b : List Qu} {t f : Int} {i : Nat} {q r : Qu} {j : Nat} (hr : b[j]? = some r) (h : matchB t f q r = true) : matR b t f i q (j + 1) = matR b t f i q j ++ [⟨(i : Int), (j : Int)⟩] := by
  unfold matR
  rw [List.range_succ, List.filter_append]
  simp [hr, h]
theorem matR_miss {b : List Qu} {t f : Int} {i : Nat} {q r : Qu} {j : Nat} (hr : b[j]? = some r) (h : matchB t f q r = false) : matR b t f i q (j + 1) = matR b t f i q j := by
  unfold matR
  rw [List.range_succ, List.filter_append]
  simp [hr, h]
theorem matR_le (b : List Qu) (t f : Int) (i : Nat) (q : Qu) (j : Nat) : (matR b t f i q j).length ≤ j := by
  unfold matR
  simpa using List.length_filter_le _ (List.range j)
theorem matAt_le (a b : List Qu) (t f : Int) : ∀ k, (matAt a b t f k).length ≤ k * b.length
  | 0 => by simp [matAt]
  | k + 1 => by
    have h := matAt_le a b t f k
    simp only [matAt, List.length_append, Nat.add_mul]
    split
    · simp; omega
    · have := matR_le b t f k (by assumption) b.length
      omega
def matL (a b : List Qu) (t f : Int) : List P2 := if bothB a b t f then matAt a b t f a.length else []
theorem matL_le (a b : List Qu) (t f : Int) : (matL a b t f).length ≤ 100 := by
  unfold matL
  split
  · rename_i h
    obtain ⟨h1, h2, _⟩ := bothB_true h
    have := matAt_le a b t f a.length
    have h3 := Nat.mul_le_mul (goodQu_len h1) (goodQu_len h2)
    omega
  · simp

set_option maxRecDepth 100000 in
set_option maxHeartbeats 4000000 in
theorem iMat_any (a b : List Qu) (A B : Option Addr) (ca cb : Nat) (t f : Int) (w : World) (ha : RowAt 4 encQu w A a) (hb : RowAt 4 encQu w B b) (hla : a.length ≤ 2097152) (hlb : b.length ≤ 2097152) :
    Calls Try.prog 25 #[.slice A a.length ca, .slice B b.length cb, .int .i64 t, .int .i64 f] w (MkS2 66 2 (matL a b t f).length ((matL a b t f).flatMap encP2) (bothB a b t f) w) := by
  have HA := Lib.hid ha
  have HB := Lib.hid hb
  clear ha hb
  cases hg : bothB a b t f
  · have HE := Lib.hid (show matL a b t f = [] by simp [matL, hg])
    go_enter Try.func25, Try.ntmps25
    go_wp2_with (go_at_call 64; (with_reducible refine (iBoth_any a b _ _ _ _ t f _ (HA.out.below (bref _)) (HB.out.below (bref _)) hla hlb).mono ?_); rw [hg]; rintro e w1 ⟨rfl, hb1⟩)
    go_ret2
    rw [HE.out]
    exact ⟨none, 0, rfl, World.ownsRow_nil _ _ _ _, hb1⟩
  · obtain ⟨hga, hgb, hw⟩ := bothB_true hg
    have HE := Lib.hid (show matL a b t f = matAt a b t f a.length by simp [matL, hg])
    have HGA := Lib.hid (goodQu_all hga)
    have HGB := Lib.hid (goodQu_all hgb)
    have HW := Lib.hid hw
    have ha10 := goodQu_len hga
    have hb10 := goodQu_len hgb
    clear hga hgb hw
    go_enter Try.func25, Try.ntmps25
    go_wp2_with (go_at_call 64; (with_reducible refine (iBoth_any a b _ _ _ _ t f _ (HA.out.below (bref _)) (HB.out.below (bref _)) hla hlb).mono ?_); rw [hg]; rintro e w1 ⟨rfl, hb1⟩)
    have b1 := balloc hb1 (.cells #[] 66)
    have HO0 := Lib.hid (own_base (own_made (E := 66) (K := 2) (n := 0) (cur := #[]) (w := w1) rfl (Nat.zero_le _)) hb1.size)
    clear hb1 hg
    go_loopw [10, 22] (fun v i wr => ∃ (k : Nat) (D : List P2) (A' : Option Addr) (c' : Nat), k ≤ a.length ∧ i = .int .i64 k ∧ v = .slice A' D.length c' ∧ D.length ≤ k * 10 ∧ Hid (D = matAt a b t f k) ∧ Below w.heap.size w wr ∧ wr.ownsRow w.heap.size 66 2 (.slice A' D.length c') D.length (D.flatMap encP2)) (fun _ i _ => a.length - (intOf i).toNat)
    case atStart => exact ⟨0, [], some ⟨w1.heap.size, 0, none⟩, 0, Nat.zero_le _, rfl, rfl, Nat.le_refl _, rfl, b1, HO0.out⟩
    case round =>
      obtain ⟨k, D, A', c', hk, rfl, rfl, hDl, HD, hbr, hown⟩ := hrel
      have HO := Lib.hid hown
      clear hown
      by_cases hlt : k < a.length
      · obtain ⟨m, hm⟩ := some_get hlt
        have i0 := ib0 k
        have i1 := ib1 hlt
        obtain ⟨ba, oa, rfl, _, _⟩ := (HA.out.below hbr).qu hm
        have HM := Lib.hid hm
        have HN := Lib.hid (show matAt a b t f (k + 1) = D ++ matR b t f k m b.length by rw [HD.out]; simp [matAt, hm])
        clear hm
        obtain ⟨wo, rfl⟩ : ∃ wo : World, wo = wr := ⟨_, rfl⟩
        go_wp2_with fail
        go_loopw [10, 27] (fun v i wr => ∃ (j : Nat) (R : List P2) (A2 : Option Addr) (c2 : Nat), j ≤ b.length ∧ i = .int .i64 j ∧ v = .slice A2 R.length c2 ∧ R.length ≤ D.length + j ∧ Hid (R = D ++ matR b t f k m j) ∧ Below w.heap.size w wr ∧ wr.ownsRow w.heap.size 66 2 (.slice A2 R.length c2) R.length (R.flatMap encP2)) (fun _ i _ => b.length - (intOf i).toNat)
        case atStart => exact ⟨0, D, A', c', Nat.zero_le _, rfl, rfl, Nat.le_refl _, Lib.hid (by simp [matR]), hbr, HO.out⟩
        case round =>
          obtain ⟨j, R, A2, c2, hj, rfl, rfl, hRl, HR, hb3, hown2⟩ := hrel
          have HO2 := Lib.hid hown2
          have hsz := hb3.size
          clear hown2
          by_cases hjl : j < b.length
          · obtain ⟨g, hgj⟩ := some_get hjl
            have j0 := ib0 j
            have j1 := ib1 hjl
            obtain ⟨ba', oa', e, hba, q0, q1, q2, q3⟩ := (HA.out.below hb3).qu HM.out
            cases e
            obtain ⟨bb, ob, rfl, hbb, r0, r1, r2, r3⟩ := (HB.out.below hb3).qu hgj
            have HG := Lib.hid hgj
            have hc := fun W => match_any m g t f W (HGA.out m (List.mem_of_getElem? HM.out)) (HGB.out g (List.mem_of_getElem? HG.out)) HW.out
            clear hgj
            cases hmt : matchB t f m g
            · rw [hmt] at hc
              have HC := Lib.hid hc
              have HX := Lib.hid (matR_miss (i := k) HG.out hmt)
              clear hmt hc
              go_wp2_with fail
              (refine wp_region_calm (by kernel_rfl) (by kernel_rfl) ?_; (repeat (go_big_quiet_step (((go_at_call 63; exact calm_of (HC.out _)))))); refine wpQuiet_nil ?_; intro xw; have hb4 := xw.is; generalize xw.w = w4 at hb4 ⊢; clear xw)
              go_wp2
              go_roundw
              case rel => exact ⟨j + 1, R, A2, c2, by omega, by go_num, rfl, by omega, Lib.hid (by rw [HX.out]; exact HR.out), bstep hb3 hb4, own_below HO2.out hb4⟩
              case measure => simp [intOf]; omega
            · rw [hmt] at hc
              have HC := Lib.hid hc
              have HX := Lib.hid (matR_hit (i := k) HG.out hmt)
              clear hmt hc
              go_wp2_with fail
              (refine wp_region_calm (by kernel_rfl) (by kernel_rfl) ?_; (repeat (go_big_quiet_step (((go_at_call 63; exact calm_of (HC.out _)))))); refine wpQuiet_nil ?_; intro xw; have hb4 := xw.is; generalize xw.w = w4 at hb4 ⊢; clear xw)
              have HO4 := Lib.hid (own_below HO2.out hb4)
              have hs4 := hb4.size
              go_wp2_with (at_builtin; refine wpList_app rfl _ _ 34 66 2 16 _ rfl Try.underlying34 infoP2 rfl (by decide) w.heap.size _ R.length _ (by rfl) (HO4.out.alloc _) _ _ (by rfl) (heap_new1 _ _) rfl (encP2_one ⟨(k : Int), (j : Int)⟩) (by omega) (by decide) (by simp; omega) ?_; intro g5 c5 w5 ho5 hg5 hl5)
              go_roundw
              case rel => exact ⟨j + 1, R ++ [⟨(k : Int), (j : Int)⟩], some ⟨g5, 0, none⟩, c5, by omega, by go_num, by simp, by simp; omega, Lib.hid (by rw [HX.out, HR.out, List.append_assoc]), bgrown (balloc (bstep hb3 hb4) _) hg5 (fun k hk => row_mine HO2.out k hk), by simpa [encP2] using ho5⟩
              case measure => simp [intOf]; omega
          · obtain rfl : j = b.length := by omega
            go_wp2
            go_roundw
            case rel => exact ⟨k + 1, R, A2, c2, by omega, by go_num, rfl, by omega, Lib.hid (by rw [HN.out]; exact HR.out), hb3, HO2.out⟩
            case measure => simp [intOf]; omega
      · obtain rfl : k = a.length := by omega
        have HF := Lib.hid (show matL a b t f = D by rw [HE.out, HD.out])
        go_wp2
        go_ret2
        refine ⟨A', c', ?_, ?_, hbr⟩
        · rw [HF.out]; rfl
        · rw [HF.out]; exact HO.out
set_option maxRecDepth 100000 in
set_option maxHeartbeats 4000000 in
theorem sMat_any (a b : List Qu) (A B : Option Addr) (ca cb : Nat) (t f : Int) (w : World) (ha : RowAt 4 encQu w A a) (hb : RowAt 4 encQu w B b) (hla : a.length ≤ 2097152) (hlb : b.length ≤ 2097152) :
    Calls Try.prog 30 #[.slice A a.length ca, .slice B b.length cb, .int .i64 t, .int .i64 f] w (MkS2 66 2 (matL a b t f).length ((matL a b t f).flatMap encP2) (bothB a b t f) w) := by
  have HA := Lib.hid ha
  have HB := Lib.hid hb
  clear ha hb
  cases hg : bothB a b t f
  · have HE := Lib.hid (show matL a b t f = [] by simp [matL, hg])
    go_enter Try.func30, Try.ntmps30
    go_wp2_with (go_at_call 66; (with_reducible refine (sBoth_any a b _ _ _ _ t f _ (HA.out.below (balloc (bref _) _)) (HB.out.below (balloc (bref _) _)) hla hlb).mono ?_); rw [hg]; rintro e w1 ⟨rfl, hb1⟩)
    go_ret2
    rw [HE.out]
    exact ⟨some ⟨w.heap.size, 0, none⟩, 0, rfl, own_below (own_made (cur := #[]) rfl (Nat.zero_le _)) hb1, bstep (balloc (bref _) _) hb1⟩
  · obtain ⟨hga, hgb, hw⟩ := bothB_true hg
    have HE := Lib.hid (show matL a b t f = matAt a b t f a.length by simp [matL, hg])
    have HGA := Lib.hid (goodQu_all hga)
    have HGB := Lib.hid (goodQu_all hgb)
    have HW := Lib.hid hw
    have ha10 := goodQu_len hga
    have hb10 := goodQu_len hgb
    clear hga hgb hw
    go_enter Try.func30, Try.ntmps30
    go_wp2_with (go_at_call 66; (with_reducible refine (sBoth_any a b _ _ _ _ t f _ (HA.out.below (balloc (bref _) _)) (HB.out.below (balloc (bref _) _)) hla hlb).mono ?_); rw [hg]; rintro e w1 ⟨rfl, hb1⟩)
    have b1 := bstep (balloc (bref w) _) hb1
    have HO0 := Lib.hid (own_below (own_made (E := 66) (K := 2) (n := 0) (cur := #[]) (w := w) rfl (Nat.zero_le _)) hb1)
    clear hb1 hg
    go_loopw [10, 11] (fun v i wr => ∃ (k : Nat) (D : List P2) (A' : Option Addr) (c' : Nat), k ≤ a.length ∧ i = .int .i64 k ∧ v = .slice A' D.length c' ∧ D.length ≤ k * 10 ∧ Hid (D = matAt a b t f k) ∧ Below w.heap.size w wr ∧ wr.ownsRow w.heap.size 66 2 (.slice A' D.length c') D.length (D.flatMap encP2)) (fun _ i _ => a.length - (intOf i).toNat)
    case atStart => exact ⟨0, [], some ⟨w.heap.size, 0, none⟩, 0, Nat.zero_le _, rfl, rfl, Nat.le_refl _, rfl, b1, HO0.out⟩
    case round =>
      obtain ⟨k, D, A', c', hk, rfl, rfl, hDl, HD, hbr, hown⟩ := hrel
      have HO := Lib.hid hown
      clear hown
      by_cases hlt : k < a.length
      · obtain ⟨m, hm⟩ := some_get hlt
        have i0 := ib0 k
        have i1 := ib1 hlt
        obtain ⟨ba, oa, rfl, _, _⟩ := (HA.out.below hbr).qu hm
        have HM := Lib.hid hm
        have HN := Lib.hid (show matAt a b t f (k + 1) = D ++ matR b t f k m b.length by rw [HD.out]; simp [matAt, hm])
        clear hm
        obtain ⟨wo, rfl⟩ : ∃ wo : World, wo = wr := ⟨_, rfl⟩
        go_wp2_with fail
        go_loopw [10, 12] (fun v i wr => ∃ (j : Nat) (R : List P2) (A2 : Option Addr) (c2 : Nat), j ≤ b.length ∧ i = .int .i64 j ∧ v = .slice A2 R.length c2 ∧ R.length ≤ D.length + j ∧ Hid (R = D ++ matR b t f k m j) ∧ Below w.heap.size w wr ∧ wr.ownsRow w.heap.size 66 2 (.slice A2 R.length c2) R.length (R.flatMap encP2)) (fun _ i _ => b.length - (intOf i).toNat)
        case atStart => exact ⟨0, D, A', c', Nat.zero_le _, rfl, rfl, Nat.le_refl _, Lib.hid (by simp [matR]), hbr, HO.out⟩
        case round =>
          obtain ⟨j, R, A2, c2, hj, rfl, rfl, hRl, HR, hb3, hown2⟩ := hrel
          have HO2 := Lib.hid hown2
          have hsz := hb3.size
          clear hown2
          by_cases hjl : j < b.length
          · obtain ⟨g, hgj⟩ := some_get hjl
            have j0 := ib0 j
            have j1 := ib1 hjl
            obtain ⟨ba', oa', e, hba, q0, q1, q2, q3⟩ := (HA.out.below hb3).qu HM.out
            cases e
            obtain ⟨bb, ob, rfl, hbb, r0, r1, r2, r3⟩ := (HB.out.below hb3).qu hgj
            have HG := Lib.hid hgj
            have hc := fun W => l16Match_any m g t f W (HGA.out m (List.mem_of_getElem? HM.out)) (HGB.out g (List.mem_of_getElem? HG.out)) HW.out
            clear hgj
            cases hmt : matchB t f m g
            · rw [hmt] at hc
              have HC := Lib.hid hc
              have HX := Lib.hid (matR_miss (i := k) HG.out hmt)
              clear hmt hc
              go_wp2_with fail
              (refine wp_region_calm (by kernel_rfl) (by kernel_rfl) ?_; (repeat (go_big_quiet_step (((go_at_call 60; exact calm_of (HC.out _)))))); refine wpQuiet_nil ?_; intro xw; have hb4 := xw.is; generalize xw.w = w4 at hb4 ⊢; clear xw)
              go_wp2
              go_roundw
              case rel => exact ⟨j + 1, R, A2, c2, by omega, by go_num, rfl, by omega, Lib.hid (by rw [HX.out]; exact HR.out), bstep hb3 hb4, own_below HO2.out hb4⟩
              case measure => simp [intOf]; omega
            · rw [hmt] at hc
              have HC := Lib.hid hc
              have HX := Lib.hid (matR_hit (i := k) HG.out hmt)
              clear hmt hc
              go_wp2_with fail
              (refine wp_region_calm (by kernel_rfl) (by kernel_rfl) ?_; (repeat (go_big_quiet_step (((go_at_call 60; exact calm_of (HC.out _)))))); refine wpQuiet_nil ?_; intro xw; have hb4 := xw.is; generalize xw.w = w4 at hb4 ⊢; clear xw)
              have HO4 := Lib.hid (own_below HO2.out hb4)
              have hs4 := hb4.size
              go_wp2_with (at_builtin; refine wpList_app rfl _ _ 34 66 2 16 _ rfl Try.underlying34 infoP2 rfl (by decide) w.heap.size _ R.length _ (by rfl) (HO4.out.alloc _) _ _ (by rfl) (heap_new1 _ _) rfl (encP2_one ⟨(k : Int), (j : Int)⟩) (by omega) (by decide) (by simp; omega) ?_; intro g5 c5 w5 ho5 hg5 hl5)
              go_roundw
              case rel => exact ⟨j + 1, R ++ [⟨(k : Int), (j : Int)⟩], some ⟨g5, 0, none⟩, c5, by omega, by go_num, by simp, by simp; omega, Lib.hid (by rw [HX.out, HR.out, List.append_assoc]), bgrown (balloc (bstep hb3 hb4) _) hg5 (fun k hk => row_mine HO2.out k hk), by simpa [encP2] using ho5⟩
              case measure => simp [intOf]; omega
          · obtain rfl : j = b.length := by omega
            go_wp2
            go_roundw
            case rel => exact ⟨k + 1, R, A2, c2, by omega, by go_num, rfl, by omega, Lib.hid (by rw [HN.out]; exact HR.out), hb3, HO2.out⟩
            case measure => simp [intOf]; omega
      · obtain rfl : k = a.length := by omega
        have HF := Lib.hid (show matL a b t f = D by rw [HE.out, HD.out])
        go_wp2
        go_ret2
        refine ⟨A', c', ?_, ?_, hbr⟩
        · rw [HF.out]; rfl
        · rw [HF.out]; exact HO.out
end Go.Proofs.Ytlinjkfbcekepaa
