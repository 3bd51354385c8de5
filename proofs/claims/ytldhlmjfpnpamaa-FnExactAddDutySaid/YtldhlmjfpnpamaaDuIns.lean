/-
  spec.l17Put: a list with a duty in its place.
-/
import Derived.Test.YtldhlmjfpnpamaaDuSort
import Derived.Test.YtldhlmjfpnpamaaDuHours
import Derived.Test.YtldhlmjfpnpamaaKit
import Derived.Test.YtldhlmjfpnpamaaApp
import Derived.Deep.RegionHeld3
namespace Go.Proofs.Ytldhlmjfpnpamaa
open Go.RowKit
attribute [local go_sem] ext_cell ext_frozen

theorem cell4D {w W : World} {b : Nat} {x0 x1 x2 x3 : Value} (hb : b < w.heap.size) (h : w.cell? ⟨b, 0, none⟩ = some x0 ∧ w.cell? ⟨b, 1, none⟩ = some x1 ∧ w.cell? ⟨b, 2, none⟩ = some x2 ∧ w.cell? ⟨b, 3, none⟩ = some x3) (hW : Below w.heap.size w W) :
    W.cell? ⟨b, 0, none⟩ = some x0 ∧ W.cell? ⟨b, 1, none⟩ = some x1 ∧ W.cell? ⟨b, 2, none⟩ = some x2 ∧ W.cell? ⟨b, 3, none⟩ = some x3 :=
  ⟨(hW.cell (p := ⟨b, 0, none⟩) hb).trans h.1, (hW.cell (p := ⟨b, 1, none⟩) hb).trans h.2.1, (hW.cell (p := ⟨b, 2, none⟩) hb).trans h.2.2.1, (hW.cell (p := ⟨b, 3, none⟩) hb).trans h.2.2.2⟩
theorem own_some {w' : World} {base E K n c g0 q : Nat} {A : Option Addr} {xs : List Value} (h : w'.ownsRow base E K (.slice A n c) n xs) (hl : some g0 = (Value.slice A n c).ownBlock ∨ some q = (Value.slice A n c).ownBlock) : ∃ g, A = some ⟨g, 0, none⟩ := by
  rcases own_form h with ⟨rfl, _, _⟩ | ⟨g, rfl⟩
  · simp [Value.ownBlock] at hl
  · exact ⟨g, rfl⟩
def AF (A : Option Addr) (n c : Nat) : Prop := (A = none ∧ n = 0 ∧ c = 0) ∨ ∃ b off, A = some ⟨b, off, none⟩
theorem af_own {w : World} {base E K n c : Nat} {A : Option Addr} {xs : List Value} (h : w.ownsRow base E K (.slice A n c) n xs) : AF A n c := by
  rcases own_form h with h | ⟨g, rfl⟩
  · exact .inl h
  · exact .inr ⟨g, 0, rfl⟩
set_option maxRecDepth 100000 in
set_option maxHeartbeats 4000000 in
theorem l17Put_any (l : List Du) (q : Du) (A : Option Addr) (c : Nat) (w : World) (hr : RowAt 4 encDu w A l) (haf : AF A l.length c) (hcap : l.length ≤ c) (hlen : l.length ≤ 2097152) :
    Calls Try.prog 67 #[.slice A l.length c, .agg #[.int .i64 q.who, .int .i64 q.bg, .int .i64 q.en, .bool q.ch]] w (MkS 25 4 (putD q l).length ((putD q l).flatMap encDu) w) := by
  have HR0 := Lib.hid hr
  have HAF := Lib.hid haf
  have HB0 := Lib.hid (box4 w 25 (.int .i64 q.who) (.int .i64 q.bg) (.int .i64 q.en) (.bool q.ch))
  clear hr haf
  go_enter Try.func67, Try.ntmps67
  go_wp2_with fail
  go_loopw [5] (fun i wr => ∃ k : Nat, k ≤ l.length ∧ i = .int .i64 k ∧ Hid (∀ i, i < k → ∀ y, l[i]? = some y → ltDu y q = true) ∧ Below (w.alloc (.cells #[.int .i64 q.who, .int .i64 q.bg, .int .i64 q.en, .bool q.ch] 25)).heap.size (w.alloc (.cells #[.int .i64 q.who, .int .i64 q.bg, .int .i64 q.en, .bool q.ch] 25)) wr) (fun i _ => l.length - (intOf i).toNat)
  case atStart => exact ⟨0, Nat.zero_le _, rfl, Lib.hid (fun i h => absurd h (by omega)), bref _⟩
  case round =>
    obtain ⟨k, hk, rfl, HU, hbr⟩ := hrel
    have i0 := ib0 k
    have hbw := bstep (balloc (bref w) _) hbr
    have hs := hbr.size
    simp only [World.size_alloc] at hs
    have s1 : w.heap.size < wr.heap.size := by omega
    obtain ⟨x0, x1, x2, x3⟩ := cell4D (by simp) HB0.out hbr
    by_cases hlt : k < l.length
    · obtain ⟨m, hm⟩ := some_get hlt
      have i1 := ib1 hlt
      obtain ⟨b, off, rfl, hb, q0, q1, q2, q3⟩ := (HR0.out.below hbw).du hm
      have HM := Lib.hid hm
      clear hm
      cases f1 : decide (m.bg < q.bg)
      · cases f2 : (m.bg == q.bg)
        · have h2 : ltDu m q = false := Bool.eq_false_iff.2 fun h => by
            rw [ltDu_iff] at h
            simp at f1 f2
            omega
          have HF := Lib.hid (putD_mid HM.out HU.out h2)
          clear h2
          go_wp2_with fail
          (refine wp_region_calm (by kernel_rfl) (by kernel_rfl) ?_; (repeat (go_big_quiet_step ((fail)))); refine wpQuiet_nil ?_; intro xw; have hb1 := xw.is; generalize xw.w = v1 at hb1 ⊢; clear xw)
          have hbw1 := bstep hbw hb1
          have k1 : (k : Int) ≤ (c : Int) := by omega
          have k2 : (k : Int) ≤ (l.length : Int) := by omega
          have k3 : (l.length : Int) ≤ (c : Int) := by omega
          have k4 : ¬ c = k := by omega
          have HS2 := Lib.hid (Nat.lt_of_lt_of_le s1 hb1.size)
          have HX2 := Lib.hid (cell4D (by simp) HB0.out (bstep hbr hb1))
          have HR := Lib.hid (HR0.out.below hbw1)
          have HK := Lib.hid (show ((l.take k).flatMap encDu).length = k * 4 by rw [flat_len encDu_len, List.length_take, Nat.min_eq_left hk])
          have HN := Lib.hid (show k + 1 + (l.length - k) = (putD q l).length by rw [HF.out]; simp; omega)
          have HY := Lib.hid (show (l.take k).flatMap encDu ++ encDu q ++ (l.drop k).flatMap encDu = (putD q l).flatMap encDu by rw [HF.out]; simp)
          have HK2 := Lib.hid (show ((l.drop k).flatMap encDu).length = (l.length - k) * 4 by rw [flat_len encDu_len, List.length_drop])
          have hNl : (putD q l).length ≤ 4194304 := by have := putD_len q l; omega
          clear q0 q1 q2 q3 x0 x1 x2 x3 f1 f2
          go_wp2_with fail
          go_region_held3 (fun w' => w'.cell? ⟨w.heap.size, 0, none⟩ = some (.int .i64 q.who) ∧ w'.cell? ⟨w.heap.size, 1, none⟩ = some (.int .i64 q.bg) ∧ w'.cell? ⟨w.heap.size, 2, none⟩ = some (.int .i64 q.en) ∧ w'.cell? ⟨w.heap.size, 3, none⟩ = some (.bool q.ch)) (exact cell4D HS2.out HX2.out (by repeat (first | exact bref _ | exact hbI1 | exact hbI2 | exact hbI3 | (refine balloc ?_ _) | (refine bdrew ?_) | (refine bdrewN ?_ _)))) (first
            | ((refine step_appS (by rfl) (.tmp 42) (.tmp 45) 31 25 4 32 _ (by rfl) Try.underlying31 infoDu rfl (by decide) v1.heap.size _ 0 [] (by rfl) (own_empty (by first | exact heap_new1 _ _ | exact heap_new2 _ _ _ | exact heap_old2 _ _ _) (by first | exact Nat.le_refl _ | (simp; done))) _ _ _ ((l.take k).flatMap encDu) (by rfl) HK.out ((RowAt.below (HR.out.takeR k) (by repeat (first | exact bref _ | exact hbI1 | exact hbI2 | exact hbI3 | (refine balloc ?_ _) | (refine bdrew ?_) | (refine bdrewN ?_ _)))).news encDu_len) (cellsDu_one _) k (Nat.zero_add _) _ (List.nil_append _) (by omega) (by decide) (Below.size (B := v1.heap.size) (by repeat (first | exact bref _ | exact hbI1 | exact hbI2 | exact hbI3 | (refine balloc ?_ _) | (refine bdrew ?_) | (refine bdrewN ?_ _)))) ?_); intro A1 c1 w1 hoI1 hgI1 hlI1; have hbI1 : Below v1.heap.size v1 w1 := bgrown (by repeat (first | exact bref _ | exact hbI1 | exact hbI2 | exact hbI3 | (refine balloc ?_ _) | (refine bdrew ?_) | (refine bdrewN ?_ _))) hgI1 (by intro j hj; simp [Value.ownBlock] at hj; omega))
            | ((refine step_appS (by rfl) (.tmp 46) (.tmp 48) 31 25 4 32 _ (by rfl) Try.underlying31 infoDu rfl (by decide) v1.heap.size (.slice A1 k c1) k _ (by rfl) (by first | exact hoI1 | exact hoI1.alloc _ | exact own_drew (hoI1.alloc _)) _ 1 _ (encDu q) (by rfl) rfl (news1 (by first | exact heap_new1 _ _ | exact (hgI1.block _ (by simp <;> omega) (by simp [Value.ownBlock] <;> omega)).trans (heap_new2 _ _ _) | exact (hgI1.block _ (by simp <;> omega) (by simp [Value.ownBlock] <;> omega)).trans (heap_old2 _ _ _)) rfl) (encDu_one q) (k + 1) rfl _ rfl (by omega) (by decide) (Below.size (B := v1.heap.size) (by repeat (first | exact bref _ | exact hbI1 | exact hbI2 | exact hbI3 | (refine balloc ?_ _) | (refine bdrew ?_) | (refine bdrewN ?_ _)))) ?_); intro A2 c2 w2 hoI2 hgI2 hlI2; have hbI2 : Below v1.heap.size v1 w2 := bgrown (by repeat (first | exact bref _ | exact hbI1 | exact hbI2 | exact hbI3 | (refine balloc ?_ _) | (refine bdrew ?_) | (refine bdrewN ?_ _))) hgI2 (row_mine hoI1))
            | ((refine step_appS (by rfl) (.tmp 49) (.tmp 52) 31 25 4 32 _ (by rfl) Try.underlying31 infoDu rfl (by decide) v1.heap.size (.slice A2 (k + 1) c2) (k + 1) _ (by rfl) (by first | exact hoI2 | exact own_drew hoI2) _ _ _ ((l.drop k).flatMap encDu) (by rfl) HK2.out ((RowAt.below (HR.out.drop k) (by repeat (first | exact bref _ | exact hbI1 | exact hbI2 | exact hbI3 | (refine balloc ?_ _) | (refine bdrew ?_) | (refine bdrewN ?_ _)))).news encDu_len) (cellsDu_one _) ((putD q l).length) HN.out _ HY.out (by have := HN.out; omega) (by decide) (Below.size (B := v1.heap.size) (by repeat (first | exact bref _ | exact hbI1 | exact hbI2 | exact hbI3 | (refine balloc ?_ _) | (refine bdrew ?_) | (refine bdrewN ?_ _)))) ?_); intro A3 c3 w3 hoI3 hgI3 hlI3; have hbI3 : Below v1.heap.size v1 w3 := bgrown (by repeat (first | exact bref _ | exact hbI1 | exact hbI2 | exact hbI3 | (refine balloc ?_ _) | (refine bdrew ?_) | (refine bdrewN ?_ _))) hgI3 (row_mine hoI2))
            | fail)
          all_goals
            go_wp2
            go_ret
            exact ⟨A3, c3, rfl, own_base hoI3 hbw1.size, bstep hbw1 hbI3⟩
        · cases f3 : decide (m.who < q.who)
          · have h2 : ltDu m q = false := Bool.eq_false_iff.2 fun h => by
              rw [ltDu_iff] at h
              simp at f1 f2 f3
              omega
            have HF := Lib.hid (putD_mid HM.out HU.out h2)
            clear h2
            go_wp2_with fail
            (refine wp_region_calm (by kernel_rfl) (by kernel_rfl) ?_; (repeat (go_big_quiet_step ((fail)))); refine wpQuiet_nil ?_; intro xw; have hb1 := xw.is; generalize xw.w = v1 at hb1 ⊢; clear xw)
            have hbw1 := bstep hbw hb1
            have k1 : (k : Int) ≤ (c : Int) := by omega
            have k2 : (k : Int) ≤ (l.length : Int) := by omega
            have k3 : (l.length : Int) ≤ (c : Int) := by omega
            have k4 : ¬ c = k := by omega
            have HS2 := Lib.hid (Nat.lt_of_lt_of_le s1 hb1.size)
            have HX2 := Lib.hid (cell4D (by simp) HB0.out (bstep hbr hb1))
            have HR := Lib.hid (HR0.out.below hbw1)
            have HK := Lib.hid (show ((l.take k).flatMap encDu).length = k * 4 by rw [flat_len encDu_len, List.length_take, Nat.min_eq_left hk])
            have HN := Lib.hid (show k + 1 + (l.length - k) = (putD q l).length by rw [HF.out]; simp; omega)
            have HY := Lib.hid (show (l.take k).flatMap encDu ++ encDu q ++ (l.drop k).flatMap encDu = (putD q l).flatMap encDu by rw [HF.out]; simp)
            have HK2 := Lib.hid (show ((l.drop k).flatMap encDu).length = (l.length - k) * 4 by rw [flat_len encDu_len, List.length_drop])
            have hNl : (putD q l).length ≤ 4194304 := by have := putD_len q l; omega
            clear q0 q1 q2 q3 x0 x1 x2 x3 f1 f2
            go_wp2_with fail
            go_region_held3 (fun w' => w'.cell? ⟨w.heap.size, 0, none⟩ = some (.int .i64 q.who) ∧ w'.cell? ⟨w.heap.size, 1, none⟩ = some (.int .i64 q.bg) ∧ w'.cell? ⟨w.heap.size, 2, none⟩ = some (.int .i64 q.en) ∧ w'.cell? ⟨w.heap.size, 3, none⟩ = some (.bool q.ch)) (exact cell4D HS2.out HX2.out (by repeat (first | exact bref _ | exact hbI1 | exact hbI2 | exact hbI3 | (refine balloc ?_ _) | (refine bdrew ?_) | (refine bdrewN ?_ _)))) (first
            | ((refine step_appS (by rfl) (.tmp 42) (.tmp 45) 31 25 4 32 _ (by rfl) Try.underlying31 infoDu rfl (by decide) v1.heap.size _ 0 [] (by rfl) (own_empty (by first | exact heap_new1 _ _ | exact heap_new2 _ _ _ | exact heap_old2 _ _ _) (by first | exact Nat.le_refl _ | (simp; done))) _ _ _ ((l.take k).flatMap encDu) (by rfl) HK.out ((RowAt.below (HR.out.takeR k) (by repeat (first | exact bref _ | exact hbI1 | exact hbI2 | exact hbI3 | (refine balloc ?_ _) | (refine bdrew ?_) | (refine bdrewN ?_ _)))).news encDu_len) (cellsDu_one _) k (Nat.zero_add _) _ (List.nil_append _) (by omega) (by decide) (Below.size (B := v1.heap.size) (by repeat (first | exact bref _ | exact hbI1 | exact hbI2 | exact hbI3 | (refine balloc ?_ _) | (refine bdrew ?_) | (refine bdrewN ?_ _)))) ?_); intro A1 c1 w1 hoI1 hgI1 hlI1; have hbI1 : Below v1.heap.size v1 w1 := bgrown (by repeat (first | exact bref _ | exact hbI1 | exact hbI2 | exact hbI3 | (refine balloc ?_ _) | (refine bdrew ?_) | (refine bdrewN ?_ _))) hgI1 (by intro j hj; simp [Value.ownBlock] at hj; omega))
            | ((refine step_appS (by rfl) (.tmp 46) (.tmp 48) 31 25 4 32 _ (by rfl) Try.underlying31 infoDu rfl (by decide) v1.heap.size (.slice A1 k c1) k _ (by rfl) (by first | exact hoI1 | exact hoI1.alloc _ | exact own_drew (hoI1.alloc _)) _ 1 _ (encDu q) (by rfl) rfl (news1 (by first | exact heap_new1 _ _ | exact (hgI1.block _ (by simp <;> omega) (by simp [Value.ownBlock] <;> omega)).trans (heap_new2 _ _ _) | exact (hgI1.block _ (by simp <;> omega) (by simp [Value.ownBlock] <;> omega)).trans (heap_old2 _ _ _)) rfl) (encDu_one q) (k + 1) rfl _ rfl (by omega) (by decide) (Below.size (B := v1.heap.size) (by repeat (first | exact bref _ | exact hbI1 | exact hbI2 | exact hbI3 | (refine balloc ?_ _) | (refine bdrew ?_) | (refine bdrewN ?_ _)))) ?_); intro A2 c2 w2 hoI2 hgI2 hlI2; have hbI2 : Below v1.heap.size v1 w2 := bgrown (by repeat (first | exact bref _ | exact hbI1 | exact hbI2 | exact hbI3 | (refine balloc ?_ _) | (refine bdrew ?_) | (refine bdrewN ?_ _))) hgI2 (row_mine hoI1))
            | ((refine step_appS (by rfl) (.tmp 49) (.tmp 52) 31 25 4 32 _ (by rfl) Try.underlying31 infoDu rfl (by decide) v1.heap.size (.slice A2 (k + 1) c2) (k + 1) _ (by rfl) (by first | exact hoI2 | exact own_drew hoI2) _ _ _ ((l.drop k).flatMap encDu) (by rfl) HK2.out ((RowAt.below (HR.out.drop k) (by repeat (first | exact bref _ | exact hbI1 | exact hbI2 | exact hbI3 | (refine balloc ?_ _) | (refine bdrew ?_) | (refine bdrewN ?_ _)))).news encDu_len) (cellsDu_one _) ((putD q l).length) HN.out _ HY.out (by have := HN.out; omega) (by decide) (Below.size (B := v1.heap.size) (by repeat (first | exact bref _ | exact hbI1 | exact hbI2 | exact hbI3 | (refine balloc ?_ _) | (refine bdrew ?_) | (refine bdrewN ?_ _)))) ?_); intro A3 c3 w3 hoI3 hgI3 hlI3; have hbI3 : Below v1.heap.size v1 w3 := bgrown (by repeat (first | exact bref _ | exact hbI1 | exact hbI2 | exact hbI3 | (refine balloc ?_ _) | (refine bdrew ?_) | (refine bdrewN ?_ _))) hgI3 (row_mine hoI2))
            | fail)
            all_goals
              go_wp2
              go_ret
              exact ⟨A3, c3, rfl, own_base hoI3 hbw1.size, bstep hbw1 hbI3⟩
          · have HLT := Lib.hid (show ltDu m q = true by
              rw [ltDu_iff]
              simp at f1 f2 f3
              omega)
            go_wp2_with fail
            (refine wp_region_calm (by kernel_rfl) (by kernel_rfl) ?_; (repeat (go_big_quiet_step ((fail)))); refine wpQuiet_nil ?_; intro xw; have hb1 := xw.is; generalize xw.w = v1 at hb1 ⊢; clear xw)
            go_wp2
            go_roundw
            case rel => exact ⟨k + 1, by omega, by go_num, Lib.hid (fun i hi y hy => by
                rcases Nat.lt_or_ge i k with h | h
                · exact HU.out i h y hy
                · obtain rfl : i = k := by omega
                  rw [HM.out] at hy
                  cases hy
                  exact HLT.out), bstep hbr hb1⟩
            case measure => simp [intOf]; omega
      · have HLT := Lib.hid (show ltDu m q = true by
          rw [ltDu_iff]
          simp at f1
          omega)
        go_wp2_with fail
        (refine wp_region_calm (by kernel_rfl) (by kernel_rfl) ?_; (repeat (go_big_quiet_step ((fail)))); refine wpQuiet_nil ?_; intro xw; have hb1 := xw.is; generalize xw.w = v1 at hb1 ⊢; clear xw)
        go_wp2
        go_roundw
        case rel => exact ⟨k + 1, by omega, by go_num, Lib.hid (fun i hi y hy => by
            rcases Nat.lt_or_ge i k with h | h
            · exact HU.out i h y hy
            · obtain rfl : i = k := by omega
              rw [HM.out] at hy
              cases hy
              exact HLT.out), bstep hbr hb1⟩
        case measure => simp [intOf]; omega
    · obtain rfl : k = l.length := by omega
      have HF := Lib.hid (putD_end HU.out)
      have hNl : (putD q l).length ≤ 4194304 := by have := putD_len q l; omega
      rcases HAF.out with ⟨rfl, h0, rfl⟩ | ⟨b, off, rfl⟩
      · obtain rfl : l = [] := List.eq_nil_of_length_eq_zero h0
        have e0 : ((0 : Nat) : Int) = 0 := rfl
        simp only [List.length_nil, e0]
        go_wp2_with fail
        (refine wp_region_calm (by kernel_rfl) (by kernel_rfl) ?_; (repeat (go_big_quiet_step ((fail)))); refine wpQuiet_nil ?_; intro xw; have hb1 := xw.is; generalize xw.w = v1 at hb1 ⊢; clear xw)
        have hbw1 := bstep hbw hb1
        have HS2 := Lib.hid (Nat.lt_of_lt_of_le s1 hb1.size)
        have HX2 := Lib.hid (cell4D (by simp) HB0.out (bstep hbr hb1))
        have HN := Lib.hid (show 0 + 1 + 0 = (putD q []).length from rfl)
        have HY := Lib.hid (show ([] : List Value) ++ encDu q ++ [] = (putD q []).flatMap encDu by simp [putD])
        clear x0 x1 x2 x3
        have s2 := HS2.out
        go_wp2_with fail
        go_region_held3 (fun w' => w'.cell? ⟨w.heap.size, 0, none⟩ = some (.int .i64 q.who) ∧ w'.cell? ⟨w.heap.size, 1, none⟩ = some (.int .i64 q.bg) ∧ w'.cell? ⟨w.heap.size, 2, none⟩ = some (.int .i64 q.en) ∧ w'.cell? ⟨w.heap.size, 3, none⟩ = some (.bool q.ch)) (exact cell4D HS2.out HX2.out (by repeat (first | exact bref _ | exact hbI1 | exact hbI2 | exact hbI3 | (refine balloc ?_ _) | (refine bdrew ?_) | (refine bdrewN ?_ _)))) (first
            | ((refine step_appS (by rfl) (.tmp 42) (.tmp 45) 31 25 4 32 _ (by rfl) Try.underlying31 infoDu rfl (by decide) v1.heap.size _ 0 [] (by rfl) (own_empty (by first | exact heap_new1 _ _ | exact heap_new2 _ _ _ | exact heap_old2 _ _ _) (by first | exact Nat.le_refl _ | (simp; done))) _ _ _ [] (by rfl) rfl (fun j u hj => by simp at hj) (fun u hu => by simp at hu) 0 (by rfl) [] rfl (by omega) (by decide) (Below.size (B := v1.heap.size) (by repeat (first | exact bref _ | exact hbI1 | exact hbI2 | exact hbI3 | (refine balloc ?_ _) | (refine bdrew ?_) | (refine bdrewN ?_ _)))) ?_); intro A1 c1 w1 hoI1 hgI1 hlI1; have hbI1 : Below v1.heap.size v1 w1 := bgrown (by repeat (first | exact bref _ | exact hbI1 | exact hbI2 | exact hbI3 | (refine balloc ?_ _) | (refine bdrew ?_) | (refine bdrewN ?_ _))) hgI1 (by intro j hj; simp [Value.ownBlock] at hj; omega))
            | ((refine step_appS (by rfl) (.tmp 46) (.tmp 48) 31 25 4 32 _ (by rfl) Try.underlying31 infoDu rfl (by decide) v1.heap.size (.slice A1 0 c1) 0 _ (by rfl) (by first | exact hoI1 | exact hoI1.alloc _ | exact own_drew (hoI1.alloc _)) _ 1 _ (encDu q) (by rfl) rfl (news1 (by first | exact heap_new1 _ _ | exact (hgI1.block _ (by simp <;> omega) (by simp [Value.ownBlock] <;> omega)).trans (heap_new2 _ _ _) | exact (hgI1.block _ (by simp <;> omega) (by simp [Value.ownBlock] <;> omega)).trans (heap_old2 _ _ _)) rfl) (encDu_one q) (0 + 1) rfl _ rfl (by omega) (by decide) (Below.size (B := v1.heap.size) (by repeat (first | exact bref _ | exact hbI1 | exact hbI2 | exact hbI3 | (refine balloc ?_ _) | (refine bdrew ?_) | (refine bdrewN ?_ _)))) ?_); intro A2 c2 w2 hoI2 hgI2 hlI2; have hbI2 : Below v1.heap.size v1 w2 := bgrown (by repeat (first | exact bref _ | exact hbI1 | exact hbI2 | exact hbI3 | (refine balloc ?_ _) | (refine bdrew ?_) | (refine bdrewN ?_ _))) hgI2 (row_mine hoI1))
            | ((refine step_appS (by rfl) (.tmp 49) (.tmp 52) 31 25 4 32 _ (by rfl) Try.underlying31 infoDu rfl (by decide) v1.heap.size (.slice A2 (0 + 1) c2) (0 + 1) _ (by rfl) (by first | exact hoI2 | exact own_drew hoI2) _ _ _ [] (by rfl) (by simp) (fun j u hj => by simp at hj) (fun u hu => by simp at hu) ((putD q []).length) (by first | exact HN.out | (simp; done) | (have := HN.out; simpa using this)) _ HY.out (by have := HN.out; omega) (by decide) (Below.size (B := v1.heap.size) (by repeat (first | exact bref _ | exact hbI1 | exact hbI2 | exact hbI3 | (refine balloc ?_ _) | (refine bdrew ?_) | (refine bdrewN ?_ _)))) ?_); intro A3 c3 w3 hoI3 hgI3 hlI3; have hbI3 : Below v1.heap.size v1 w3 := bgrown (by repeat (first | exact bref _ | exact hbI1 | exact hbI2 | exact hbI3 | (refine balloc ?_ _) | (refine bdrew ?_) | (refine bdrewN ?_ _))) hgI3 (row_mine hoI2))
            | fail)
        all_goals
          go_wp2
          go_ret
          exact ⟨A3, c3, rfl, own_base hoI3 hbw1.size, bstep hbw1 hbI3⟩
      · have k1 : (l.length : Int) ≤ (c : Int) := by omega
        go_wp2_with fail
        (refine wp_region_calm (by kernel_rfl) (by kernel_rfl) ?_; (repeat (go_big_quiet_step ((fail)))); refine wpQuiet_nil ?_; intro xw; have hb1 := xw.is; generalize xw.w = v1 at hb1 ⊢; clear xw)
        have hbw1 := bstep hbw hb1
        have HS2 := Lib.hid (Nat.lt_of_lt_of_le s1 hb1.size)
        have HX2 := Lib.hid (cell4D (by simp) HB0.out (bstep hbr hb1))
        have HR := Lib.hid (HR0.out.below hbw1)
        have HK := Lib.hid (show (l.flatMap encDu).length = l.length * 4 by rw [flat_len encDu_len])
        have HN := Lib.hid (show l.length + 1 + 0 = (putD q l).length by rw [HF.out]; simp)
        have HY := Lib.hid (show l.flatMap encDu ++ encDu q ++ [] = (putD q l).flatMap encDu by rw [HF.out]; simp)
        clear x0 x1 x2 x3
        have s2 := HS2.out
        obtain ⟨x0, x1, x2, x3⟩ := HX2.out
        by_cases hck : c = l.length
        all_goals
          go_wp2_with fail
          go_region_held3 (fun w' => w'.cell? ⟨w.heap.size, 0, none⟩ = some (.int .i64 q.who) ∧ w'.cell? ⟨w.heap.size, 1, none⟩ = some (.int .i64 q.bg) ∧ w'.cell? ⟨w.heap.size, 2, none⟩ = some (.int .i64 q.en) ∧ w'.cell? ⟨w.heap.size, 3, none⟩ = some (.bool q.ch)) (exact cell4D HS2.out HX2.out (by repeat (first | exact bref _ | exact hbI1 | exact hbI2 | exact hbI3 | (refine balloc ?_ _) | (refine bdrew ?_) | (refine bdrewN ?_ _)))) (first
            | ((refine step_appS (by rfl) (.tmp 42) (.tmp 45) 31 25 4 32 _ (by rfl) Try.underlying31 infoDu rfl (by decide) v1.heap.size _ 0 [] (by rfl) (own_empty (by first | exact heap_new1 _ _ | exact heap_new2 _ _ _ | exact heap_old2 _ _ _) (by first | exact Nat.le_refl _ | (simp; done))) _ _ _ (l.flatMap encDu) (by rfl) HK.out ((RowAt.below HR.out (by repeat (first | exact bref _ | exact hbI1 | exact hbI2 | exact hbI3 | (refine balloc ?_ _) | (refine bdrew ?_) | (refine bdrewN ?_ _)))).news encDu_len) (cellsDu_one _) l.length (Nat.zero_add _) _ (List.nil_append _) (by omega) (by decide) (Below.size (B := v1.heap.size) (by repeat (first | exact bref _ | exact hbI1 | exact hbI2 | exact hbI3 | (refine balloc ?_ _) | (refine bdrew ?_) | (refine bdrewN ?_ _)))) ?_); intro A1 c1 w1 hoI1 hgI1 hlI1; have hbI1 : Below v1.heap.size v1 w1 := bgrown (by repeat (first | exact bref _ | exact hbI1 | exact hbI2 | exact hbI3 | (refine balloc ?_ _) | (refine bdrew ?_) | (refine bdrewN ?_ _))) hgI1 (by intro j hj; simp [Value.ownBlock] at hj; omega))
            | ((refine step_appS (by rfl) (.tmp 46) (.tmp 48) 31 25 4 32 _ (by rfl) Try.underlying31 infoDu rfl (by decide) v1.heap.size (.slice A1 l.length c1) l.length _ (by rfl) (by first | exact hoI1 | exact hoI1.alloc _ | exact own_drew (hoI1.alloc _)) _ 1 _ (encDu q) (by rfl) rfl (news1 (by first | exact heap_new1 _ _ | exact (hgI1.block _ (by simp <;> omega) (by simp [Value.ownBlock] <;> omega)).trans (heap_new2 _ _ _) | exact (hgI1.block _ (by simp <;> omega) (by simp [Value.ownBlock] <;> omega)).trans (heap_old2 _ _ _)) rfl) (encDu_one q) (l.length + 1) rfl _ rfl (by omega) (by decide) (Below.size (B := v1.heap.size) (by repeat (first | exact bref _ | exact hbI1 | exact hbI2 | exact hbI3 | (refine balloc ?_ _) | (refine bdrew ?_) | (refine bdrewN ?_ _)))) ?_); intro A2 c2 w2 hoI2 hgI2 hlI2; have hbI2 : Below v1.heap.size v1 w2 := bgrown (by repeat (first | exact bref _ | exact hbI1 | exact hbI2 | exact hbI3 | (refine balloc ?_ _) | (refine bdrew ?_) | (refine bdrewN ?_ _))) hgI2 (row_mine hoI1))
            | ((refine step_appS (by rfl) (.tmp 49) (.tmp 52) 31 25 4 32 _ (by rfl) Try.underlying31 infoDu rfl (by decide) v1.heap.size (.slice A2 (l.length + 1) c2) (l.length + 1) _ (by rfl) (by first | exact hoI2 | exact own_drew hoI2) _ _ _ [] (by rfl) (by simp) (fun j u hj => by simp at hj) (fun u hu => by simp at hu) ((putD q l).length) (by first | exact HN.out | (simp; done) | (have := HN.out; simpa using this)) _ HY.out (by have := HN.out; omega) (by decide) (Below.size (B := v1.heap.size) (by repeat (first | exact bref _ | exact hbI1 | exact hbI2 | exact hbI3 | (refine balloc ?_ _) | (refine bdrew ?_) | (refine bdrewN ?_ _)))) ?_); intro A3 c3 w3 hoI3 hgI3 hlI3; have hbI3 : Below v1.heap.size v1 w3 := bgrown (by repeat (first | exact bref _ | exact hbI1 | exact hbI2 | exact hbI3 | (refine balloc ?_ _) | (refine bdrew ?_) | (refine bdrewN ?_ _))) hgI3 (row_mine hoI2))
            | fail)
          all_goals
            go_wp2
            go_ret
            exact ⟨A3, c3, rfl, own_base hoI3 hbw1.size, bstep hbw1 hbI3⟩
end Go.Proofs.Ytldhlmjfpnpamaa
