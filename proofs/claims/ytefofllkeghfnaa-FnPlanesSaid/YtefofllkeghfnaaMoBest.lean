/-
  The best plane: impl and spec compute one triple.
-/
import Derived.Test.YtefofllkeghfnaaMoExpl
namespace Go.Proofs.Ytefofllkeghfnaa
open Go.RowKit

def betterL (l : List Mo) (t : Int × Int × Int) (p q : Int) : Int × Int × Int := if ((l.filter (missP p q)).length : Int) < t.2.2 then (p, q, ((l.filter (missP p q)).length : Int)) else t
def bestK (l : List Mo) : Nat → Int × Int × Int
  | 0 => (0, 1, (l.length : Int) + 1)
  | k + 1 => betterL l (betterL l (bestK l k) k 1) k (-1)
def partK (l : List Mo) (k : Nat) : Nat → Int × Int × Int
  | 0 => bestK l k
  | 1 => betterL l (bestK l k) k 1
  | _ => bestK l (k + 1)
theorem better_yes {l : List Mo} {t : Int × Int × Int} {p q a b n : Int} (h : t = (a, b, n)) (hl : ((l.filter (missP p q)).length : Int) < n) : betterL l t p q = (p, q, ((l.filter (missP p q)).length : Int)) := by
  subst h; simp [betterL, hl]
theorem better_no {l : List Mo} {t : Int × Int × Int} {p q a b n : Int} (h : t = (a, b, n)) (hl : ¬ ((l.filter (missP p q)).length : Int) < n) : betterL l t p q = (a, b, n) := by
  subst h; simp [betterL, hl]

set_option maxHeartbeats 1000000 in
theorem iBest_any (l : List Mo) (A : Option Addr) (c : Nat) (w : World) (hr : RowAt 4 encMo w A l) (hlen : l.length ≤ 2097152) (hg : goodMo l = true) :
    Calls Try.prog 68 #[.slice A l.length c] w fun e w' => e = .returned (.tuple #[.int .i64 (bestK l 16).1, .int .i64 (bestK l 16).2.1, .int .i64 (bestK l 16).2.2]) ∧ Below w.heap.size w w' := by
  have HR := Lib.hid hr
  have HG := Lib.hid hg
  clear hr hg
  go_enter Try.func68, Try.ntmps68
  go_wp2_with fail
  go_loopw [5, 6, 7, 15] (fun a b m i wr => ∃ (k : Nat) (p q n : Int), k ≤ 16 ∧ i = .int .i64 k ∧ a = .int .i64 p ∧ b = .int .i64 q ∧ m = .int .i64 n ∧ Hid (bestK l k = (p, q, n)) ∧ Below w.heap.size w wr) (fun _ _ _ i _ => 16 - (intOf i).toNat)
  case atStart => exact ⟨0, 0, 1, _, by omega, rfl, rfl, rfl, rfl, Lib.hid rfl, bref _⟩
  case round =>
    obtain ⟨k, p, q, n, hk, rfl, rfl, rfl, rfl, HB, hbr⟩ := hrel
    by_cases hlt : k < 16
    · have hkk : (0 : Int) ≤ k ∧ (k : Int) ≤ 15 := by omega
      have hk16 : (k : Int) < 16 := by omega
      go_wp2_with fail
      obtain ⟨wo, rfl⟩ : ∃ wo : World, wo = wr := ⟨_, rfl⟩
      go_loopw [5, 6, 7, 20] (fun a b m i wr => ∃ (j : Nat) (p q n : Int), j ≤ 2 ∧ i = .int .i64 j ∧ a = .int .i64 p ∧ b = .int .i64 q ∧ m = .int .i64 n ∧ Hid (partK l k j = (p, q, n)) ∧ Hid (RowAt 1 encI wr (some ⟨wo.heap.size, 0, none⟩) [1, -1]) ∧ Below w.heap.size w wr) (fun _ _ _ i _ => 2 - (intOf i).toNat)
      case atStart => exact ⟨0, p, q, n, by omega, rfl, rfl, rfl, rfl, HB, Lib.hid (RowAt.of_block encI_len (heap_new1 _ _) rfl), balloc hbr _⟩
      case round =>
        obtain ⟨j, p', q', n', hj, rfl, rfl, rfl, rfl, HP, HA, hbi⟩ := hrel
        have hsz := hbi.size
        have hso := hbr.size
        obtain rfl | rfl | rfl : j = 0 ∨ j = 1 ∨ j = 2 := by omega
        · have hP := HP.out
          obtain ⟨b, off, e, hb, q0⟩ := HA.out.i (k := 0) rfl
          cases e
          simp only [Nat.add_zero] at q0
          clear hP
          by_cases h : ((l.filter (missP k 1)).length : Int) < n'
          · have HN := Lib.hid (better_yes HP.out h)
            go_wp2_with ((go_at_call 66; (with_reducible refine (missed_any l _ _ k 1 _ (HR.out.below hbi) hlen HG.out hkk (.inl rfl)).mono ?_); rintro e w2 ⟨A2, c2, rfl, ho2, hb2⟩; clear ho2))
            go_roundw
            case rel => exact ⟨1, _, _, _, by omega, rfl, rfl, rfl, rfl, HN, Lib.hid (HA.out.below hb2), bstep hbi hb2⟩
            case measure => simp [intOf]
          · have HN := Lib.hid (better_no HP.out h)
            go_wp2_with ((go_at_call 66; (with_reducible refine (missed_any l _ _ k 1 _ (HR.out.below hbi) hlen HG.out hkk (.inl rfl)).mono ?_); rintro e w2 ⟨A2, c2, rfl, ho2, hb2⟩; clear ho2))
            go_roundw
            case rel => exact ⟨1, _, _, _, by omega, rfl, rfl, rfl, rfl, HN, Lib.hid (HA.out.below hb2), bstep hbi hb2⟩
            case measure => simp [intOf]
        · obtain ⟨b, off, e, hb, q0⟩ := HA.out.i (k := 1) rfl
          cases e
          simp only [Nat.zero_add] at q0
          by_cases h : ((l.filter (missP k (-1))).length : Int) < n'
          · have HN := Lib.hid (better_yes HP.out h)
            go_wp2_with ((go_at_call 66; (with_reducible refine (missed_any l _ _ k (-1) _ (HR.out.below hbi) hlen HG.out hkk (.inr rfl)).mono ?_); rintro e w2 ⟨A2, c2, rfl, ho2, hb2⟩; clear ho2))
            go_roundw
            case rel => exact ⟨2, _, _, _, by omega, rfl, rfl, rfl, rfl, HN, Lib.hid (HA.out.below hb2), bstep hbi hb2⟩
            case measure => simp [intOf]
          · have HN := Lib.hid (better_no HP.out h)
            go_wp2_with ((go_at_call 66; (with_reducible refine (missed_any l _ _ k (-1) _ (HR.out.below hbi) hlen HG.out hkk (.inr rfl)).mono ?_); rintro e w2 ⟨A2, c2, rfl, ho2, hb2⟩; clear ho2))
            go_roundw
            case rel => exact ⟨2, _, _, _, by omega, rfl, rfl, rfl, rfl, HN, Lib.hid (HA.out.below hb2), bstep hbi hb2⟩
            case measure => simp [intOf]
        · go_wp2
          go_roundw
          case rel => exact ⟨k + 1, _, _, _, by omega, by go_num, rfl, rfl, rfl, HP, hbi⟩
          case measure => simp [intOf]; omega
    · obtain rfl : k = 16 := by omega
      go_wp2
      go_ret3
      exact ⟨ret_iii HB.out, hbr⟩

set_option maxHeartbeats 1000000 in
theorem sBest_any (l : List Mo) (A : Option Addr) (c : Nat) (w : World) (hr : RowAt 4 encMo w A l) (hlen : l.length ≤ 2097152) (hg : goodMo l = true) :
    Calls Try.prog 67 #[.slice A l.length c] w fun e w' => e = .returned (.tuple #[.int .i64 (bestK l 16).1, .int .i64 (bestK l 16).2.1, .int .i64 (bestK l 16).2.2]) ∧ Below w.heap.size w w' := by
  have HR := Lib.hid hr
  have HG := Lib.hid hg
  clear hr hg
  go_enter Try.func67, Try.ntmps67
  go_wp2_with fail
  go_loopw [5, 6, 7, 8] (fun a b m i wr => ∃ (k : Nat) (p q n : Int), k ≤ 16 ∧ i = .int .i64 k ∧ a = .int .i64 p ∧ b = .int .i64 q ∧ m = .int .i64 n ∧ Hid (bestK l k = (p, q, n)) ∧ Below w.heap.size w wr) (fun _ _ _ i _ => 16 - (intOf i).toNat)
  case atStart => exact ⟨0, 0, 1, _, by omega, rfl, rfl, rfl, rfl, Lib.hid rfl, bref _⟩
  case round =>
    obtain ⟨k, p, q, n, hk, rfl, rfl, rfl, rfl, HB, hbr⟩ := hrel
    by_cases hlt : k < 16
    · have hkk : (0 : Int) ≤ k ∧ (k : Int) ≤ 15 := by omega
      have hk16 : (k : Int) < 16 := by omega
      go_wp2_with fail
      obtain ⟨wo, rfl⟩ : ∃ wo : World, wo = wr := ⟨_, rfl⟩
      go_loopw [5, 6, 7, 9] (fun a b m i wr => ∃ (j : Nat) (p q n : Int), j ≤ 2 ∧ i = .int .i64 (1 - 2 * (j : Int)) ∧ a = .int .i64 p ∧ b = .int .i64 q ∧ m = .int .i64 n ∧ Hid (partK l k j = (p, q, n)) ∧ Below w.heap.size w wr) (fun _ _ _ i _ => (intOf i + 3).toNat)
      case atStart => exact ⟨0, p, q, n, by omega, rfl, rfl, rfl, rfl, HB, hbr⟩
      case round =>
        obtain ⟨j, p', q', n', hj, rfl, rfl, rfl, rfl, HP, hbi⟩ := hrel
        obtain rfl | rfl | rfl : j = 0 ∨ j = 1 ∨ j = 2 := by omega
        · rw [show (1 - 2 * ((0 : Nat) : Int)) = 1 from rfl]
          by_cases h : ((l.filter (missP k 1)).length : Int) < n'
          · have HN := Lib.hid (better_yes HP.out h)
            go_wp2_with ((go_at_call 64; (with_reducible refine (misses_any l _ _ k 1 _ (HR.out.below hbi) hlen HG.out hkk (.inl rfl)).mono ?_); rw [missL_len]; rintro e w2 ⟨A2, c2, rfl, ho2, hb2⟩; clear ho2))
            go_roundw
            case rel => exact ⟨1, _, _, _, by omega, rfl, rfl, rfl, rfl, HN, bstep hbi hb2⟩
            case measure => simp [intOf]
          · have HN := Lib.hid (better_no HP.out h)
            go_wp2_with ((go_at_call 64; (with_reducible refine (misses_any l _ _ k 1 _ (HR.out.below hbi) hlen HG.out hkk (.inl rfl)).mono ?_); rw [missL_len]; rintro e w2 ⟨A2, c2, rfl, ho2, hb2⟩; clear ho2))
            go_roundw
            case rel => exact ⟨1, _, _, _, by omega, rfl, rfl, rfl, rfl, HN, bstep hbi hb2⟩
            case measure => simp [intOf]
        · rw [show (1 - 2 * ((1 : Nat) : Int)) = -1 from rfl]
          by_cases h : ((l.filter (missP k (-1))).length : Int) < n'
          · have HN := Lib.hid (better_yes HP.out h)
            go_wp2_with ((go_at_call 64; (with_reducible refine (misses_any l _ _ k (-1) _ (HR.out.below hbi) hlen HG.out hkk (.inr rfl)).mono ?_); rw [missL_len]; rintro e w2 ⟨A2, c2, rfl, ho2, hb2⟩; clear ho2))
            go_roundw
            case rel => exact ⟨2, _, _, _, by omega, rfl, rfl, rfl, rfl, HN, bstep hbi hb2⟩
            case measure => simp [intOf]
          · have HN := Lib.hid (better_no HP.out h)
            go_wp2_with ((go_at_call 64; (with_reducible refine (misses_any l _ _ k (-1) _ (HR.out.below hbi) hlen HG.out hkk (.inr rfl)).mono ?_); rw [missL_len]; rintro e w2 ⟨A2, c2, rfl, ho2, hb2⟩; clear ho2))
            go_roundw
            case rel => exact ⟨2, _, _, _, by omega, rfl, rfl, rfl, rfl, HN, bstep hbi hb2⟩
            case measure => simp [intOf]
        · rw [show (1 - 2 * ((2 : Nat) : Int)) = -3 from rfl]
          go_wp2
          go_roundw
          case rel => exact ⟨k + 1, _, _, _, by omega, by go_num, rfl, rfl, rfl, HP, hbi⟩
          case measure => simp [intOf]; omega
    · obtain rfl : k = 16 := by omega
      go_wp2
      go_ret3
      exact ⟨ret_iii HB.out, hbr⟩
end Go.Proofs.Ytefofllkeghfnaa
