/-
  spec.GapsBetween: a run is laid when it ends.
-/
import Derived.Test.YtldhlmjfpnpamaaDuGap
import Derived.Test.YtldhlmjfpnpamaaSs
import Derived.Test.YtldhlmjfpnpamaaDuGapI
namespace Go.Proofs.Ytldhlmjfpnpamaa
open Go.RowKit
attribute [local go_sem] ext_cell ext_frozen

def INext (l : List Du) (f t : Int) (k : Nat) (D : List (Int × Int)) (x : Int) : Prop := if ((k + 1 : Nat) : Int) ≤ t - f then SInv l f (k + 1) D x else D = gK l f (t - f).toNat
theorem next_no {l : List Du} {f t : Int} {k : Nat} {D : List (Int × Int)} {lst : Bool} (hS : SInv l f k D (-1)) (h0 : 0 ≤ f) (hl : lst = (f + (k : Int) == t)) (hk : f + (k : Int) ≤ t) (hc : (lst || covB l (f + k)) = true) : INext l f t k D (-1) := by
  unfold INext
  by_cases he : f + (k : Int) = t
  · rw [if_neg (by omega), show (t - f).toNat = k by omega]
    exact (SInv.none_ hS h0).symm
  · rw [if_pos (by omega)]
    refine SInv.skip hS h0 ?_
    have : lst = false := by rw [hl]; simpa using he
    rw [this] at hc
    simpa using hc
theorem next_end {l : List Du} {f t : Int} {k : Nat} {D : List (Int × Int)} {x : Int} {lst : Bool} (hS : SInv l f k D x) (hx : 0 ≤ x) (hl : lst = (f + (k : Int) == t)) (hk : f + (k : Int) ≤ t) (hc : (lst || covB l (f + k)) = true) : INext l f t k (D ++ [(x, f + k)]) (-1) := by
  unfold INext
  by_cases he : f + (k : Int) = t
  · rw [if_neg (by omega), show (t - f).toNat = k by omega]
    exact (SInv.last hS hx).symm
  · rw [if_pos (by omega)]
    refine SInv.ends hS hx ?_
    have : lst = false := by rw [hl]; simpa using he
    rw [this] at hc
    simpa using hc
theorem next_open {l : List Du} {f t : Int} {k : Nat} {D : List (Int × Int)} {lst : Bool} (hS : SInv l f k D (-1)) (h0 : 0 ≤ f) (hl : lst = (f + (k : Int) == t)) (hk : f + (k : Int) ≤ t) (hc : (lst || covB l (f + k)) = false) : INext l f t k D (f + k) := by
  rw [Bool.or_eq_false_iff] at hc
  have he : f + (k : Int) ≠ t := by
    have := hc.1
    rw [hl] at this
    simpa using this
  unfold INext
  rw [if_pos (by omega)]
  exact SInv.opens hS h0 hc.2
theorem next_go {l : List Du} {f t : Int} {k : Nat} {D : List (Int × Int)} {x : Int} {lst : Bool} (hS : SInv l f k D x) (hx : 0 ≤ x) (hl : lst = (f + (k : Int) == t)) (hk : f + (k : Int) ≤ t) (hc : (lst || covB l (f + k)) = false) : INext l f t k D x := by
  rw [Bool.or_eq_false_iff] at hc
  have he : f + (k : Int) ≠ t := by
    have := hc.1
    rw [hl] at this
    simpa using this
  unfold INext
  rw [if_pos (by omega)]
  exact SInv.goes hS hx hc.2
theorem any_take {l : List Du} {h : Int} {j : Nat} {m : Du} (hm : l[j]? = some m) : (l.take (j + 1)).any (hasH h) = ((l.take j).any (hasH h) || hasH h m) := by
  rw [List.take_add_one, hm]
  simp
set_option maxRecDepth 100000 in
set_option maxHeartbeats 4000000 in
theorem sGap_any (l : List Du) (A : Option Addr) (c : Nat) (f t : Int) (w : World) (hr : RowAt 4 encDu w A l) (hlen : l.length ≤ 2097152) :
    Calls Try.prog 24 #[.slice A l.length c, .int .i64 f, .int .i64 t] w (MkSs (gapL l f t) (gapOK l f t) w) := by
  have HR := Lib.hid hr
  clear hr
  have HB0 := Lib.hid (balloc (bref w) (.cells #[] 51))
  have HE0 := Lib.hid (SsRes.mk (L := []) (own_empty (E := 51) (K := 1) (heap_new1 w (.cells #[] 51)) (Nat.le_refl _)) (fun p hp => by simp at hp) List.Pairwise.nil)
  cases hok : gapOK l f t
  · have HE := Lib.hid (show gapL l f t = [] by simp [gapL, hok])
    unfold gapOK at hok
    cases hg : goodDu l
    · go_enter Try.func24, Try.ntmps24
      go_wp2_with (go_at_call 55; (with_reducible refine (sgoodDu_any l _ _ _ (HR.out.below HB0.out) hlen).mono ?_); rw [hg]; rintro e w1 ⟨rfl, hb1⟩)
      go_ret2
      rw [HE.out]
      exact ⟨[], _, 0, rfl, rfl, (HE0.out.below hb1), bstep HB0.out hb1⟩
    · rw [hg] at hok
      by_cases h3 : 0 ≤ t ∧ t ≤ 9999
      · have hi1 : inB t 0 9999 = true := by simp [inB, h3]
        have hi2 : inB f 0 (t - 1) = false := by simp [inB]; simp at hok; omega
        clear hok
        go_enter Try.func24, Try.ntmps24
        go_wp2_with first | (go_at_call 55; (with_reducible refine (sgoodDu_any l _ _ _ (HR.out.below HB0.out) hlen).mono ?_); rw [hg]; rintro e w1 ⟨rfl, hb1⟩) | (go_at_call 64; first | ((with_reducible refine (l1In_any t 0 9999 _).mono ?_); rw [hi1]; rintro e w' ⟨rfl, rfl⟩) | ((with_reducible refine (l1In_any f 0 (t - 1) _).mono ?_); rw [hi2]; rintro e w' ⟨rfl, rfl⟩))
        go_ret2
        rw [HE.out]
        exact ⟨[], _, 0, rfl, rfl, (HE0.out.below hb1), bstep HB0.out hb1⟩
      · have hi1 : inB t 0 9999 = false := by simp [inB]; omega
        clear hok
        go_enter Try.func24, Try.ntmps24
        go_wp2_with first | (go_at_call 55; (with_reducible refine (sgoodDu_any l _ _ _ (HR.out.below HB0.out) hlen).mono ?_); rw [hg]; rintro e w1 ⟨rfl, hb1⟩) | (go_at_call 64; ((with_reducible refine (l1In_any t 0 9999 _).mono ?_); rw [hi1]; rintro e w' ⟨rfl, rfl⟩))
        go_ret2
        rw [HE.out]
        exact ⟨[], _, 0, rfl, rfl, (HE0.out.below hb1), bstep HB0.out hb1⟩
  · have HE := Lib.hid (show gapL l f t = (gK l f (t - f).toNat).map gRow by simp [gapL, hok])
    unfold gapOK at hok
    simp only [Bool.and_eq_true, decide_eq_true_eq] at hok
    obtain ⟨hg, ⟨h0, h1⟩, h2⟩ := hok
    have hl12 := goodDu_len hg
    have hi1 : inB t 0 9999 = true := by simp [inB]; omega
    have hi2 : inB f 0 (t - 1) = true := by simp [inB]; omega
    go_enter Try.func24, Try.ntmps24
    go_wp2_with first | (go_at_call 55; (with_reducible refine (sgoodDu_any l _ _ _ (HR.out.below HB0.out) hlen).mono ?_); rw [hg]; rintro e w1 ⟨rfl, hb1⟩) | (go_at_call 64; first | ((with_reducible refine (l1In_any t 0 9999 _).mono ?_); rw [hi1]; rintro e w' ⟨rfl, rfl⟩) | ((with_reducible refine (l1In_any f 0 (t - 1) _).mono ?_); rw [hi2]; rintro e w' ⟨rfl, rfl⟩))
    have HB1 := Lib.hid (bstep HB0.out hb1)
    have HE1 := Lib.hid (HE0.out.below hb1)
    have hs1 := HB1.out.size
    clear hb1 hg
    go_loopw [8, 9, 10] (fun vo vf vh wr => ∃ (k : Nat) (D : List (Int × Int)) (x : Int) (L : List Rw) (A' : Option Addr) (c' : Nat), (k : Int) ≤ t - f + 1 ∧ vh = .int .i64 (f + k) ∧ vf = .int .i64 x ∧ vo = .slice A' L.length c' ∧ L.length ≤ k ∧ Hid (L.map Rw.l = D.map gRow) ∧ (-1 ≤ x ∧ x ≤ 9999) ∧ Hid (if (k : Int) ≤ t - f then SInv l f k D x else D = gK l f (t - f).toNat) ∧ Hid (SsRes w.heap.size wr A' c' L) ∧ Hid (Below w.heap.size w wr)) (fun _ _ h _ => (t + 1 - intOf h).toNat)
    case atStart => exact ⟨0, [], -1, [], _, 0, by omega, by simp, rfl, rfl, Nat.le_refl _, Lib.hid rfl, ⟨by omega, by omega⟩, Lib.hid (by rw [if_pos (by omega)]; exact SInv.start l f), HE1, HB1⟩
    case round =>
      obtain ⟨k, D, x, L, A', c', hk, rfl, rfl, rfl, hLk, HL, hx, HI, HS, HB⟩ := hrel
      by_cases hlt : f + (k : Int) ≤ t
      · have hI : SInv l f k D x := by have := HI.out; rwa [if_pos (by omega)] at this
        have HIv := Lib.hid hI
        have hrt : f + (k : Int) ≤ t := hlt
        clear HI hI
        obtain ⟨wo, rfl⟩ : ∃ wo : World, wo = wr := ⟨_, rfl⟩
        have hso := HB.out.size
        go_wp2_with fail
        obtain ⟨lst, hlst⟩ : ∃ b : Bool, b = ((f + (k : Int)) == t) := ⟨_, rfl⟩
        have HLS := Lib.hid hlst
        rw [← hlst]
        clear hlst
        go_loopw [11, 12] (fun vc vi wi => ∃ (j : Nat) (C : Bool), j ≤ l.length ∧ vi = .int .i64 j ∧ vc = .bool C ∧ Hid (C = (lst || (l.take j).any (hasH (f + k)))) ∧ Hid (Below wo.heap.size wo wi)) (fun _ i _ => l.length - (intOf i).toNat)
        case atStart => exact ⟨0, lst, Nat.zero_le _, rfl, rfl, Lib.hid (by simp), Lib.hid (bref _)⟩
        case round =>
          obtain ⟨j, C, hj, rfl, rfl, HC, HW⟩ := hrel
          by_cases hjl : j < l.length
          · obtain ⟨m, hm⟩ := some_get hjl
            have i0 := ib0 j
            have i1 := ib1 hjl
            have HA := Lib.hid (any_take (h := f + k) hm)
            obtain ⟨b, off, eA, hb, q0, q1, q2, q3⟩ := (HR.out.below (bstep HB.out HW.out)).du hm
            subst eA
            clear hm
            cases C
            case false =>
              go_wp2_with fail
              refine (l17Has_any m (f + k) _).mono ?_; rintro e wj ⟨rfl, hbj⟩
              go_wp2_with fail
              go_roundw
              case rel => exact ⟨j + 1, hasH (f + k) m, by omega, by go_num, rfl, Lib.hid (by have h := HC.out; rw [HA.out]; revert h; cases lst <;> cases ((l.take j).any (hasH (f + k))) <;> cases hasH (f + k) m <;> simp), Lib.hid (bstep HW.out hbj)⟩
              case measure => simp [intOf]; omega
            case true =>
              go_wp2_with fail
              go_roundw
              case rel => exact ⟨j + 1, true, by omega, by go_num, rfl, Lib.hid (by have h := HC.out; rw [HA.out]; revert h; cases lst <;> cases ((l.take j).any (hasH (f + k))) <;> cases hasH (f + k) m <;> simp), HW⟩
              case measure => simp [intOf]; omega
          · obtain rfl : j = l.length := by omega
            have HCV := Lib.hid (show (lst || covB l (f + k)) = C by rw [covB_iff, HC.out, List.take_length])
            have HBW := Lib.hid (bstep HB.out HW.out)
            have HSW := Lib.hid (HS.out.below HW.out)
            have hsw := HW.out.size
            clear HC
            cases C
            case false =>
              by_cases hx0 : x < 0
              · obtain rfl : x = -1 := by omega
                have HN := Lib.hid (next_open HIv.out h0 HLS.out hrt HCV.out)
                go_wp2_with fail
                go_roundw
                case rel => exact ⟨k + 1, D, f + k, L, A', c', by omega, by first | rfl | go_num, by first | rfl | go_num, rfl, by omega, HL, by omega, HN, HSW, HBW⟩
                case measure => simp [intOf]; omega
              · have HN := Lib.hid (next_go HIv.out (by omega) HLS.out hrt HCV.out)
                go_wp2_with fail
                go_roundw
                case rel => exact ⟨k + 1, D, x, L, A', c', by omega, by first | rfl | go_num, rfl, rfl, by omega, HL, by omega, HN, HSW, HBW⟩
                case measure => simp [intOf]; omega
            case true =>
              by_cases hx0 : x < 0
              · obtain rfl : x = -1 := by omega
                have HN := Lib.hid (next_no HIv.out h0 HLS.out hrt HCV.out)
                go_wp2_with fail
                go_roundw
                case rel => exact ⟨k + 1, D, -1, L, A', c', by omega, by first | rfl | go_num, rfl, rfl, by omega, HL, by omega, HN, HSW, HBW⟩
                case measure => simp [intOf]; omega
              · have HN := Lib.hid (next_end HIv.out (by omega) HLS.out hrt HCV.out)
                have hge : 0 ≤ x := by omega
                have HOS := Lib.hid HSW.out.out
                have HGE : w.heap.size ≤ wr.heap.size := HBW.out.size
                go_wp2_with (at_builtin; (refine wpList_app rfl _ _ 38 51 1 24 _ rfl Try.underlying38 infoSs rfl (by decide) w.heap.size _ L.length _ (by rfl) ((HOS.out.alloc _).alloc _) _ _ (by rfl) (heap_new2 wr (.cells #[.int .i64 x, .int .i64 (f + k)] 3) (.cells #[.slice (some ⟨wr.heap.size, 0, none⟩) 2 2] 51)) rfl (encRw_one ⟨[x, f + k], some ⟨wr.heap.size, 0, none⟩, 2⟩) (by omega) (by decide) (by simp; omega) ?_; intro g7 c7 w7 ho7 hg7 hl7; skip))
                have hb7 : Below wr.heap.size wr ((wr.alloc (.cells #[.int .i64 x, .int .i64 (f + k)] 3)).alloc (.cells #[.slice (some ⟨wr.heap.size, 0, none⟩) 2 2] 51)) := balloc (balloc (bref wr) _) _
                have hpush := SsRes.push (l := [x, f + k]) (cs := 2) (q := wr.heap.size + 2) HSW.out (Nat.le_refl _) hb7 (by omega) (by simp) (World.ownsRow.alloc (two_own (heap_new1 wr (.cells #[.int .i64 x, .int .i64 (f + k)] 3)) HGE) _) (by simpa [encRw] using ho7) hg7 (hl7.elim .inl (fun e => .inr (by subst e; simp [Value.ownBlock])))
                have HB7 := Lib.hid (bgrown (bstep HBW.out hb7) hg7 (row_mine HOS.out))
                go_roundw
                case rel => exact ⟨k + 1, D ++ [(x, f + k)], -1, L ++ [⟨[x, f + k], some ⟨wr.heap.size, 0, none⟩, 2⟩], some ⟨g7, 0, none⟩, c7, by omega, by first | rfl | go_num, rfl, by simp, by simp; omega, Lib.hid (by rw [List.map_append, HL.out, List.map_append]; rfl), by omega, HN, Lib.hid hpush, HB7⟩
                case measure => simp [intOf]; omega
      · have hkn : ¬ (k : Int) ≤ t - f := by omega
        have hD : D = gK l f (t - f).toNat := by have := HI.out; rwa [if_neg hkn] at this
        have HLE := Lib.hid (show L.length = ((gK l f (t - f).toNat).map gRow).length by rw [← hD, ← HL.out, List.length_map])
        have HL2 := Lib.hid (show L.map Rw.l = (gK l f (t - f).toNat).map gRow by rw [← hD]; exact HL.out)
        clear hD
        go_wp2_with fail
        go_ret2
        rw [HE.out]
        exact ⟨L, A', c', (by rw [← HLE.out]; rfl), HL2.out, HS.out, HB.out⟩
end Go.Proofs.Ytldhlmjfpnpamaa
