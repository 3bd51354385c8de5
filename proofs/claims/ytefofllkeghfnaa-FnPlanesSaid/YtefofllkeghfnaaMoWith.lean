/-
  The planes that miss few motions: impl and spec compute one list, in new memory.
-/
import Derived.Test.YtefofllkeghfnaaMoNot
namespace Go.Proofs.Ytefofllkeghfnaa
open Go.RowKit

def withP (l : List Mo) (n : Int) (k : Nat) : Bool := decide (((l.filter (missP k 1)).length : Int) ≤ n) || decide (((l.filter (missP k (-1))).length : Int) ≤ n)
def withK (l : List Mo) (n : Int) (k : Nat) : List Int := ((List.range k).filter (withP l n)).map fun (i : Nat) => (i : Int)
theorem withK_yes {l : List Mo} {n : Int} {k : Nat} (h : withP l n k = true) : withK l n (k + 1) = withK l n k ++ [(k : Int)] := by
  unfold withK; rw [List.range_succ, List.filter_append]; simp [h]
theorem withK_no {l : List Mo} {n : Int} {k : Nat} (h : withP l n k = false) : withK l n (k + 1) = withK l n k := by
  unfold withK; rw [List.range_succ, List.filter_append]; simp [h]
theorem withK_le (l : List Mo) (n : Int) (k : Nat) : (withK l n k).length ≤ k := by
  unfold withK; rw [List.length_map]; have := List.length_filter_le (withP l n) (List.range k); simpa using this
def withOK (l : List Mo) (n : Int) : Bool := goodMo l && inB n 0 12
def withL (l : List Mo) (n : Int) : List Int := if withOK l n then withK l n 16 else []
theorem withL_le (l : List Mo) (n : Int) : (withL l n).length ≤ 16 := by
  unfold withL; split
  · exact withK_le l n 16
  · simp

set_option maxHeartbeats 2000000 in
theorem iWith_any (l : List Mo) (A : Option Addr) (c : Nat) (n : Int) (w : World) (hr : RowAt 4 encMo w A l) (hlen : l.length ≤ 2097152) :
    Calls Try.prog 40 #[.slice A l.length c, .int .i64 n] w (MkS2 3 1 (withL l n).length ((withL l n).flatMap encI) (withOK l n) w) := by
  have HR := Lib.hid hr
  clear hr
  cases h1 : goodMo l <;> cases h2 : inB n 0 12
  case true.true =>
    have ha : withOK l n = true := by simp [withOK, h1, h2]
    have e : withL l n = withK l n 16 := by simp [withL, ha]
    rw [e, ha]
    clear e ha
    have G := Lib.hid h1
    go_enter Try.func40, Try.ntmps40
    go_wp2_with (first | (go_at_call 17; (with_reducible refine (iAreMo_any l _ _ _ HR.out hlen).mono ?_); rintro e w1 ⟨rfl, hb1⟩; obtain ⟨hc_hb1, hf_hb1, hz_hb1⟩ := bcell (B := w.heap.size) (by first | omega | (simp; done) | (simp; omega)) hb1) | (go_at_call 70; (with_reducible refine (in_any _ _ _ _).mono ?_); rw [h2]; rintro e w' ⟨rfl, rfl⟩))
    clear hc_hb1 hf_hb1 h1 h2
    go_loopw [6, 17] (fun v i wr => ∃ (k : Nat) (D : List Int) (A' : Option Addr) (c' : Nat), k ≤ 16 ∧ i = .int .i64 k ∧ v = .slice A' D.length c' ∧ D.length ≤ k ∧ Hid (D = withK l n k) ∧ Below w.heap.size w wr ∧ wr.ownsRow w.heap.size 3 1 (.slice A' D.length c') D.length (D.flatMap encI)) (fun _ i _ => 16 - (intOf i).toNat)
    case atStart => exact ⟨0, [], some ⟨w1.heap.size, 0, none⟩, 0, Nat.zero_le _, rfl, rfl, Nat.le_refl _, rfl, balloc hb1 _, own_base (own_made (cur := #[]) rfl (Nat.zero_le _)) hb1.size⟩
    case round =>
      obtain ⟨k, D, A', c', hk, rfl, rfl, hDl, HD, hbr, hown⟩ := hrel
      by_cases hlt : k < 16
      · have hkk : (0 : Int) ≤ k ∧ (k : Int) ≤ 15 := by omega
        have hk16 : (k : Int) < 16 := by omega
        have HO := Lib.hid hown
        have hsz := hbr.size
        clear hown
        cases hw : withP l n k
        · have HN := Lib.hid (withK_no hw)
          have hw2 := hw
          simp only [withP, Bool.or_eq_false_iff, decide_eq_false_iff_not] at hw2
          obtain ⟨x1, x2⟩ := hw2
          clear hw
          have x3 : ¬ (min ((l.filter (missP k 1)).length : Int) ((l.filter (missP k (-1))).length : Int) ≤ n) := by omega
          go_wp2_with (first | (go_at_call 66; (with_reducible refine (missed_any l _ _ k 1 _ (HR.out.below hbr) hlen G.out hkk (.inl rfl)).mono ?_); rintro e w2 ⟨A2, c2, rfl, ho2, hb2⟩; clear ho2) | (go_at_call 66; (with_reducible refine (missed_any l _ _ k (-1) _ (HR.out.below (bstep hbr hb2)) hlen G.out hkk (.inr rfl)).mono ?_); rintro e w3 ⟨A3, c3, rfl, ho3, hb3⟩; clear ho3))
          go_roundw
          case rel => exact ⟨k + 1, D, A', c', by omega, by go_num, rfl, by omega, Lib.hid (by rw [HN.out]; exact HD.out), bstep (bstep hbr hb2) hb3, own_below (own_below HO.out hb2) hb3⟩
          case measure => simp [intOf]; omega
        · have HN := Lib.hid (withK_yes hw)
          have hw2 := hw
          simp only [withP, Bool.or_eq_true, decide_eq_true_eq] at hw2
          clear hw
          have x3 : (min ((l.filter (missP k 1)).length : Int) ((l.filter (missP k (-1))).length : Int) ≤ n) := by omega
          clear hw2
          go_wp2_with (first | (go_at_call 66; (with_reducible refine (missed_any l _ _ k 1 _ (HR.out.below hbr) hlen G.out hkk (.inl rfl)).mono ?_); rintro e w2 ⟨A2, c2, rfl, ho2, hb2⟩; clear ho2) | (go_at_call 66; (with_reducible refine (missed_any l _ _ k (-1) _ (HR.out.below (bstep hbr hb2)) hlen G.out hkk (.inr rfl)).mono ?_); rintro e w3 ⟨A3, c3, rfl, ho3, hb3⟩; clear ho3) | (at_builtin; refine wpList_app rfl _ _ 44 3 1 8 _ rfl Try.underlying44 infoI rfl (by decide) w.heap.size _ D.length _ (by rfl) ((own_below (own_below HO.out hb2) hb3).alloc _) _ _ (by rfl) (heap_new1 _ _) rfl (encI_one k) (by omega) (by decide) (by have := hb2.size; have := hb3.size; simp; omega) ?_; intro g2 c4 w4 ho4 hg4 hl4))
          go_roundw
          case rel => exact ⟨k + 1, D ++ [(k : Int)], some ⟨g2, 0, none⟩, c4, by omega, by go_num, by simp, by simp; omega, Lib.hid (by rw [HN.out, ← HD.out]), bgrown (balloc (bstep (bstep hbr hb2) hb3) _) hg4 (fun k hk => row_mine HO.out k hk), by simpa [encI] using ho4⟩
          case measure => simp [intOf]; omega
      · obtain rfl : k = 16 := by omega
        have HO := Lib.hid hown
        have HE := Lib.hid HD.out
        clear hown HD
        go_wp2
        go_ret2
        refine ⟨A', c', ?_, ?_, hbr⟩
        · rw [← HE.out]; rfl
        · rw [← HE.out]; exact HO.out
  all_goals
    have ha : withOK l n = false := by simp [withOK, h1, h2]
    have e : withL l n = [] := by simp [withL, ha]
    rw [e, ha]
    clear e ha
    go_enter Try.func40, Try.ntmps40
    go_wp2_with (first | (go_at_call 17; (with_reducible refine (iAreMo_any l _ _ _ HR.out hlen).mono ?_); rintro e w1 ⟨rfl, hb1⟩; obtain ⟨hc_hb1, hf_hb1, hz_hb1⟩ := bcell (B := w.heap.size) (by first | omega | (simp; done) | (simp; omega)) hb1) | (go_at_call 70; (with_reducible refine (in_any _ _ _ _).mono ?_); rw [h2]; rintro e w' ⟨rfl, rfl⟩))
    go_ret2
    exact ⟨none, 0, rfl, World.ownsRow_nil _ _ _ _, hb1⟩

set_option maxHeartbeats 2000000 in
theorem sWith_any (l : List Mo) (A : Option Addr) (c : Nat) (n : Int) (w : World) (hr : RowAt 4 encMo w A l) (hlen : l.length ≤ 2097152) :
    Calls Try.prog 39 #[.slice A l.length c, .int .i64 n] w (MkS2 3 1 (withL l n).length ((withL l n).flatMap encI) (withOK l n) w) := by
  have HR := Lib.hid hr
  clear hr
  cases h1 : goodMo l <;> cases h2 : inB n 0 12
  case true.true =>
    have ha : withOK l n = true := by simp [withOK, h1, h2]
    have e : withL l n = withK l n 16 := by simp [withL, ha]
    rw [e, ha]
    clear e ha
    have G := Lib.hid h1
    go_enter Try.func39, Try.ntmps39
    go_wp2_with (first | (go_at_call 53; (with_reducible refine (sgoodMo_any l _ _ _ (HR.out.below (balloc (bref _) _)) hlen).mono ?_); rintro e w1 ⟨rfl, hb1⟩; obtain ⟨hc_hb1, hf_hb1, hz_hb1⟩ := bcell (B := w.heap.size) (by first | omega | (simp; done) | (simp; omega)) hb1) | (go_at_call 69; (with_reducible refine (l1In_any _ _ _ _).mono ?_); rw [h2]; rintro e w' ⟨rfl, rfl⟩))
    clear hc_hb1 hf_hb1 h1 h2
    have b1 : Below w.heap.size w w1 := bstep (balloc (bref _) _) hb1
    go_loopw [6, 7] (fun v i wr => ∃ (k : Nat) (D : List Int) (A' : Option Addr) (c' : Nat), k ≤ 16 ∧ i = .int .i64 k ∧ v = .slice A' D.length c' ∧ D.length ≤ k ∧ Hid (D = withK l n k) ∧ Below w.heap.size w wr ∧ wr.ownsRow w.heap.size 3 1 (.slice A' D.length c') D.length (D.flatMap encI)) (fun _ i _ => 16 - (intOf i).toNat)
    case atStart => exact ⟨0, [], some ⟨w.heap.size, 0, none⟩, 0, Nat.zero_le _, rfl, rfl, Nat.le_refl _, rfl, b1, own_below (own_made (cur := #[]) rfl (Nat.zero_le _)) hb1⟩
    case round =>
      obtain ⟨k, D, A', c', hk, rfl, rfl, hDl, HD, hbr, hown⟩ := hrel
      by_cases hlt : k < 16
      · have hkk : (0 : Int) ≤ k ∧ (k : Int) ≤ 15 := by omega
        have hk16 : (k : Int) < 16 := by omega
        have HO := Lib.hid hown
        have hsz := hbr.size
        clear hown
        by_cases x1 : ((l.filter (missP k 1)).length : Int) ≤ n
        · have HN := Lib.hid (withK_yes (l := l) (n := n) (k := k) (by simp [withP, x1]))
          go_wp2_with (first | (go_at_call 64; (with_reducible refine (misses_any l _ _ k 1 _ (HR.out.below hbr) hlen G.out hkk (.inl rfl)).mono ?_); rw [missL_len]; rintro e w2 ⟨A2, c2, rfl, ho2, hb2⟩; clear ho2) | (at_builtin; refine wpList_app rfl _ _ 44 3 1 8 _ rfl Try.underlying44 infoI rfl (by decide) w.heap.size _ D.length _ (by rfl) ((own_below HO.out hb2).alloc _) _ _ (by rfl) (heap_new1 _ _) rfl (encI_one k) (by omega) (by decide) (by have := hb2.size; simp; omega) ?_; intro g2 c4 w4 ho4 hg4 hl4))
          go_roundw
          case rel => exact ⟨k + 1, D ++ [(k : Int)], some ⟨g2, 0, none⟩, c4, by omega, by go_num, by simp, by simp; omega, Lib.hid (by rw [HN.out, ← HD.out]), bgrown (balloc (bstep hbr hb2) _) hg4 (fun k hk => row_mine HO.out k hk), by simpa [encI] using ho4⟩
          case measure => simp [intOf]; omega
        · by_cases x2 : ((l.filter (missP k (-1))).length : Int) ≤ n
          · have HN := Lib.hid (withK_yes (l := l) (n := n) (k := k) (by simp [withP, x1, x2]))
            go_wp2_with (first | (go_at_call 64; (with_reducible refine (misses_any l _ _ k 1 _ (HR.out.below hbr) hlen G.out hkk (.inl rfl)).mono ?_); rw [missL_len]; rintro e w2 ⟨A2, c2, rfl, ho2, hb2⟩; clear ho2) | (go_at_call 64; (with_reducible refine (misses_any l _ _ k (-1) _ (HR.out.below (bstep hbr hb2)) hlen G.out hkk (.inr rfl)).mono ?_); rw [missL_len]; rintro e w3 ⟨A3, c3, rfl, ho3, hb3⟩; clear ho3) | (at_builtin; refine wpList_app rfl _ _ 44 3 1 8 _ rfl Try.underlying44 infoI rfl (by decide) w.heap.size _ D.length _ (by rfl) ((own_below (own_below HO.out hb2) hb3).alloc _) _ _ (by rfl) (heap_new1 _ _) rfl (encI_one k) (by omega) (by decide) (by have := hb2.size; have := hb3.size; simp; omega) ?_; intro g2 c4 w4 ho4 hg4 hl4))
            go_roundw
            case rel => exact ⟨k + 1, D ++ [(k : Int)], some ⟨g2, 0, none⟩, c4, by omega, by go_num, by simp, by simp; omega, Lib.hid (by rw [HN.out, ← HD.out]), bgrown (balloc (bstep (bstep hbr hb2) hb3) _) hg4 (fun k hk => row_mine HO.out k hk), by simpa [encI] using ho4⟩
            case measure => simp [intOf]; omega
          · have HN := Lib.hid (withK_no (l := l) (n := n) (k := k) (by simp [withP]; omega))
            go_wp2_with (first | (go_at_call 64; (with_reducible refine (misses_any l _ _ k 1 _ (HR.out.below hbr) hlen G.out hkk (.inl rfl)).mono ?_); rw [missL_len]; rintro e w2 ⟨A2, c2, rfl, ho2, hb2⟩; clear ho2) | (go_at_call 64; (with_reducible refine (misses_any l _ _ k (-1) _ (HR.out.below (bstep hbr hb2)) hlen G.out hkk (.inr rfl)).mono ?_); rw [missL_len]; rintro e w3 ⟨A3, c3, rfl, ho3, hb3⟩; clear ho3))
            go_roundw
            case rel => exact ⟨k + 1, D, A', c', by omega, by go_num, rfl, by omega, Lib.hid (by rw [HN.out]; exact HD.out), bstep (bstep hbr hb2) hb3, own_below (own_below HO.out hb2) hb3⟩
            case measure => simp [intOf]; omega
      · obtain rfl : k = 16 := by omega
        have HO := Lib.hid hown
        have HE := Lib.hid HD.out
        clear hown HD
        go_wp2
        go_ret2
        refine ⟨A', c', ?_, ?_, hbr⟩
        · rw [← HE.out]; rfl
        · rw [← HE.out]; exact HO.out
  all_goals
    have ha : withOK l n = false := by simp [withOK, h1, h2]
    have e : withL l n = [] := by simp [withL, ha]
    rw [e, ha]
    clear e ha
    go_enter Try.func39, Try.ntmps39
    go_wp2_with (first | (go_at_call 53; (with_reducible refine (sgoodMo_any l _ _ _ (HR.out.below (balloc (bref _) _)) hlen).mono ?_); rintro e w1 ⟨rfl, hb1⟩; obtain ⟨hc_hb1, hf_hb1, hz_hb1⟩ := bcell (B := w.heap.size) (by first | omega | (simp; done) | (simp; omega)) hb1) | (go_at_call 69; (with_reducible refine (l1In_any _ _ _ _).mono ?_); rw [h2]; rintro e w' ⟨rfl, rfl⟩))
    go_ret2
    exact ⟨some ⟨w.heap.size, 0, none⟩, 0, rfl, own_below (own_made (cur := #[]) rfl (Nat.zero_le _)) hb1, (by repeat (first | exact bref _ | (refine balloc ?_ _) | (refine bdrew ?_) | (refine bdrewN ?_ _) | (refine bstep ?_ (by assumption))))⟩
end Go.Proofs.Ytefofllkeghfnaa
