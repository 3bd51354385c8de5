/-
  The stations of the motions that a plane with a polarity does not explain: impl and spec compute one list, in new memory.
-/
import Derived.Test.YtefofllkeghfnaaMoExpl
namespace Go.Proofs.Ytefofllkeghfnaa
open Go.RowKit

theorem map_takeI {α β : Type} {f : α → β} {l : List α} {k : Nat} {m : α} (hm : l[k]? = some m) : (l.take (k + 1)).map f = (l.take k).map f ++ [f m] := by
  rw [List.take_add_one, hm]; simp
theorem flat_oneI {α : Type} {enc : α → List Value} {xs : List α} {x : α} : (xs ++ [x]).flatMap enc = xs.flatMap enc ++ enc x := by simp
/-- A row that grows where memory of its own lies, or in new memory. -/
theorem grown_two {a W w1 : World} {g0 : Nat} {row : Option Nat} (h : a.grownBy W (some g0)) (hg : W.grownBy w1 row) (hr : ∀ k, row = some k → k = g0 ∨ a.heap.size ≤ k) : a.grownBy w1 (some g0) :=
  ⟨hg.os.trans h.os, hg.tape.trans h.tape, hg.output.trans h.output, Nat.le_trans h.size hg.size, fun k hk hne => (hg.block k (Nat.lt_of_lt_of_le hk h.size) (by
    rintro e
    rcases hr k e.symm with r | r
    · exact hne (by rw [r])
    · omega)).trans (h.block k hk hne)⟩
def notL (p q : Int) (l : List Mo) : List Int := if askMo p q l then missL p q l else []
theorem notL_le (p q : Int) (l : List Mo) : (notL p q l).length ≤ l.length := by
  unfold notL; split
  · exact missL_le p q l
  · simp

set_option maxHeartbeats 1000000 in
theorem sNot_any (l : List Mo) (A : Option Addr) (c : Nat) (p q : Int) (w : World) (hr : RowAt 4 encMo w A l) (hlen : l.length ≤ 2097152) :
    Calls Try.prog 34 #[.slice A l.length c, .int .i64 p, .int .i64 q] w (MkS2 3 1 (notL p q l).length ((notL p q l).flatMap encI) (askMo p q l) w) := by
  have HR := Lib.hid hr
  clear hr
  cases ha : askMo p q l
  · have e : notL p q l = [] := by simp [notL, ha]
    rw [e]
    clear e
    go_enter Try.func34, Try.ntmps34
    go_wp2_with (go_at_call 63; (with_reducible refine (asked_any l _ _ p q _ HR.out hlen).mono ?_); rintro e w1 ⟨rfl, hb1⟩; obtain ⟨hc_hb1, hf_hb1, hz_hb1⟩ := bcell (B := w.heap.size) (by first | omega | (simp; done) | (simp; omega)) hb1)
    go_ret2
    exact ⟨some ⟨w1.heap.size, 0, none⟩, 0, rfl, own_base (own_made (cur := #[]) rfl (Nat.zero_le _)) hb1.size, balloc hb1 _⟩
  · have e : notL p q l = missL p q l := by simp [notL, ha]
    rw [e]
    clear e
    have HA := Lib.hid ha
    go_enter Try.func34, Try.ntmps34
    go_wp2_with (go_at_call 63; (with_reducible refine (asked_any l _ _ p q _ HR.out hlen).mono ?_); rintro e w1 ⟨rfl, hb1⟩; obtain ⟨hc_hb1, hf_hb1, hz_hb1⟩ := bcell (B := w.heap.size) (by first | omega | (simp; done) | (simp; omega)) hb1)
    clear ha
    unfold askMo at HA
    have h3 := HA.out
    simp only [Bool.and_eq_true] at h3
    obtain ⟨⟨g1, g2⟩, g3⟩ := h3
    have G := Lib.hid g1
    have P := Lib.hid (inB_true g2)
    have Q := Lib.hid (pol_of g3)
    clear g1 g2 g3
    go_wp2_with (go_at_call 64; (with_reducible refine (misses_any l _ _ p q _ (HR.out.below hb1) hlen G.out P.out Q.out).mono ?_); rintro e w2 ⟨A2, c2, rfl, ho2, hb2⟩; have HO := Lib.hid ho2; clear ho2)
    go_ret2
    exact ⟨A2, c2, rfl, own_base HO.out hb1.size, bstep hb1 hb2⟩

set_option maxHeartbeats 1000000 in
theorem iNot_any (l : List Mo) (A : Option Addr) (c : Nat) (p q : Int) (w : World) (hr : RowAt 4 encMo w A l) (hlen : l.length ≤ 2097152) :
    Calls Try.prog 35 #[.slice A l.length c, .int .i64 p, .int .i64 q] w (MkS2 3 1 (notL p q l).length ((notL p q l).flatMap encI) (askMo p q l) w) := by
  have HR := Lib.hid hr
  clear hr
  cases h1 : goodMo l <;> cases h2 : inB p 0 15 <;> cases h3 : (q == 1 || q == -1)
  case true.true.true =>
    have ha : askMo p q l = true := by simp [askMo, h1, h2, h3]
    have e : notL p q l = (l.filter (missP p q)).map Mo.st := by simp [notL, ha, missL]
    rw [e, ha]
    clear e ha
    have G := Lib.hid h1
    have P := Lib.hid (inB_true h2)
    have Q := Lib.hid (pol_of h3)
    have hF : (l.filter (missP p q)).length ≤ l.length := List.length_filter_le _ _
    go_enter Try.func35, Try.ntmps35
    go_wp2_with (first | (go_at_call 17; (with_reducible refine (iAreMo_any l _ _ _ HR.out hlen).mono ?_); rintro e w1 ⟨rfl, hb1⟩; obtain ⟨hc_hb1, hf_hb1, hz_hb1⟩ := bcell (B := w.heap.size) (by first | omega | (simp; done) | (simp; omega)) hb1) | (go_at_call 61; (with_reducible refine (isPlane_any _ _).mono ?_); rintro e w' ⟨rfl, rfl⟩) | (go_at_call 65; (with_reducible refine (isPolarity_any _ _).mono ?_); rw [h3]; rintro e w' ⟨rfl, rfl⟩) | (go_at_call 66; (with_reducible refine (missed_any l _ _ p q _ (HR.out.below (balloc hb1 _)) hlen G.out P.out Q.out).mono ?_); rintro e w2 ⟨A2, c2, rfl, ho2, hb2⟩))
    have HF := Lib.hid ho2
    have hs1 : w1.heap.size < w2.heap.size := by have := hb2.size; simp at this; omega
    have b2 : Below w.heap.size w w2 := bstep (balloc hb1 _) hb2
    have ho1 := Lib.hid (own_below (own_base (own_made (E := 3) (K := 1) (n := 0) (cur := #[]) (w := w1) rfl (Nat.zero_le _)) hb1.size) hb2)
    clear ho2 hc_hb1 hf_hb1 h1 h2 h3 P Q G
    generalize l.filter (missP p q) = fl at *
    go_loopw [8, 30] (fun v i wr => ∃ (k : Nat) (A' : Option Addr) (c' : Nat), k ≤ fl.length ∧ i = .int .i64 k ∧ v = .slice A' k c' ∧ Below w.heap.size w wr ∧ w2.grownBy wr (some w1.heap.size) ∧ Hid (∀ k' : Nat, (Value.slice A' k c').ownBlock = some k' → k' = w1.heap.size ∨ w2.heap.size ≤ k') ∧ wr.ownsRow w.heap.size 3 1 (.slice A' k c') k (((fl.take k).map Mo.st).flatMap encI)) (fun _ i _ => fl.length - (intOf i).toNat)
    case atStart => exact ⟨0, some ⟨w1.heap.size, 0, none⟩, 0, Nat.zero_le _, rfl, rfl, b2, World.grownBy.refl _ _, Lib.hid (fun k' e => .inl (by simpa [Value.ownBlock] using e.symm)), ho1.out⟩
    case round =>
      obtain ⟨k, A', c', hk, rfl, rfl, hbr, hgr2, hap, hown⟩ := hrel
      by_cases hlt : k < fl.length
      · obtain ⟨m, hm⟩ := some_get hlt
        have i0 := ib0 k
        have i1 := ib1 hlt
        obtain ⟨b, off, rfl, hb, q0, q1, q2, q3⟩ := (RowAt.of_own (HF.out.kept hgr2 (own_apart HF.out (by intro k e; cases e; simp))) encMo_len (by omega)).mo hm
        have HM := Lib.hid hm
        have HO := Lib.hid hown
        have hsz := hbr.size
        have hsz2 := b2.size
        clear hm hown
        go_wp2_with (at_builtin; refine wpList_app rfl _ _ 44 3 1 8 _ rfl Try.underlying44 infoI rfl (by decide) w.heap.size _ k _ (by rfl) ((HO.out.alloc _).alloc _) _ _ (by rfl) (heap_new2 _ _ _) rfl (encI_one m.st) (by omega) (by decide) (by simp; omega) ?_; intro g2 c2 w3 ho3 hg3 hl3)
        go_roundw
        case rel => exact ⟨k + 1, _, c2, by omega, by go_num, rfl, bgrown (balloc (balloc hbr _) _) hg3 (fun k hk => by have := row_mine HO.out k hk; omega), grown_two (only_alloc (only_alloc hgr2 _) _) hg3 hap.out, Lib.hid (fun k' e => by
            rcases hl3 with r | r
            · exact hap.out k' (r.trans (by simpa [Value.ownBlock] using e))
            · have := hgr2.size
              have e' : g2 = k' := by simpa [Value.ownBlock] using e
              simp at r
              exact .inr (by omega)), by rw [map_takeI HM.out, flat_oneI]; exact ho3⟩
        case measure => simp [intOf]; omega
      · obtain rfl : k = fl.length := by omega
        have HO := Lib.hid hown
        clear hown
        go_wp2
        go_ret2
        exact ⟨A', c', by simp, by simpa using HO.out, hbr⟩
  all_goals
    have ha : askMo p q l = false := by simp [askMo, h1, h2, h3]
    have e : notL p q l = [] := by simp [notL, ha]
    rw [e, ha]
    clear e ha
    go_enter Try.func35, Try.ntmps35
    go_wp2_with (first | (go_at_call 17; (with_reducible refine (iAreMo_any l _ _ _ HR.out hlen).mono ?_); rintro e w1 ⟨rfl, hb1⟩; obtain ⟨hc_hb1, hf_hb1, hz_hb1⟩ := bcell (B := w.heap.size) (by first | omega | (simp; done) | (simp; omega)) hb1) | (go_at_call 61; (with_reducible refine (isPlane_any _ _).mono ?_); rintro e w' ⟨rfl, rfl⟩) | (go_at_call 65; (with_reducible refine (isPolarity_any _ _).mono ?_); rw [h3]; rintro e w' ⟨rfl, rfl⟩))
    go_ret2
    exact ⟨none, 0, rfl, World.ownsRow_nil _ _ _ _, hb1⟩
end Go.Proofs.Ytefofllkeghfnaa
