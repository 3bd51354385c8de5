/-
  Who has duties, each once, in order: impl sorts and compacts, spec puts one after the other.
-/
import Derived.Test.YtldhlmjfpnpamaaDuOn
import Derived.Test.YtldhlmjfpnpamaaIntSort
import Derived.Test.YtldhlmjfpnpamaaPut
namespace Go.Proofs.Ytldhlmjfpnpamaa
open Go.RowKit
attribute [local go_sem] ext_cell ext_frozen

theorem map_takeI {α β : Type} {f : α → β} {l : List α} {k : Nat} {m : α} (hm : l[k]? = some m) : (l.take (k + 1)).map f = (l.take k).map f ++ [f m] := by
  rw [List.take_add_one, hm]; simp
theorem flat_oneI {α : Type} {enc : α → List Value} {xs : List α} {x : α} : (xs ++ [x]).flatMap enc = xs.flatMap enc ++ enc x := by simp
theorem putI_len (x : Int) : ∀ l : List Int, (putI x l).length ≤ l.length + 1
  | [] => by simp [putI]
  | y :: ys => by
    have := putI_len x ys
    unfold putI
    split
    · simp; omega
    · split <;> simp
theorem putAll_len (L : List Int) : ∀ k, k ≤ L.length → (putAll (L.take k)).length ≤ k
  | 0, _ => by simp [putAll]
  | k + 1, h => by
    obtain ⟨m, hm⟩ := some_get (show k < L.length by omega)
    have := putAll_len L k (by omega)
    have h2 := putI_len m (putAll (L.take k))
    rw [putAll_succ hm]; omega
def whoL (l : List Du) : List Int := putAll (l.map Du.who)
theorem whoL_le (l : List Du) : (whoL l).length ≤ l.length := by
  have := putAll_len (l.map Du.who) l.length (by simp)
  rw [List.take_of_length_le (by simp)] at this
  exact this
theorem whoL_app (l : List Du) (m : Du) : whoL (l ++ [m]) = putI m.who (whoL l) := by simp [whoL, putAll, List.foldl_append]

set_option maxRecDepth 100000 in
set_option maxHeartbeats 1000000 in
theorem whos_any (l : List Du) (A : Option Addr) (c : Nat) (w : World) (hr : RowAt 4 encDu w A l) (hlen : l.length ≤ 2097152) :
    Calls Try.prog 70 #[.slice A l.length c] w (MkS 3 1 (whoL l).length ((whoL l).flatMap encI) w) := by
  have HR := Lib.hid hr
  clear hr
  go_enter Try.func70, Try.ntmps70
  go_wp2_with fail
  go_loopw [3, 9] (fun v i wr => ∃ (k g c' : Nat), k ≤ l.length ∧ i = .int .i64 k ∧ v = .slice (some ⟨g, 0, none⟩) k c' ∧ Below w.heap.size w wr ∧ wr.ownsRow w.heap.size 3 1 (.slice (some ⟨g, 0, none⟩) k c') k (((l.take k).map Du.who).flatMap encI)) (fun _ i _ => l.length - (intOf i).toNat)
  case atStart => exact ⟨0, w.heap.size, 0, Nat.zero_le _, rfl, rfl, balloc (bref _) _, own_made (cur := #[]) rfl (Nat.zero_le _)⟩
  case round =>
    obtain ⟨k, g, c', hk, rfl, rfl, hbr, hown⟩ := hrel
    by_cases hlt : k < l.length
    · obtain ⟨m, hm⟩ := some_get hlt
      have i0 := ib0 k
      have i1 := ib1 hlt
      obtain ⟨b, off, rfl, hb, q0, q1, q2, q3⟩ := (HR.out.below hbr).du hm
      have HM := Lib.hid hm
      have HO := Lib.hid hown
      have hsz := hbr.size
      clear hm hown
      go_wp2_with (at_builtin; refine wpList_app rfl _ _ 51 3 1 8 _ rfl Try.underlying51 infoI rfl (by decide) w.heap.size _ k _ (by rfl) ((HO.out.alloc _).alloc _) _ _ (by rfl) (heap_new2 _ _ _) rfl (encI_one m.who) (by omega) (by decide) (by simp; omega) ?_; intro g2 c2 w3 ho3 hg3 hl3)
      go_roundw
      case rel => exact ⟨k + 1, g2, c2, by omega, by go_num, rfl, bgrown (balloc (balloc hbr _) _) hg3 (fun k hk => by have := row_mine HO.out k hk; omega), by rw [map_takeI HM.out, flat_oneI]; exact ho3⟩
      case measure => simp [intOf]; omega
    · obtain rfl : k = l.length := by omega
      rw [List.take_length] at hown
      have ht := hown.lt g rfl
      have hown' : wr.ownsRow w.heap.size 3 1 (.slice (some ⟨g, 0, none⟩) (l.map Du.who).length c') (l.map Du.who).length ((l.map Du.who).flatMap encI) := by rw [List.length_map]; exact hown
      have hS := sort_any (l.map Du.who) g c' w.heap.size wr hown' (by simpa using hlen)
      simp only [List.length_map] at hS
      have HS := Lib.hid hS
      have HP := Lib.hid (sortC_putAll (l.map Du.who))
      have hSl : ((l.map Du.who).mergeSort fun x y => decide (x ≤ y)).length = l.length := by simp
      have HSl := Lib.hid hSl
      unfold sortC at HP
      clear hS hown hown' hSl HR
      generalize ((l.map Du.who).mergeSort fun x y => decide (x ≤ y)) = S at *
      go_wp2_with fail
      refine HS.out.mono ?_; rintro e w1 ⟨rfl, ho1, hg1⟩
      have b1 := bgrown hbr hg1 (fun k hk => by cases hk; exact ht.1)
      have hC := compact_any S g c' w.heap.size w1 (by rw [HSl.out]; exact ho1) (by rw [HSl.out]; exact hlen)
      rw [HSl.out, HP.out] at hC
      have HC := Lib.hid hC
      clear hC ho1 HS
      go_wp2_with fail
      refine HC.out.mono ?_; rintro e w2 ⟨rfl, ho2, hg2⟩
      have HO2 := Lib.hid ho2
      have b2 := bgrown b1 hg2 (fun k hk => by cases hk; exact ht.1)
      clear ho2 HC
      go_wp2
      go_ret
      exact ⟨_, _, rfl, HO2.out, b2⟩

def onDutyL (h : Int) (l : List Du) : List Int := if goodDu l && inB h 0 9998 then whoL (onL h l) else []
theorem onDutyL_le (h : Int) (l : List Du) : (onDutyL h l).length ≤ l.length := by
  unfold onDutyL; split
  · exact Nat.le_trans (whoL_le _) (onL_le _ _)
  · simp
def onOK (h : Int) (l : List Du) : Bool := goodDu l && inB h 0 9998

set_option maxRecDepth 100000 in
set_option maxHeartbeats 1000000 in
theorem iOn_any (l : List Du) (A : Option Addr) (c : Nat) (h : Int) (w : World) (hr : RowAt 4 encDu w A l) (hlen : l.length ≤ 2097152) (hcap : l.length ≤ c) :
    Calls Try.prog 40 #[.slice A l.length c, .int .i64 h] w (MkS2 3 1 (onDutyL h l).length ((onDutyL h l).flatMap encI) (onOK h l) w) := by
  have HR := Lib.hid hr
  clear hr
  cases hg : goodDu l <;> cases h2 : inB h 0 9998
  case true.true =>
    have e : onDutyL h l = whoL (onL h l) := by simp [onDutyL, hg, h2]
    have e2 : onOK h l = true := by simp [onOK, hg, h2]
    rw [e, e2]
    clear e e2
    have HG := Lib.hid (goodDu_all hg)
    have hle := onL_le h l
    go_enter Try.func40, Try.ntmps40
    go_wp2_with (first | (go_at_call 20; (with_reducible refine (iAreDu_any l _ _ _ HR.out hlen hcap).mono ?_); rintro e w1 ⟨rfl, hb1⟩; obtain ⟨hc_hb1, hf_hb1, hz_hb1⟩ := bcell (B := w.heap.size) (by first | omega | (simp; done) | (simp; omega)) hb1) | (go_at_call 54; (with_reducible refine (in_any _ _ _ _).mono ?_); rintro e w' ⟨rfl, rfl⟩) | (go_at_call 66; (with_reducible refine (onDuty_any l _ _ h _ (HR.out.below hb1) hlen HG.out).mono ?_); rintro e w2 ⟨A2, c2, rfl, ho2, hb2⟩; have HO := Lib.hid (RowAt.of_own ho2 encDu_len (by omega)); clear ho2) | (go_at_call 70; (with_reducible refine (whos_any (onL h l) _ _ _ HO.out (by omega)).mono ?_); rintro e w3 ⟨A3, c3, rfl, ho3, hb3⟩; have HO3 := Lib.hid ho3; clear ho3))
    go_ret2
    exact ⟨A3, c3, rfl, own_base HO3.out (Nat.le_trans hb1.size hb2.size), bstep (bstep hb1 hb2) hb3⟩
  all_goals
    have e : onDutyL h l = [] := by simp [onDutyL, hg, h2]
    have e2 : onOK h l = false := by simp [onOK, hg, h2]
    rw [e, e2]
    clear e e2
    go_enter Try.func40, Try.ntmps40
    go_wp2_with (first | (go_at_call 20; (with_reducible refine (iAreDu_any l _ _ _ HR.out hlen hcap).mono ?_); rintro e w1 ⟨rfl, hb1⟩; obtain ⟨hc_hb1, hf_hb1, hz_hb1⟩ := bcell (B := w.heap.size) (by first | omega | (simp; done) | (simp; omega)) hb1) | (go_at_call 54; (with_reducible refine (in_any _ _ _ _).mono ?_); rintro e w' ⟨rfl, rfl⟩))
    go_ret2
    exact ⟨none, 0, rfl, World.ownsRow_nil _ _ _ _, hb1⟩

set_option maxRecDepth 100000 in
set_option maxHeartbeats 1000000 in
theorem sOn_any (l : List Du) (A : Option Addr) (c : Nat) (h : Int) (w : World) (hr : RowAt 4 encDu w A l) (hlen : l.length ≤ 2097152) :
    Calls Try.prog 39 #[.slice A l.length c, .int .i64 h] w (MkS2 3 1 (onDutyL h l).length ((onDutyL h l).flatMap encI) (onOK h l) w) := by
  have HR := Lib.hid hr
  clear hr
  cases hg : goodDu l <;> cases h2 : inB h 0 9998
  case true.true =>
    have HE := Lib.hid (show onDutyL h l = whoL (onL h l) by simp [onDutyL, hg, h2])
    have e2 : onOK h l = true := by simp [onOK, hg, h2]
    rw [e2]
    clear e2
    go_enter Try.func39, Try.ntmps39
    go_wp2_with (first | (go_at_call 55; (with_reducible refine (sgoodDu_any l _ _ _ (HR.out.below (balloc (bref _) _)) hlen).mono ?_); rintro e w1 ⟨rfl, hb1⟩; obtain ⟨hc_hb1, hf_hb1, hz_hb1⟩ := bcell (B := w.heap.size + 1) (by first | omega | (simp; done) | (simp; omega)) hb1) | (go_at_call 64; (with_reducible refine (l1In_any _ _ _ _).mono ?_); rintro e w' ⟨rfl, rfl⟩))
    have b1 := bstep (balloc (bref _) _) hb1
    have ho1 := Lib.hid (own_below (own_made (E := 3) (K := 1) (n := 0) (cur := #[]) (w := w) rfl (Nat.zero_le _)) hb1)
    clear hb1 hc_hb1 hf_hb1 hg h2
    go_loopw [6, 7] (fun v i wr => ∃ (k : Nat) (D : List Int) (A' : Option Addr) (c' : Nat), k ≤ l.length ∧ i = .int .i64 k ∧ v = .slice A' D.length c' ∧ D.length ≤ k ∧ Hid (D = whoL (onL h (l.take k))) ∧ Below w.heap.size w wr ∧ wr.ownsRow w.heap.size 3 1 (.slice A' D.length c') D.length (D.flatMap encI)) (fun _ i _ => l.length - (intOf i).toNat)
    case atStart => exact ⟨0, [], some ⟨w.heap.size, 0, none⟩, 0, Nat.zero_le _, rfl, rfl, Nat.le_refl _, rfl, b1, ho1.out⟩
    case round =>
      obtain ⟨k, D, A', c', hk, rfl, rfl, hDl, HD, hbr, hown⟩ := hrel
      have HO := Lib.hid hown
      clear hown
      by_cases hlt : k < l.length
      · obtain ⟨m, hm⟩ := some_get hlt
        have i0 := ib0 k
        have i1 := ib1 hlt
        obtain ⟨b, off, rfl, hb, q0, q1, q2, q3⟩ := (HR.out.below hbr).du hm
        cases hp : hasH h m
        · have HN := Lib.hid (onL_miss hm hp)
          clear hm
          go_wp2_with (go_at_call 65; (with_reducible refine (l17Has_any _ _ _).mono ?_); rw [hp]; rintro e w2 ⟨rfl, hb2⟩)
          go_roundw
          case rel => exact ⟨k + 1, D, A', c', by omega, by go_num, rfl, by omega, Lib.hid (by rw [HN.out]; exact HD.out), bstep hbr hb2, own_below HO.out hb2⟩
          case measure => simp [intOf]; omega
        · have HN := Lib.hid (onL_hit hm hp)
          clear hm
          go_wp2_with (first | (go_at_call 65; (with_reducible refine (l17Has_any _ _ _).mono ?_); rw [hp]; rintro e w2 ⟨rfl, hb2⟩; obtain ⟨hc_2, _, hz_2⟩ := bcell (B := wr.heap.size) (Nat.le_refl _) hb2) | (go_at_call 77; (with_reducible refine (l1Put_any D m.who _ _ w.heap.size _ (own_below HO.out hb2) (by omega) (Nat.le_trans hbr.size hb2.size)).mono ?_); rintro e w3 ⟨A3, c3, rfl, ho3, hb3⟩; have HO3 := Lib.hid ho3; clear ho3))
          go_roundw
          case rel => exact ⟨k + 1, putI m.who D, A3, c3, by omega, by go_num, rfl, (by have := putI_len m.who D; omega), Lib.hid (by rw [HN.out, whoL_app, HD.out]), bstep (bstep hbr hb2) hb3, HO3.out⟩
          case measure => simp [intOf]; omega
      · obtain rfl : k = l.length := by omega
        have HF := Lib.hid (show onDutyL h l = D by rw [HE.out, HD.out, List.take_length])
        clear HR
        go_wp2
        go_ret2
        refine ⟨A', c', ?_, ?_, hbr⟩
        · rw [HF.out]; rfl
        · rw [HF.out]; exact HO.out
  all_goals
    have e : onDutyL h l = [] := by simp [onDutyL, hg, h2]
    have e2 : onOK h l = false := by simp [onOK, hg, h2]
    rw [e, e2]
    clear e e2
    go_enter Try.func39, Try.ntmps39
    go_wp2_with (first | (go_at_call 55; (with_reducible refine (sgoodDu_any l _ _ _ (HR.out.below (balloc (bref _) _)) hlen).mono ?_); rintro e w1 ⟨rfl, hb1⟩; obtain ⟨hc_hb1, hf_hb1, hz_hb1⟩ := bcell (B := w.heap.size + 1) (by first | omega | (simp; done) | (simp; omega)) hb1) | (go_at_call 64; (with_reducible refine (l1In_any _ _ _ _).mono ?_); rintro e w' ⟨rfl, rfl⟩))
    go_ret2
    exact ⟨some ⟨w.heap.size, 0, none⟩, 0, rfl, own_below (own_made (cur := #[]) rfl (Nat.zero_le _)) hb1, bstep (balloc (bref _) _) hb1⟩
end Go.Proofs.Ytldhlmjfpnpamaa
