/-
  The numbers of the packets: impl sorts and compacts, spec puts each new one in its place.
-/
import Derived.Test.YtifkakpiipoadaaPkFirst
import Derived.Test.YtifkakpiipoadaaIntSort
import Derived.Test.YtifkakpiipoadaaPut
namespace Go.Proofs.Ytifkakpiipoadaa
set_option linter.unusedVariables false
set_option linter.unusedSimpArgs false
set_option linter.unnecessarySimpa false
open Go.RowKit
attribute [local go_sem] ext_cell ext_frozen

theorem map_takeI {α β : Type} {f : α → β} {l : List α} {k : Nat} {m : α} (hm : l[k]? = some m) : (l.take (k + 1)).map f = (l.take k).map f ++ [f m] := by
  rw [List.take_add_one, hm]; simp
theorem flat_oneI {α : Type} {enc : α → List Value} {xs : List α} {x : α} : (xs ++ [x]).flatMap enc = xs.flatMap enc ++ enc x := by simp
theorem putI_len (x : Int) : ∀ l : List Int, (putI x l).length ≤ l.length + 1
  | [] => by simp [putI]
  | y :: ys => by
    have := putI_len x ys
    unfold putI
    split
    · simp; omega
    · split <;> simp
theorem putAll_len (L : List Int) : ∀ k, k ≤ L.length → (putAll (L.take k)).length ≤ k
  | 0, _ => by simp [putAll]
  | k + 1, h => by
    obtain ⟨m, hm⟩ := some_get (show k < L.length by omega)
    have := putAll_len L k (by omega)
    have h2 := putI_len m (putAll (L.take k))
    rw [putAll_succ hm]; omega
theorem putI_in {x : Int} : ∀ {l : List Int}, asc l → x ∈ l → putI x l = l
  | [], _, h => by simp at h
  | y :: ys, h, hx => by
    have h' := List.pairwise_cons.1 h
    unfold putI
    rcases List.mem_cons.1 hx with e | e
    · subst e
      rw [if_neg (by omega), if_pos rfl]
    · have := h'.1 x e
      rw [if_pos this, putI_in h'.2 e]
def numsP (l : List PP) : List Int := putAll (l.map Prod.fst)
theorem numsP_le (l : List PP) : (numsP l).length ≤ l.length := by
  have := putAll_len (l.map Prod.fst) l.length (by simp)
  rw [List.take_of_length_le (by simp)] at this
  exact this
def numsAt (l : List PP) (k : Nat) : List Int := putAll ((l.take k).map Prod.fst)
theorem numsAt_succ {l : List PP} {k : Nat} {p : PP} (h : l[k]? = some p) : numsAt l (k + 1) = putI p.1 (numsAt l k) := by
  unfold numsAt
  rw [map_takeI h]
  simp [putAll, List.foldl_append]
theorem numsAt_old {l : List PP} {k : Nat} {p : PP} (h : l[k]? = some p) (hf : firstP p.1 l < k) : numsAt l (k + 1) = numsAt l k := by
  rw [numsAt_succ h]
  obtain ⟨j, m, e, hm, h1⟩ := first_get (first_le h).1
  refine putI_in (putAll_asc _) (putAll_mem.2 ?_)
  rw [← h1, List.mem_map]
  refine ⟨m, List.mem_of_getElem? (i := j) ?_, rfl⟩
  rw [List.getElem?_take, if_pos (by omega)]
  exact hm
theorem numsAt_len (l : List PP) (k : Nat) (h : k ≤ l.length) : (numsAt l k).length ≤ k := by
  have := putAll_len (l.map Prod.fst) k (by simpa using h)
  unfold numsAt
  rw [List.map_take]
  exact this
theorem nums_bd {l : List Pk} (hg : goodP (plS l) = true) : ∀ x ∈ numsP (plS l), 0 ≤ x ∧ x ≤ 999 := fun x hx => by
  unfold numsP plS at hx
  rw [putAll_mem, List.map_map, List.mem_map] at hx
  obtain ⟨m, hm, rfl⟩ := hx
  exact (onePk_bounds (goodP_one hg m hm)).1

set_option maxRecDepth 100000 in
set_option maxHeartbeats 2000000 in
theorem good_any (l : List Pk) (A : Option Addr) (c : Nat) (w : World) (hr : RowAt 2 encPk w A l) (hlen : l.length ≤ 2097152) :
    Calls Try.prog 80 #[.slice A l.length c] w (MkS 3 1 (numsP (plS l)).length ((numsP (plS l)).flatMap encI) w) := by
  have HR := Lib.hid hr
  have HE := Lib.hid (show (plS l).map Prod.fst = l.map Pk.no by simp [plS, Pk.pl])
  clear hr
  go_enter Try.func80, Try.ntmps80
  go_wp2_with fail
  go_loopw [3, 9] (fun v i wr => ∃ (k g c' : Nat), k ≤ l.length ∧ i = .int .i64 k ∧ v = .slice (some ⟨g, 0, none⟩) k c' ∧ Below w.heap.size w wr ∧ wr.ownsRow w.heap.size 3 1 (.slice (some ⟨g, 0, none⟩) k c') k (((l.take k).map Pk.no).flatMap encI)) (fun _ i _ => l.length - (intOf i).toNat)
  case atStart => exact ⟨0, w.heap.size, 0, Nat.zero_le _, rfl, rfl, balloc (bref _) _, own_made (cur := #[]) rfl (Nat.zero_le _)⟩
  case round =>
    obtain ⟨k, g, c', hk, rfl, rfl, hbr, hown⟩ := hrel
    by_cases hlt : k < l.length
    · obtain ⟨m, hm⟩ := some_get hlt
      have i0 := ib0 k
      have i1 := ib1 hlt
      obtain ⟨b, off, rfl, hb, q0, q1⟩ := (HR.out.below hbr).pkc hm
      have HM := Lib.hid hm
      have HO := Lib.hid hown
      have hsz := hbr.size
      clear hm hown
      go_wp2_with (at_builtin; refine wpList_app rfl _ _ 29 3 1 8 _ rfl Try.underlying29 infoI rfl (by decide) w.heap.size _ k _ (by rfl) ((HO.out.alloc _).alloc _) _ _ (by rfl) (heap_new2 _ _ _) rfl (encI_one m.no) (by omega) (by decide) (by simp; omega) ?_; intro g2 c2 w3 ho3 hg3 hl3)
      go_roundw
      case rel => exact ⟨k + 1, g2, c2, by omega, by go_num, rfl, bgrown (balloc (balloc hbr _) _) hg3 (fun k hk => by have := row_mine HO.out k hk; omega), by rw [map_takeI HM.out, flat_oneI]; exact ho3⟩
      case measure => simp [intOf]; omega
    · obtain rfl : k = l.length := by omega
      rw [List.take_length] at hown
      have ht := hown.lt g rfl
      have hown' : wr.ownsRow w.heap.size 3 1 (.slice (some ⟨g, 0, none⟩) (l.map Pk.no).length c') (l.map Pk.no).length ((l.map Pk.no).flatMap encI) := by rw [List.length_map]; exact hown
      have hS := sort_any (l.map Pk.no) g c' w.heap.size wr hown' (by simpa using hlen)
      simp only [List.length_map] at hS
      have HS := Lib.hid hS
      have HP := Lib.hid (show sortC (l.map Pk.no) = numsP (plS l) by rw [sortC_putAll, numsP, HE.out])
      have hSl : ((l.map Pk.no).mergeSort fun x y => decide (x ≤ y)).length = l.length := by simp
      have HSl := Lib.hid hSl
      unfold sortC at HP
      clear hS hown hown' hSl HR
      generalize ((l.map Pk.no).mergeSort fun x y => decide (x ≤ y)) = S at *
      go_wp2_with fail
      refine HS.out.mono ?_; rintro e w1 ⟨rfl, ho1, hg1⟩
      have b1 := bgrown hbr hg1 (fun k hk => by cases hk; exact ht.1)
      have hC := compact_any S g c' w.heap.size w1 (by rw [HSl.out]; exact ho1) (by rw [HSl.out]; exact hlen)
      rw [HSl.out, HP.out] at hC
      have HC := Lib.hid hC
      clear hC ho1 HS
      go_wp2_with fail
      refine HC.out.mono ?_; rintro e w2 ⟨rfl, ho2, hg2⟩
      have HO2 := Lib.hid ho2
      have b2 := bgrown b1 hg2 (fun k hk => by cases hk; exact ht.1)
      clear ho2 HC
      go_wp2
      go_ret
      exact ⟨_, _, rfl, HO2.out, b2⟩

set_option maxRecDepth 100000 in
set_option maxHeartbeats 2000000 in
theorem l15Numbers_any (l : List Pk) (A : Option Addr) (c : Nat) (w : World) (hr : RowAt 2 encPk w A l) (hlen : l.length ≤ 1048576) :
    Calls Try.prog 79 #[.slice A l.length c] w (MkS 3 1 (numsP (plS l)).length ((numsP (plS l)).flatMap encI) w) := by
  have HR := Lib.hid hr
  clear hr
  go_enter Try.func79, Try.ntmps79
  go_wp2_with fail
  go_loopw [3, 4] (fun v i wr => ∃ (k : Nat) (D : List Int) (A' : Option Addr) (c' : Nat), k ≤ l.length ∧ i = .int .i64 k ∧ v = .slice A' D.length c' ∧ D.length ≤ k ∧ Hid (D = numsAt (plS l) k) ∧ Below w.heap.size w wr ∧ wr.ownsRow w.heap.size 3 1 (.slice A' D.length c') D.length (D.flatMap encI)) (fun _ i _ => l.length - (intOf i).toNat)
  case atStart => exact ⟨0, [], some ⟨w.heap.size, 0, none⟩, 0, Nat.zero_le _, rfl, rfl, Nat.le_refl _, rfl, balloc (bref _) _, own_made (cur := #[]) rfl (Nat.zero_le _)⟩
  case round =>
    obtain ⟨k, D, A', c', hk, rfl, rfl, hDl, HD, hbr, hown⟩ := hrel
    have HO := Lib.hid hown
    have hsz := hbr.size
    clear hown
    by_cases hlt : k < l.length
    · obtain ⟨m, hm⟩ := some_get hlt
      have i0 := ib0 k
      have i1 := ib1 hlt
      have hF := first_le (plS_get hm)
      simp only at hF
      have HM := Lib.hid (plS_get hm)
      obtain ⟨b, off, rfl, hb, q0, q1⟩ := (HR.out.below hbr).pkc hm
      clear hm
      by_cases hfk : firstP m.no (plS l) = k
      · have hq : (firstP m.no (plS l) == (k : Int)) = true := by simpa using hfk
        have HN := Lib.hid (numsAt_succ HM.out)
        clear hF hfk
        go_wp2_with (first | (go_at_call 64; (with_reducible refine (l15First_any l _ _ _ _ (HR.out.below hbr) (by omega)).mono ?_); rintro e w' ⟨rfl, rfl⟩) | (go_at_call 101; (with_reducible refine (l1Put_any D m.no _ _ w.heap.size _ HO.out (by omega) hsz).mono ?_); rintro e w3 ⟨A3, c3, rfl, ho3, hb3⟩; have HO3 := Lib.hid ho3; clear ho3))
        go_roundw
        case rel => exact ⟨k + 1, putI m.no D, A3, c3, by omega, by go_num, rfl, (by have := putI_len m.no D; omega), Lib.hid (by rw [HN.out, HD.out]), bstep hbr hb3, HO3.out⟩
        case measure => simp [intOf]; omega
      · have hq : (firstP m.no (plS l) == (k : Int)) = false := by simpa using hfk
        have HN := Lib.hid (numsAt_old HM.out (by simp only; omega))
        clear hF hfk
        go_wp2_with (go_at_call 64; (with_reducible refine (l15First_any l _ _ _ _ (HR.out.below hbr) (by omega)).mono ?_); rintro e w' ⟨rfl, rfl⟩)
        go_roundw
        case rel => exact ⟨k + 1, D, A', c', by omega, by go_num, rfl, by omega, Lib.hid (by rw [HN.out]; exact HD.out), hbr, HO.out⟩
        case measure => simp [intOf]; omega
    · obtain rfl : k = l.length := by omega
      have HF := Lib.hid (show numsP (plS l) = D by rw [HD.out, numsAt, numsP, List.take_of_length_le (by rw [plS_len]; exact Nat.le_refl _)])
      go_wp2
      go_ret
      rw [HF.out]
      exact ⟨A', c', rfl, HO.out, hbr⟩

def numR (l : List PP) : List Int := if goodP l then numsP l else []
theorem numR_le (l : List PP) : (numR l).length ≤ 10 := by
  unfold numR; split
  · rename_i h
    have := numsP_le l
    unfold goodP at h
    simp only [Bool.and_eq_true, decide_eq_true_eq] at h
    omega
  · simp
set_option maxHeartbeats 1000000 in
theorem iNum_any (l : List Pk) (A : Option Addr) (c : Nat) (w : World) (hr : PkAt w A l) (hlen : tot l ≤ 1048576) :
    Calls Try.prog 38 #[.slice A l.length c] w (MkS2 3 1 (numR (plS l)).length ((numR (plS l)).flatMap encI) (goodP (plS l)) w) := by
  have hl : l.length ≤ 2097152 := by unfold tot at hlen; omega
  have HR := Lib.hid hr
  have HT := Lib.hid hlen
  clear hr hlen
  cases hg : goodP (plS l)
  · have HE := Lib.hid (show numR (plS l) = [] by simp [numR, hg])
    go_enter Try.func38, Try.ntmps38
    go_wp2_with (go_at_call 18; (with_reducible refine (iAreP_any l _ _ _ HR.out (by have := HT.out; omega)).mono ?_); rw [hg]; rintro e w1 ⟨rfl, hb1⟩)
    go_ret2
    rw [HE.out]
    exact ⟨none, 0, rfl, World.ownsRow_nil _ _ _ _, hb1⟩
  · have HE := Lib.hid (show numR (plS l) = numsP (plS l) by simp [numR, hg])
    go_enter Try.func38, Try.ntmps38
    go_wp2_with (first | (go_at_call 18; (with_reducible refine (iAreP_any l _ _ _ HR.out (by have := HT.out; omega)).mono ?_); rw [hg]; rintro e w1 ⟨rfl, hb1⟩) | (go_at_call 80; (with_reducible refine (good_any l _ _ _ (HR.out.below hb1).row hl).mono ?_); rintro e w2 ⟨A2, c2, rfl, ho2, hb2⟩; have HO2 := Lib.hid ho2; clear ho2))
    go_ret2
    rw [HE.out]
    exact ⟨A2, c2, rfl, own_base HO2.out hb1.size, bstep hb1 hb2⟩
set_option maxHeartbeats 1000000 in
theorem sNum_any (l : List Pk) (A : Option Addr) (c : Nat) (w : World) (hr : PkAt w A l) (hlen : tot l ≤ 1048576) :
    Calls Try.prog 37 #[.slice A l.length c] w (MkS2 3 1 (numR (plS l)).length ((numR (plS l)).flatMap encI) (goodP (plS l)) w) := by
  have hl : l.length ≤ 1048576 := by unfold tot at hlen; omega
  have HR := Lib.hid hr
  have HT := Lib.hid hlen
  clear hr hlen
  cases hg : goodP (plS l)
  · have HE := Lib.hid (show numR (plS l) = [] by simp [numR, hg])
    go_enter Try.func37, Try.ntmps37
    go_wp2_with (go_at_call 61; (with_reducible refine (sgoodP_any l _ _ _ HR.out (by have := HT.out; omega)).mono ?_); rw [hg]; rintro e w' ⟨rfl, rfl⟩)
    go_ret2
    rw [HE.out]
    exact ⟨some ⟨w.heap.size, 0, none⟩, 0, rfl, own_made (cur := #[]) rfl (Nat.zero_le _), balloc (bref _) _⟩
  · have HE := Lib.hid (show numR (plS l) = numsP (plS l) by simp [numR, hg])
    go_enter Try.func37, Try.ntmps37
    go_wp2_with (first | (go_at_call 61; (with_reducible refine (sgoodP_any l _ _ _ HR.out (by have := HT.out; omega)).mono ?_); rw [hg]; rintro e w' ⟨rfl, rfl⟩) | (go_at_call 79; (with_reducible refine (l15Numbers_any l _ _ _ HR.out.row hl).mono ?_); rintro e w2 ⟨A2, c2, rfl, ho2, hb2⟩; have HO2 := Lib.hid ho2; clear ho2))
    go_ret2
    rw [HE.out]
    exact ⟨A2, c2, rfl, HO2.out, hb2⟩
end Go.Proofs.Ytifkakpiipoadaa
