/-
  Lost numbers: those between two that came one after the other.
-/
import Derived.Test.YtifkakpiipoadaaPkNum
namespace Go.Proofs.Ytifkakpiipoadaa
set_option linter.unusedVariables false
set_option linter.unusedSimpArgs false
set_option linter.unnecessarySimpa false
open Go.RowKit
attribute [local go_sem] ext_cell ext_frozen

def rng (a : Int) (n : Nat) : List Int := (List.range n).map fun (i : Nat) => a + (i : Int)
theorem rng_succ (a : Int) (n : Nat) : rng a (n + 1) = rng a n ++ [a + (n : Int)] := by simp [rng, List.range_succ]
theorem rng_len (a : Int) (n : Nat) : (rng a n).length = n := by simp [rng]
def gapL (L : List Int) (k : Nat) : List Int := match L[k - 1]?, L[k]? with | some x, some y => rng (x + 1) (y - (x + 1)).toNat | _, _ => []
def lostAt (L : List Int) : Nat → List Int
  | 0 => []
  | 1 => []
  | k + 2 => lostAt L (k + 1) ++ gapL L (k + 1)
theorem lostAt_succ {L : List Int} {k : Nat} (h : 1 ≤ k) : lostAt L (k + 1) = lostAt L k ++ gapL L k := by
  obtain ⟨j, rfl⟩ : ∃ j, k = j + 1 := ⟨k - 1, by omega⟩
  rfl
theorem gapL_at {L : List Int} {k : Nat} {x y : Int} (hx : L[k - 1]? = some x) (hy : L[k]? = some y) : gapL L k = rng (x + 1) (y - (x + 1)).toNat := by simp [gapL, hx, hy]
theorem lostAt_len {L : List Int} (h : ∀ x ∈ L, 0 ≤ x ∧ x ≤ 999) : ∀ k, (lostAt L k).length ≤ k * 1000
  | 0 => by simp [lostAt]
  | 1 => by simp [lostAt]
  | k + 2 => by
    have ih := lostAt_len h (k + 1)
    simp only [lostAt, List.length_append]
    have : (gapL L (k + 1)).length ≤ 1000 := by
      unfold gapL
      split
      · rename_i x y hx hy
        rw [rng_len]
        have h1 := h x (List.mem_of_getElem? hx)
        have h2 := h y (List.mem_of_getElem? hy)
        omega
      · simp
    omega
def lostP (l : List PP) : List Int := lostAt (numsP l) (numsP l).length
def lostOK (l : List PP) : Bool := goodP l && decide ((lostP l).length ≤ 100)
def lostR (l : List PP) : List Int := if lostOK l then lostP l else []
theorem lostR_le (l : List PP) : (lostR l).length ≤ 100 := by
  unfold lostR; split
  · rename_i h
    unfold lostOK at h
    simp only [Bool.and_eq_true, decide_eq_true_eq] at h
    exact h.2
  · simp
theorem lostP_le {l : List Pk} (h : goodP (plS l) = true) : (lostP (plS l)).length ≤ 10000 := by
  have h1 := lostAt_len (nums_bd h) (numsP (plS l)).length
  have h2 := numsP_le (plS l)
  have h3 := goodP_len h
  rw [plS_len] at h2
  unfold lostP
  omega

theorem grown_two {a W w1 : World} {g0 : Nat} {row : Option Nat} (h : a.grownBy W (some g0)) (hg : W.grownBy w1 row) (hr : ∀ k, row = some k → k = g0 ∨ a.heap.size ≤ k) : a.grownBy w1 (some g0) :=
  ⟨hg.os.trans h.os, hg.tape.trans h.tape, hg.output.trans h.output, Nat.le_trans h.size hg.size, fun k hk hne => (hg.block k (Nat.lt_of_lt_of_le hk h.size) (by
    rintro e
    rcases hr k e.symm with r | r
    · exact hne (by rw [r])
    · omega)).trans (h.block k hk hne)⟩
set_option maxRecDepth 100000 in
set_option maxHeartbeats 4000000 in
theorem lost_any (l : List Pk) (A : Option Addr) (c : Nat) (w : World) (hr : RowAt 2 encPk w A l) (hlen : l.length ≤ 1048576) (hg : goodP (plS l) = true) :
    Calls Try.prog 81 #[.slice A l.length c] w (MkS 3 1 (lostP (plS l)).length ((lostP (plS l)).flatMap encI) w) := by
    have HR := Lib.hid hr
    have HNB := Lib.hid (nums_bd hg)
    have hnl := numsP_le (plS l)
    rw [plS_len] at hnl
    have h10 := goodP_len hg
    clear hr hg
    go_enter Try.func81, Try.ntmps81
    go_wp2_with (go_at_call 80; (with_reducible refine (good_any l _ _ _ (HR.out.below (balloc (bref _) _)) (by omega)).mono ?_); rintro e w2 ⟨A2, c2, rfl, ho2, hb2⟩; have HRN := Lib.hid (fun W (hW : w2.grownBy W (some w.heap.size)) => RowAt.of_own (World.ownsRow.kept ho2 hW (own_apart ho2 (fun k hk => by cases hk; simp))) encI_len (by omega)); clear ho2)
    have HO0 := Lib.hid (own_below (own_made (E := 3) (K := 1) (n := 0) (cur := #[]) (w := w) rfl (Nat.zero_le _)) hb2)
    have b2 := bstep (balloc (bref w) _) hb2
    clear hb2
    go_loopw [3, 5] (fun v i wr => ∃ (k : Nat) (D : List Int) (A' : Option Addr) (c' : Nat), (1 ≤ k ∧ (k ≤ (numsP (plS l)).length ∨ k = 1)) ∧ i = .int .i64 k ∧ v = .slice A' D.length c' ∧ D.length ≤ k * 1000 ∧ Hid (D = lostAt (numsP (plS l)) k) ∧ Below w.heap.size w wr ∧ w2.grownBy wr (some w.heap.size) ∧ Hid (∀ k' : Nat, (Value.slice A' D.length c').ownBlock = some k' → k' = w.heap.size ∨ w2.heap.size ≤ k') ∧ wr.ownsRow w.heap.size 3 1 (.slice A' D.length c') D.length (D.flatMap encI)) (fun _ i _ => (numsP (plS l)).length - (intOf i).toNat)
    case atStart => exact ⟨1, [], some ⟨w.heap.size, 0, none⟩, 0, ⟨Nat.le_refl _, .inr rfl⟩, rfl, rfl, Nat.zero_le _, rfl, b2, World.grownBy.refl _ _, Lib.hid (fun k' e => .inl (by simp [Value.ownBlock] at e; omega)), HO0.out⟩
    case round =>
      obtain ⟨k, D, A', c', ⟨hk1, hk⟩, rfl, rfl, hDl, HD, hbr, hgr, hap, hown⟩ := hrel
      have HO := Lib.hid hown
      have hsz := hbr.size
      clear hown
      by_cases hlt : k < (numsP (plS l)).length
      · obtain ⟨y, hy⟩ := some_get hlt
        obtain ⟨x, hx⟩ := some_get (show k - 1 < (numsP (plS l)).length by omega)
        have i0 := ib0 k
        have i1 := ib1 hlt
        have j0 : (0 : Int) ≤ (k : Int) - 1 := by omega
        have j1 : (k : Int) - 1 < ((numsP (plS l)).length : Int) := by omega
        obtain ⟨b, off, rfl, hb, q0⟩ := (HRN.out _ hgr).i hx
        have hxb := HNB.out x (List.mem_of_getElem? hx)
        have hyb := HNB.out y (List.mem_of_getElem? hy)
        have HG := Lib.hid (lostAt_succ (L := numsP (plS l)) hk1)
        rw [← HD.out, gapL_at hx hy] at HG
        have HY := Lib.hid hy
        have HX := Lib.hid hx
        clear hx hy
        obtain ⟨K, rfl⟩ : ∃ K, k = K + 1 := ⟨k - 1, by omega⟩
        simp only [Nat.add_sub_cancel] at q0 HX
        go_wp2_with fail
        go_loopw [3, 6] (fun v nv wr => ∃ (j : Nat) (R : List Int) (A2 : Option Addr) (c2 : Nat), j ≤ (y - (x + 1)).toNat ∧ nv = .int .i64 (x + 1 + (j : Int)) ∧ v = .slice A2 R.length c2 ∧ R.length ≤ D.length + j ∧ Hid (R = D ++ rng (x + 1) j) ∧ Below w.heap.size w wr ∧ w2.grownBy wr (some w.heap.size) ∧ Hid (∀ k' : Nat, (Value.slice A2 R.length c2).ownBlock = some k' → k' = w.heap.size ∨ w2.heap.size ≤ k') ∧ wr.ownsRow w.heap.size 3 1 (.slice A2 R.length c2) R.length (R.flatMap encI)) (fun _ nv _ => (y + 1 - intOf nv).toNat)
        case atStart => exact ⟨0, D, A', c', Nat.zero_le _, by simp, rfl, Nat.le_refl _, Lib.hid (by simp [rng]), hbr, hgr, hap, HO.out⟩
        case round =>
          obtain ⟨j, R, A2, c2, hj, rfl, rfl, hRl, HR2, hb3, hgr3, hap3, hown2⟩ := hrel
          have HO2 := Lib.hid hown2
          have hsz3 := hb3.size
          have hsg3 := hgr3.size
          clear hown2
          obtain ⟨b', off', e, hb', r0⟩ := (HRN.out _ hgr3).i HY.out
          cases e
          by_cases hjl : x + 1 + (j : Int) < y
          · go_wp2_with (at_builtin; refine wpList_app rfl _ _ 29 3 1 8 _ rfl Try.underlying29 infoI rfl (by decide) w.heap.size _ R.length _ (by rfl) (HO2.out.alloc _) _ _ (by rfl) (heap_new1 _ _) rfl (encI_one (x + 1 + (j : Int))) (by omega) (by decide) (by simp; omega) ?_; intro g5 c5 w5 ho5 hg5 hl5)
            go_roundw
            case rel => exact ⟨j + 1, R ++ [x + 1 + (j : Int)], some ⟨g5, 0, none⟩, c5, by omega, by go_num, by simp, by simp; omega, Lib.hid (by rw [HR2.out, rng_succ, List.append_assoc]), bgrown (balloc hb3 _) hg5 (fun k hk => row_mine HO2.out k hk), grown_two (only_alloc hgr3 _) hg5 hap3.out, Lib.hid (fun k' e => by
                rcases hl5 with r | r
                · exact hap3.out k' (r.trans (by simpa [Value.ownBlock] using e))
                · have e' : g5 = k' := by simpa [Value.ownBlock] using e
                  simp at r
                  exact .inr (by omega)), by simpa [encI] using ho5⟩
            case measure => simp [intOf]; omega
          · have hje : j = (y - (x + 1)).toNat ∨ (j = 0 ∧ y - (x + 1) < 0) := by omega
            have HRE := Lib.hid (show lostAt (numsP (plS l)) (K + 1 + 1) = R by
              rw [HG.out, HR2.out]
              rcases hje with e | ⟨e, h⟩
              · rw [← e]
              · rw [e, Int.toNat_of_nonpos (by omega)])
            clear hje
            go_wp2
            go_roundw
            case rel => exact ⟨K + 1 + 1, R, A2, c2, ⟨by omega, .inl (by omega)⟩, by go_num, rfl, by omega, Lib.hid HRE.out.symm, hb3, hgr3, hap3, HO2.out⟩
            case measure => simp [intOf]; omega
      · have HF := Lib.hid (show lostP (plS l) = D by
          rw [HD.out, lostP]
          rcases hk with h | h
          · rw [show k = (numsP (plS l)).length by omega]
          · subst h
            rcases (by omega : (numsP (plS l)).length = 0 ∨ (numsP (plS l)).length = 1) with e | e <;> rw [e] <;> rfl)
        clear HR
        go_wp2
        go_ret
        rw [HF.out]
        exact ⟨A', c', rfl, HO.out, hbr⟩

set_option maxHeartbeats 1000000 in
theorem iLost_any (l : List Pk) (A : Option Addr) (c : Nat) (w : World) (hr : PkAt w A l) (hlen : tot l ≤ 1048576) :
    Calls Try.prog 40 #[.slice A l.length c] w (MkS2 3 1 (lostR (plS l)).length ((lostR (plS l)).flatMap encI) (lostOK (plS l)) w) := by
  have hl : l.length ≤ 1048576 := by unfold tot at hlen; omega
  have HR := Lib.hid hr
  have HT := Lib.hid hlen
  clear hr hlen
  cases hg : goodP (plS l)
  · have HK := Lib.hid (show lostOK (plS l) = false by simp [lostOK, hg])
    have HE := Lib.hid (show lostR (plS l) = [] by simp [lostR, HK.out])
    go_enter Try.func40, Try.ntmps40
    go_wp2_with (go_at_call 18; (with_reducible refine (iAreP_any l _ _ _ HR.out (by have := HT.out; omega)).mono ?_); rw [hg]; rintro e w1 ⟨rfl, hb1⟩)
    go_ret2
    rw [HE.out, HK.out]
    exact ⟨none, 0, rfl, World.ownsRow_nil _ _ _ _, hb1⟩
  · have HL := Lib.hid (fun W A c (h : PkAt W A l) => lost_any l A c W h.row hl hg)
    have hb := lostP_le hg
    by_cases hc : (lostP (plS l)).length ≤ 100
    · have HK := Lib.hid (show lostOK (plS l) = true by simp [lostOK, hg, hc])
      have HE := Lib.hid (show lostR (plS l) = lostP (plS l) by simp [lostR, HK.out])
      go_enter Try.func40, Try.ntmps40
      go_wp2_with (first | (go_at_call 18; (with_reducible refine (iAreP_any l _ _ _ HR.out (by have := HT.out; omega)).mono ?_); rw [hg]; rintro e w1 ⟨rfl, hb1⟩) | (go_at_call 81; (with_reducible refine (HL.out _ _ _ (HR.out.below hb1)).mono ?_); rintro e w2 ⟨A2, c2, rfl, ho2, hb2⟩; clear ho2))
      refine (HL.out _ _ _ (HR.out.below (bstep hb1 hb2))).mono ?_; rintro e w3 ⟨A3, c3, rfl, ho3, hb3⟩
      have HO3 := Lib.hid ho3
      have hq2 := bstep hb1 hb2
      clear ho3
      go_wp2
      go_ret2
      rw [HE.out, HK.out]
      exact ⟨A3, c3, rfl, own_base HO3.out hq2.size, bstep hq2 hb3⟩
    · have HK := Lib.hid (show lostOK (plS l) = false by simp [lostOK, hc])
      have HE := Lib.hid (show lostR (plS l) = [] by simp [lostR, HK.out])
      go_enter Try.func40, Try.ntmps40
      go_wp2_with (first | (go_at_call 18; (with_reducible refine (iAreP_any l _ _ _ HR.out (by have := HT.out; omega)).mono ?_); rw [hg]; rintro e w1 ⟨rfl, hb1⟩) | (go_at_call 81; (with_reducible refine (HL.out _ _ _ (HR.out.below hb1)).mono ?_); rintro e w2 ⟨A2, c2, rfl, ho2, hb2⟩; clear ho2))
      go_ret2
      rw [HE.out, HK.out]
      exact ⟨none, 0, rfl, World.ownsRow_nil _ _ _ _, bstep hb1 hb2⟩
set_option maxRecDepth 100000 in
set_option maxHeartbeats 4000000 in
theorem sLost_any (l : List Pk) (A : Option Addr) (c : Nat) (w : World) (hr : PkAt w A l) (hlen : tot l ≤ 1048576) :
    Calls Try.prog 39 #[.slice A l.length c] w (MkS2 3 1 (lostR (plS l)).length ((lostR (plS l)).flatMap encI) (lostOK (plS l)) w) := by
  have hl : l.length ≤ 1048576 := by unfold tot at hlen; omega
  have HR := Lib.hid hr
  have HT := Lib.hid hlen
  clear hr hlen
  cases hg : goodP (plS l)
  · have HK := Lib.hid (show lostOK (plS l) = false by simp [lostOK, hg])
    have HE := Lib.hid (show lostR (plS l) = [] by simp [lostR, HK.out])
    go_enter Try.func39, Try.ntmps39
    go_wp2_with (go_at_call 61; (with_reducible refine (sgoodP_any l _ _ _ (HR.out.below (balloc (bref _) _)) (by have := HT.out; omega)).mono ?_); rw [hg]; rintro e w' ⟨rfl, rfl⟩)
    go_ret2
    rw [HE.out, HK.out]
    exact ⟨some ⟨w.heap.size, 0, none⟩, 0, rfl, own_made (cur := #[]) rfl (Nat.zero_le _), balloc (bref _) _⟩
  · have HNB := Lib.hid (nums_bd hg)
    have hnl := numsP_le (plS l)
    rw [plS_len] at hnl
    have h10 := goodP_len hg
    have hbl := lostP_le hg
    go_enter Try.func39, Try.ntmps39
    go_wp2_with (first | (go_at_call 61; (with_reducible refine (sgoodP_any l _ _ _ (HR.out.below (balloc (bref _) _)) (by have := HT.out; omega)).mono ?_); rw [hg]; rintro e w' ⟨rfl, rfl⟩) | (go_at_call 79; (with_reducible refine (l15Numbers_any l _ _ _ (HR.out.below (balloc (bref _) _)).row hl).mono ?_); rintro e w2 ⟨A2, c2, rfl, ho2, hb2⟩; have HRN := Lib.hid (fun W (hW : w2.grownBy W (some w.heap.size)) => RowAt.of_own (World.ownsRow.kept ho2 hW (own_apart ho2 (fun k hk => by cases hk; simp))) encI_len (by omega)); clear ho2))
    have HO0 := Lib.hid (own_below (own_made (E := 3) (K := 1) (n := 0) (cur := #[]) (w := w) rfl (Nat.zero_le _)) hb2)
    have b2 := bstep (balloc (bref w) _) hb2
    have HGG := Lib.hid hg
    clear hb2 hg
    go_loopw [4, 6] (fun v i wr => ∃ (k : Nat) (D : List Int) (A' : Option Addr) (c' : Nat), (1 ≤ k ∧ (k ≤ (numsP (plS l)).length ∨ k = 1)) ∧ i = .int .i64 k ∧ v = .slice A' D.length c' ∧ D.length ≤ k * 1000 ∧ Hid (D = lostAt (numsP (plS l)) k) ∧ Below w.heap.size w wr ∧ w2.grownBy wr (some w.heap.size) ∧ Hid (∀ k' : Nat, (Value.slice A' D.length c').ownBlock = some k' → k' = w.heap.size ∨ w2.heap.size ≤ k') ∧ wr.ownsRow w.heap.size 3 1 (.slice A' D.length c') D.length (D.flatMap encI)) (fun _ i _ => (numsP (plS l)).length - (intOf i).toNat)
    case atStart => exact ⟨1, [], some ⟨w.heap.size, 0, none⟩, 0, ⟨Nat.le_refl _, .inr rfl⟩, rfl, rfl, Nat.zero_le _, rfl, b2, World.grownBy.refl _ _, Lib.hid (fun k' e => .inl (by simp [Value.ownBlock] at e; omega)), HO0.out⟩
    case round =>
      obtain ⟨k, D, A', c', ⟨hk1, hk⟩, rfl, rfl, hDl, HD, hbr, hgr, hap, hown⟩ := hrel
      have HO := Lib.hid hown
      have hsz := hbr.size
      clear hown
      by_cases hlt : k < (numsP (plS l)).length
      · obtain ⟨y, hy⟩ := some_get hlt
        obtain ⟨x, hx⟩ := some_get (show k - 1 < (numsP (plS l)).length by omega)
        have i0 := ib0 k
        have i1 := ib1 hlt
        have j0 : (0 : Int) ≤ (k : Int) - 1 := by omega
        have j1 : (k : Int) - 1 < ((numsP (plS l)).length : Int) := by omega
        obtain ⟨b, off, rfl, hb, q0⟩ := (HRN.out _ hgr).i hx
        have hxb := HNB.out x (List.mem_of_getElem? hx)
        have hyb := HNB.out y (List.mem_of_getElem? hy)
        have HG := Lib.hid (lostAt_succ (L := numsP (plS l)) hk1)
        rw [← HD.out, gapL_at hx hy] at HG
        have HY := Lib.hid hy
        have HX := Lib.hid hx
        clear hx hy
        obtain ⟨K, rfl⟩ : ∃ K, k = K + 1 := ⟨k - 1, by omega⟩
        simp only [Nat.add_sub_cancel] at q0 HX
        go_wp2_with fail
        go_loopw [4, 7] (fun v nv wr => ∃ (j : Nat) (R : List Int) (A2 : Option Addr) (c2 : Nat), j ≤ (y - (x + 1)).toNat ∧ nv = .int .i64 (x + 1 + (j : Int)) ∧ v = .slice A2 R.length c2 ∧ R.length ≤ D.length + j ∧ Hid (R = D ++ rng (x + 1) j) ∧ Below w.heap.size w wr ∧ w2.grownBy wr (some w.heap.size) ∧ Hid (∀ k' : Nat, (Value.slice A2 R.length c2).ownBlock = some k' → k' = w.heap.size ∨ w2.heap.size ≤ k') ∧ wr.ownsRow w.heap.size 3 1 (.slice A2 R.length c2) R.length (R.flatMap encI)) (fun _ nv _ => (y + 1 - intOf nv).toNat)
        case atStart => exact ⟨0, D, A', c', Nat.zero_le _, by simp, rfl, Nat.le_refl _, Lib.hid (by simp [rng]), hbr, hgr, hap, HO.out⟩
        case round =>
          obtain ⟨j, R, A2, c2, hj, rfl, rfl, hRl, HR2, hb3, hgr3, hap3, hown2⟩ := hrel
          have HO2 := Lib.hid hown2
          have hsz3 := hb3.size
          have hsg3 := hgr3.size
          clear hown2
          obtain ⟨b', off', e, hb', r0⟩ := (HRN.out _ hgr3).i HY.out
          cases e
          by_cases hjl : x + 1 + (j : Int) < y
          · go_wp2_with (at_builtin; refine wpList_app rfl _ _ 29 3 1 8 _ rfl Try.underlying29 infoI rfl (by decide) w.heap.size _ R.length _ (by rfl) (HO2.out.alloc _) _ _ (by rfl) (heap_new1 _ _) rfl (encI_one (x + 1 + (j : Int))) (by omega) (by decide) (by simp; omega) ?_; intro g5 c5 w5 ho5 hg5 hl5)
            go_roundw
            case rel => exact ⟨j + 1, R ++ [x + 1 + (j : Int)], some ⟨g5, 0, none⟩, c5, by omega, by go_num, by simp, by simp; omega, Lib.hid (by rw [HR2.out, rng_succ, List.append_assoc]), bgrown (balloc hb3 _) hg5 (fun k hk => row_mine HO2.out k hk), grown_two (only_alloc hgr3 _) hg5 hap3.out, Lib.hid (fun k' e => by
                rcases hl5 with r | r
                · exact hap3.out k' (r.trans (by simpa [Value.ownBlock] using e))
                · have e' : g5 = k' := by simpa [Value.ownBlock] using e
                  simp at r
                  exact .inr (by omega)), by simpa [encI] using ho5⟩
            case measure => simp [intOf]; omega
          · have hje : j = (y - (x + 1)).toNat ∨ (j = 0 ∧ y - (x + 1) < 0) := by omega
            have HRE := Lib.hid (show lostAt (numsP (plS l)) (K + 1 + 1) = R by
              rw [HG.out, HR2.out]
              rcases hje with e | ⟨e, h⟩
              · rw [← e]
              · rw [e, Int.toNat_of_nonpos (by omega)])
            clear hje
            go_wp2
            go_roundw
            case rel => exact ⟨K + 1 + 1, R, A2, c2, ⟨by omega, .inl (by omega)⟩, by go_num, rfl, by omega, Lib.hid HRE.out.symm, hb3, hgr3, hap3, HO2.out⟩
            case measure => simp [intOf]; omega
      · have HF := Lib.hid (show lostP (plS l) = D by
          rw [HD.out, lostP]
          rcases hk with h | h
          · rw [show k = (numsP (plS l)).length by omega]
          · subst h
            rcases (by omega : (numsP (plS l)).length = 0 ∨ (numsP (plS l)).length = 1) with e | e <;> rw [e] <;> rfl)
        by_cases hc : D.length ≤ 100
        · have hc' : ¬ ((100 : Int) < (D.length : Int)) := by omega
          have HK := Lib.hid (show lostOK (plS l) = true by simp [lostOK, HGG.out, HF.out, hc])
          have HE := Lib.hid (show lostR (plS l) = D by simp [lostR, HK.out, HF.out])
          go_wp2
          go_ret2
          rw [HE.out, HK.out]
          exact ⟨A', c', rfl, HO.out, hbr⟩
        · have hc' : (100 : Int) < (D.length : Int) := by omega
          have HK := Lib.hid (show lostOK (plS l) = false by simp [lostOK, HF.out, hc])
          have HE := Lib.hid (show lostR (plS l) = [] by simp [lostR, HK.out])
          go_wp2
          go_ret2
          rw [HE.out, HK.out]
          exact ⟨some ⟨wr.heap.size, 0, none⟩, 0, rfl, own_base (own_made (cur := #[]) rfl (Nat.zero_le _)) hbr.size, balloc hbr _⟩
end Go.Proofs.Ytifkakpiipoadaa
