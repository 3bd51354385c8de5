/-
  Runs of numbers: impl lengthens the last run or begins one, spec looks at the number ahead.
-/
import Derived.Test.YtifkakpiipoadaaPkNum
import Derived.Test.YtifkakpiipoadaaPkLost
import Derived.Test.YtifkakpiipoadaaP20
import Derived.Test.YtifkakpiipoadaaApp
import Derived.Deep.RegionHeld3
namespace Go.Proofs.Ytifkakpiipoadaa
set_option linter.unusedVariables false
set_option linter.unusedSimpArgs false
set_option linter.unnecessarySimpa false
open Go.RowKit
attribute [local go_sem] ext_cell ext_frozen

def stepR (D : List P2) (n : Int) : List P2 :=
  match D.getLast? with
  | none => D ++ [⟨n, n⟩]
  | some p => if p.b = n - 1 then D.dropLast ++ [⟨p.a, n⟩] else D ++ [⟨n, n⟩]
def runsK (L : List Int) (k : Nat) : List P2 := (L.take k).foldl stepR []
theorem runsK_succ {L : List Int} {k : Nat} {n : Int} (h : L[k]? = some n) : runsK L (k + 1) = stepR (runsK L k) n := by
  unfold runsK
  rw [List.take_add_one, h]
  simp [List.foldl_append]
theorem stepR_nil (n : Int) : stepR [] n = [⟨n, n⟩] := rfl
theorem stepR_yes {E : List P2} {p : P2} {n : Int} (h : p.b = n - 1) : stepR (E ++ [p]) n = E ++ [⟨p.a, n⟩] := by simp [stepR, h]
theorem stepR_no {E : List P2} {p : P2} {n : Int} (h : p.b ≠ n - 1) : stepR (E ++ [p]) n = E ++ [p] ++ [⟨n, n⟩] := by simp [stepR, h]
theorem stepR_last (D : List P2) (n : Int) : ∃ (E : List P2) (p : P2), stepR D n = E ++ [p] ∧ p.b = n := by
  unfold stepR
  split
  · exact ⟨D, ⟨n, n⟩, rfl, rfl⟩
  · split
    · exact ⟨_, _, rfl, rfl⟩
    · exact ⟨D, ⟨n, n⟩, rfl, rfl⟩
theorem stepR_len (D : List P2) (n : Int) : (stepR D n).length ≤ D.length + 1 := by
  unfold stepR
  split
  · simp
  · split
    · simp
    · simp
theorem runsK_len (L : List Int) : ∀ k, k ≤ L.length → (runsK L k).length ≤ k
  | 0, _ => by simp [runsK]
  | k + 1, h => by
    obtain ⟨n, hn⟩ := some_get (show k < L.length by omega)
    have ih := runsK_len L k (by omega)
    have := stepR_len (runsK L k) n
    rw [runsK_succ hn]; omega
/-- Behind k numbers, at least one: the last run ends with the last number. -/
theorem runsK_last {L : List Int} {k : Nat} {x : Int} (hx : L[k]? = some x) : ∃ (E : List P2) (p : P2), runsK L (k + 1) = E ++ [p] ∧ p.b = x := by
  rw [runsK_succ hx]
  exact stepR_last _ _
def runsP (l : List PP) : List P2 := runsK (numsP l) (numsP l).length
def runR (l : List PP) : List P2 := if goodP l then runsP l else []
theorem runsP_le (l : List PP) : (runsP l).length ≤ l.length := Nat.le_trans (runsK_len _ _ (Nat.le_refl _)) (numsP_le l)
theorem runR_le (l : List PP) : (runR l).length ≤ 10 := by
  unfold runR; split
  · rename_i h
    have := runsP_le l
    unfold goodP at h
    simp only [Bool.and_eq_true, decide_eq_true_eq] at h
    omega
  · simp
theorem set_last (E : List P2) (p : P2) (n : Int) : ((E ++ [p]).flatMap encP2).set (E.length * 2 + 1) (.int .i64 n) = (E ++ [(⟨p.a, n⟩ : P2)]).flatMap encP2 := by
  have hl : (E.flatMap encP2).length = E.length * 2 := flat_len encP2_len E
  rw [List.flatMap_append, List.flatMap_append, List.set_append_right _ _ (by omega), hl]
  simp [encP2]
theorem set_last2 (E : List P2) (p : P2) (n : Int) : (((E ++ [p]).flatMap encP2).set (E.length * 2) (.int .i64 p.a)).set (E.length * 2 + 1) (.int .i64 n) = (E ++ [(⟨p.a, n⟩ : P2)]).flatMap encP2 := by
  have hl : (E.flatMap encP2).length = E.length * 2 := flat_len encP2_len E
  rw [List.flatMap_append, List.flatMap_append, List.set_append_right _ _ (by omega), List.set_append_right _ _ (by omega), hl]
  simp [encP2]

set_option maxRecDepth 100000 in
set_option maxHeartbeats 4000000 in
theorem runs_any (l : List Pk) (A : Option Addr) (c : Nat) (w : World) (hr : RowAt 2 encPk w A l) (hlen : l.length ≤ 1048576) (hg : goodP (plS l) = true) :
    Calls Try.prog 86 #[.slice A l.length c] w (MkS 55 2 (runsP (plS l)).length ((runsP (plS l)).flatMap encP2) w) := by
    have HR := Lib.hid hr
    have HNB := Lib.hid (nums_bd hg)
    have hnl := numsP_le (plS l)
    rw [plS_len] at hnl
    have h10 := goodP_len hg
    clear hr hg
    go_enter Try.func86, Try.ntmps86
    go_wp2_with (go_at_call 80; (with_reducible refine (good_any l _ _ _ (HR.out.below (balloc (bref _) _)) (by omega)).mono ?_); rintro e w2 ⟨A2, c2, rfl, ho2, hb2⟩; have HRN := Lib.hid (fun W (hW : w2.grownBy W (some w.heap.size)) => RowAt.of_own (World.ownsRow.kept ho2 hW (own_apart ho2 (fun k hk => by cases hk; simp))) encI_len (by omega)); clear ho2)
    have HO0 := Lib.hid (own_below (own_made (E := 55) (K := 2) (n := 0) (cur := #[]) (w := w) rfl (Nat.zero_le _)) hb2)
    have b2 := bstep (balloc (bref w) _) hb2
    clear hb2 HR
    go_loopw [3, 11] (fun v i wr => ∃ (k : Nat) (D : List P2) (A' : Option Addr) (c' : Nat), k ≤ (numsP (plS l)).length ∧ i = .int .i64 k ∧ v = .slice A' D.length c' ∧ D.length ≤ k ∧ Hid (D = runsK (numsP (plS l)) k) ∧ Below w.heap.size w wr ∧ w2.grownBy wr (some w.heap.size) ∧ Hid (∀ k' : Nat, (Value.slice A' D.length c').ownBlock = some k' → k' = w.heap.size ∨ w2.heap.size ≤ k') ∧ wr.ownsRow w.heap.size 55 2 (.slice A' D.length c') D.length (D.flatMap encP2)) (fun _ i _ => (numsP (plS l)).length - (intOf i).toNat)
    case atStart => exact ⟨0, [], some ⟨w.heap.size, 0, none⟩, 0, Nat.zero_le _, rfl, rfl, Nat.zero_le _, rfl, b2, World.grownBy.refl _ _, Lib.hid (fun k' e => .inl (by simp [Value.ownBlock] at e; omega)), HO0.out⟩
    case round =>
      obtain ⟨k, D, A', c', hk, rfl, rfl, hDl, HD, hbr, hgr, hap, hown⟩ := hrel
      have hsz := hbr.size
      have hsg := hgr.size
      by_cases hlt : k < (numsP (plS l)).length
      · obtain ⟨n, hn⟩ := some_get hlt
        have i0 := ib0 k
        have i1 := ib1 hlt
        obtain ⟨b, off, rfl, hb, q0⟩ := (HRN.out _ hgr).i hn
        have hnb := HNB.out n (List.mem_of_getElem? hn)
        have HS := Lib.hid (runsK_succ hn)
        rw [← HD.out] at HS
        clear hn
        rcases List.eq_nil_or_concat D with rfl | ⟨E, p, rfl⟩
        · have HN := Lib.hid (HS.out.trans (stepR_nil n))
          have HO := Lib.hid hown
          clear hown
          simp only [List.length_nil]
          go_wp2_with (at_builtin; refine wpList_app rfl _ _ 47 55 2 16 _ rfl Try.underlying47 infoP2 rfl (by decide) w.heap.size _ 0 _ (by rfl) (HO.out.alloc _) _ _ (by rfl) (heap_new1 _ _) rfl (encP2_one ⟨n, n⟩) (by omega) (by decide) (by simp; omega) ?_; intro g5 c5 w5 ho5 hg5 hl5)
          go_roundw
          case rel => exact ⟨k + 1, [⟨n, n⟩], some ⟨g5, 0, none⟩, c5, by omega, by go_num, by simp, by simp, Lib.hid HN.out.symm, bgrown (balloc hbr _) hg5 (fun k hk => row_mine HO.out k hk), grown_two (only_alloc hgr _) hg5 hap.out, Lib.hid (fun k' e => by
              rcases hl5 with r | r
              · exact hap.out k' (r.trans (by simpa [Value.ownBlock] using e))
              · have e' : g5 = k' := by simpa [Value.ownBlock] using e
                simp at r
                exact .inr (by omega)), by simpa [encP2] using ho5⟩
          case measure => simp [intOf]; omega
        · have hcat : E.concat p = E ++ [p] := List.concat_eq_append
          rw [hcat] at hown HS hap hDl ⊢
          have hcl : (E ++ [p]).length = E.length + 1 := by simp
          rw [hcl] at hown hap hDl ⊢
          obtain ⟨g, rfl⟩ : ∃ g, A' = some ⟨g, 0, none⟩ := by
            rcases own_form hown with ⟨_, h0, _⟩ | h
            · omega
            · exact h
          have hR := RowAt.of_own hown encP2_len (by omega)
          obtain ⟨b', o', e', hb', r0, r1⟩ := hR.p2 (k := E.length) (m := p) (by simp)
          cases e'
          simp only [Nat.zero_add] at r0 r1
          have z1 := hown.frozenAt (E.length * 2 + 1)
          have e0 := ib0 E.length
          have e1 : (E.length : Int) < ((E.length + 1 : Nat) : Int) := by omega
          have hpb : -1 ≤ p.b ∨ True := .inr trivial
          clear hR hcat
          by_cases hc : p.b = n - 1
          · have hq : (p.b == n - 1) = true := by simpa using hc
            have HN := Lib.hid (HS.out.trans (stepR_yes hc))
            have hst := World.ownsRow.stored hown (E.length * 2 + 1) (.int .i64 n)
            rw [set_last] at hst
            have HST := Lib.hid hst.1
            have hgs : wr.grownBy (wr.setCell ⟨g, E.length * 2 + 1, none⟩ (.int .i64 n)) (some g) := only_setCell (World.grownBy.refl wr (some g)) (.inl rfl) _
            have HGS := Lib.hid hgs
            have HO := Lib.hid hown
            clear hown hst hgs hc
            go_wp2_with fail
            go_roundw
            case rel =>
              refine ⟨k + 1, E ++ [⟨p.a, n⟩], some ⟨g, 0, none⟩, c', by omega, by go_num, by simp, by simp; omega, Lib.hid HN.out.symm, bset hbr (row_mine HO.out g rfl) _, grown_two hgr HGS.out (fun k' e => hap.out k' (by simpa [Value.ownBlock] using e)), Lib.hid (fun k' e => hap.out k' (by simpa [Value.ownBlock] using e)), ?_⟩
              simpa using HST.out
            case measure => simp [intOf]; omega
          · have hq : (p.b == n - 1) = false := by simpa using hc
            have HN := Lib.hid (HS.out.trans (stepR_no hc))
            have HO := Lib.hid hown
            clear hown hc
            go_wp2_with (at_builtin; refine wpList_app rfl _ _ 47 55 2 16 _ rfl Try.underlying47 infoP2 rfl (by decide) w.heap.size _ (E.length + 1) _ (by rfl) (HO.out.alloc _) _ _ (by rfl) (heap_new1 _ _) rfl (encP2_one ⟨n, n⟩) (by omega) (by decide) (by simp; omega) ?_; intro g5 c5 w5 ho5 hg5 hl5)
            go_roundw
            case rel => exact ⟨k + 1, E ++ [p] ++ [⟨n, n⟩], some ⟨g5, 0, none⟩, c5, by omega, by go_num, by simp, by simp; omega, Lib.hid HN.out.symm, bgrown (balloc hbr _) hg5 (fun k hk => row_mine HO.out k hk), grown_two (only_alloc hgr _) hg5 hap.out, Lib.hid (fun k' e => by
                rcases hl5 with r | r
                · exact hap.out k' (r.trans (by simpa [Value.ownBlock] using e))
                · have e' : g5 = k' := by simpa [Value.ownBlock] using e
                  simp at r
                  exact .inr (by omega)), by simpa [encP2] using ho5⟩
            case measure => simp [intOf]; omega
      · obtain rfl : k = (numsP (plS l)).length := by omega
        have HF := Lib.hid (show runsP (plS l) = D by rw [HD.out]; rfl)
        have HO := Lib.hid hown
        clear hown
        go_wp2
        go_ret
        rw [HF.out]
        exact ⟨A', c', rfl, HO.out, hbr⟩

set_option maxRecDepth 100000 in
set_option maxHeartbeats 4000000 in
theorem l15Runs_any (l : List Pk) (A : Option Addr) (c : Nat) (w : World) (hr : RowAt 2 encPk w A l) (hlen : l.length ≤ 1048576) (hg : goodP (plS l) = true) :
    Calls Try.prog 85 #[.slice A l.length c] w (MkS 55 2 (runsP (plS l)).length ((runsP (plS l)).flatMap encP2) w) := by
    have HR := Lib.hid hr
    have HNB := Lib.hid (nums_bd hg)
    have hnl := numsP_le (plS l)
    rw [plS_len] at hnl
    have h10 := goodP_len hg
    clear hr hg
    go_enter Try.func85, Try.ntmps85
    go_wp2_with (go_at_call 79; (with_reducible refine (l15Numbers_any l _ _ _ HR.out hlen).mono ?_); rintro e w2 ⟨A2, c2, rfl, ho2, hb2⟩; have HN2 := Lib.hid (RowAt.of_own ho2 encI_len (by omega)); clear ho2)
    have hs2 := hb2.size
    clear HR
    go_loopw [4, 5] (fun v i wr => ∃ (k : Nat) (D : List P2) (A' : Option Addr) (c' : Nat), k ≤ (numsP (plS l)).length ∧ i = .int .i64 k ∧ v = .slice A' D.length c' ∧ D.length ≤ k ∧ Hid (D = runsK (numsP (plS l)) k) ∧ Below w2.heap.size w2 wr ∧ wr.ownsRow w2.heap.size 55 2 (.slice A' D.length c') D.length (D.flatMap encP2)) (fun _ i _ => (numsP (plS l)).length - (intOf i).toNat)
    case atStart => exact ⟨0, [], some ⟨w2.heap.size, 0, none⟩, 0, Nat.zero_le _, rfl, rfl, Nat.zero_le _, rfl, balloc (bref _) _, own_made (cur := #[]) rfl (Nat.zero_le _)⟩
    case round =>
      obtain ⟨k, D, A', c', hk, rfl, rfl, hDl, HD, hbr, hown⟩ := hrel
      have hsz := hbr.size
      by_cases hlt : k < (numsP (plS l)).length
      · obtain ⟨n, hn⟩ := some_get hlt
        have i0 := ib0 k
        have i1 := ib1 hlt
        obtain ⟨b, off, rfl, hb, q0'⟩ := HN2.out.i hn
        have q0 : wr.cell? ⟨b, off + k, none⟩ = some (.int .i64 n) := (hbr.cell (p := ⟨b, off + k, none⟩) hb).trans q0'
        have HC2 := Lib.hid q0'
        have HBB := Lib.hid hb
        have hbw : b < wr.heap.size := Nat.lt_of_lt_of_le hb hsz
        have hnb := HNB.out n (List.mem_of_getElem? hn)
        have HS := Lib.hid (runsK_succ hn)
        rw [← HD.out] at HS
        have HO := Lib.hid hown
        by_cases hk0 : k = 0
        · subst hk0
          have hD0 : D = [] := List.eq_nil_of_length_eq_zero (by omega)
          subst hD0
          have HN := Lib.hid (HS.out.trans (stepR_nil n))
          simp only [Nat.add_zero] at q0
          clear hn hown q0'
          simp only [List.length_nil]
          go_wp2_with fail
          (refine wp_region_calm (by kernel_rfl) (by kernel_rfl) ?_; (repeat (go_big_quiet_step ((fail)))); refine wpQuiet_nil ?_; intro xw; have hb3 := xw.is; generalize xw.w = w3 at hb3 ⊢; clear xw)
          have hbr3 := bstep hbr hb3
          have HO3 := Lib.hid (own_below HO.out hb3)
          go_wp2_with fail
          go_region_held3 (fun w' => w'.cell? ⟨b, off, none⟩ = some (.int .i64 n)) (exact (Below.cell (B := w2.heap.size) (w := w2) (p := ⟨b, off, none⟩) (by repeat (first | exact hbr3 | exact hbX1 | (refine balloc ?_ _) | (refine bdrew ?_) | (refine bdrewN ?_ _))) HBB.out).trans HC2.out)
            (first
              | (refine step_appS (by rfl) (.tmp 48) (.tmp 58) 47 55 2 16 _ (by rfl) Try.underlying47 infoP2 rfl (by decide) w2.heap.size _ 0 _ (by rfl) (by first | exact HO3.out | exact HO3.out.alloc _ | exact own_drew (HO3.out.alloc _)) _ 1 _ (encP2 ⟨n, n⟩) (by rfl) rfl (news1 (heap_new1 _ _) rfl) (encP2_one ⟨n, n⟩) (0 + 1) rfl _ rfl (by omega) (by decide) (by have := hbr3.size; simp; omega) ?_; intro A2 c2' w5 ho5 hg5 hl5; have hbX1 : Below w2.heap.size w2 w5 := bgrown (by repeat (first | exact hbr3 | (refine balloc ?_ _) | (refine bdrew ?_) | (refine bdrewN ?_ _))) hg5 (fun k hk => row_mine HO3.out k hk))
              | fail)
          all_goals
            go_wp2_with fail
            go_roundw
            case rel => exact ⟨1, [⟨n, n⟩], A2, c2', by omega, by simp, rfl, by simp, Lib.hid HN.out.symm, hbX1, by simpa using ho5⟩
            case measure => simp [intOf]; omega
        · obtain ⟨j, hj⟩ : ∃ j, k = j + 1 := ⟨k - 1, by omega⟩
          obtain ⟨m, hm⟩ := some_get (show j < (numsP (plS l)).length by omega)
          obtain ⟨b', off', e', hb', p0'⟩ := HN2.out.i hm
          cases e'
          have p0 : wr.cell? ⟨b, off + j, none⟩ = some (.int .i64 m) := (hbr.cell (p := ⟨b, off + j, none⟩) hb').trans p0'
          have hmb := HNB.out m (List.mem_of_getElem? hm)
          have e0 : (0 : Int) < (k : Int) := by omega
          have e00 : decide (0 < k) = true := by simp; omega
          have j0 := ib0 j
          have j1 : (j : Int) < (((numsP (plS l)).length : Nat) : Int) := by omega
          have ek : (k : Int) - 1 = (j : Int) := by omega
          obtain ⟨E, p, HE, hpm⟩ := runsK_last hm
          have HL := HD.out
          rw [hj, HE] at HL
          subst HL
          clear hown hn hm p0' hj
          by_cases hc : n = m + 1
          · have HN := Lib.hid (HS.out.trans (stepR_yes (by omega)))
            subst hc
            go_wp2_with fail
            (refine wp_region_calm (by kernel_rfl) (by kernel_rfl) ?_; (repeat (go_big_quiet_step ((fail)))); refine wpQuiet_nil ?_; intro xw; have hb3 := xw.is; generalize xw.w = w3 at hb3 ⊢; clear xw)
            have hbr3 := bstep hbr hb3
            have HO3 := Lib.hid (own_below HO.out hb3)
            have hcl : (E ++ [p]).length = E.length + 1 := by simp
            have hO3 := HO3.out
            rw [hcl] at hO3 hDl ⊢
            obtain ⟨g, rfl⟩ : ∃ g, A' = some ⟨g, 0, none⟩ := by
              rcases own_form hO3 with ⟨_, h0, _⟩ | h
              · omega
              · exact h
            have hR := RowAt.of_own hO3 encP2_len (by omega)
            obtain ⟨g', o', eg, hgb, r0, r1⟩ := hR.p2 (k := E.length) (m := p) (by simp)
            cases eg
            simp only [Nat.zero_add] at r0 r1
            have z0 := hO3.frozenAt (E.length * 2)
            have z1 := hO3.frozenAt (E.length * 2 + 1)
            have e2 := ib0 E.length
            have e3 : (E.length : Int) < ((E.length + 1 : Nat) : Int) := by omega
            have q3 := (Below.cell (B := w2.heap.size) (w := w2) (p := ⟨b, off + k, none⟩) hbr3 HBB.out).trans HC2.out
            have st1 := World.ownsRow.stored hO3 (E.length * 2) (.int .i64 p.a)
            have st2 := World.ownsRow.stored st1.1 (E.length * 2 + 1) (.int .i64 (m + 1))
            rw [set_last2] at st2
            have HST := Lib.hid st2.1
            clear hR hO3 st1 st2
            go_wp2_with fail
            go_region
            all_goals go_wp2
            all_goals go_roundw
            case rel =>
              refine ⟨k + 1, E ++ [⟨p.a, m + 1⟩], some ⟨g, 0, none⟩, c', by omega, by go_num, by simp, by simp; omega, Lib.hid HN.out.symm, bdrew (bset (bset hbr3 (row_mine HO3.out g rfl) _) (row_mine HO3.out g rfl) _), ?_⟩
              simpa using own_drew HST.out
            case measure => simp [intOf]; omega
          · have hq : (n == m + 1) = false := by simpa using hc
            have HN := Lib.hid (HS.out.trans (stepR_no (by omega)))
            go_wp2_with fail
            (refine wp_region_calm (by kernel_rfl) (by kernel_rfl) ?_; (repeat (go_big_quiet_step ((fail)))); refine wpQuiet_nil ?_; intro xw; have hb3 := xw.is; generalize xw.w = w3 at hb3 ⊢; clear xw)
            have hbr3 := bstep hbr hb3
            have hO3 := own_below HO.out hb3
            have hcl : (E ++ [p]).length = E.length + 1 := by simp
            rw [hcl] at hO3 hDl ⊢
            have HO3 := Lib.hid hO3
            clear hO3
            go_wp2_with fail
            go_region_held3 (fun w' => w'.cell? ⟨b, off + k, none⟩ = some (.int .i64 n)) (exact (Below.cell (B := w2.heap.size) (w := w2) (p := ⟨b, off + k, none⟩) (by repeat (first | exact hbr3 | exact hbX1 | (refine balloc ?_ _) | (refine bdrew ?_) | (refine bdrewN ?_ _))) HBB.out).trans HC2.out)
            (first
            | (refine step_appS (by rfl) (.tmp 48) (.tmp 58) 47 55 2 16 _ (by rfl) Try.underlying47 infoP2 rfl (by decide) w2.heap.size _ (E.length + 1) _ (by rfl) (by first | exact HO3.out | exact HO3.out.alloc _ | exact own_drew (HO3.out.alloc _)) _ 1 _ (encP2 ⟨n, n⟩) (by rfl) rfl (news1 (heap_new1 _ _) rfl) (encP2_one ⟨n, n⟩) ((E.length + 1) + 1) rfl _ rfl (by omega) (by decide) (by have := hbr3.size; simp; omega) ?_; intro A2 c2' w5 ho5 hg5 hl5; have hbX1 : Below w2.heap.size w2 w5 := bgrown (by repeat (first | exact hbr3 | (refine balloc ?_ _) | (refine bdrew ?_) | (refine bdrewN ?_ _))) hg5 (fun k hk => row_mine HO3.out k hk))
            | fail)
            all_goals
              go_wp2_with fail
              go_roundw
              case rel => exact ⟨k + 1, E ++ [p] ++ [⟨n, n⟩], A2, c2', by omega, by go_num, by simp, by simp; omega, Lib.hid HN.out.symm, hbX1, by simpa using ho5⟩
              case measure => simp [intOf]; omega
      · obtain rfl : k = (numsP (plS l)).length := by omega
        have HF := Lib.hid (show runsP (plS l) = D by rw [HD.out]; rfl)
        have HO := Lib.hid hown
        clear hown
        go_wp2
        go_ret
        rw [HF.out]
        exact ⟨A', c', rfl, own_base HO.out hs2, bstep hb2 hbr⟩
set_option maxHeartbeats 1000000 in
theorem iRuns_any (l : List Pk) (A : Option Addr) (c : Nat) (w : World) (hr : PkAt w A l) (hlen : tot l ≤ 1048576) :
    Calls Try.prog 46 #[.slice A l.length c] w (MkS2 55 2 (runR (plS l)).length ((runR (plS l)).flatMap encP2) (goodP (plS l)) w) := by
  have hl : l.length ≤ 1048576 := by unfold tot at hlen; omega
  have HR := Lib.hid hr
  have HT := Lib.hid hlen
  clear hr hlen
  cases hg : goodP (plS l)
  · have HE := Lib.hid (show runR (plS l) = [] by simp [runR, hg])
    go_enter Try.func46, Try.ntmps46
    go_wp2_with (go_at_call 18; (with_reducible refine (iAreP_any l _ _ _ HR.out (by have := HT.out; omega)).mono ?_); rw [hg]; rintro e w1 ⟨rfl, hb1⟩)
    go_ret2
    rw [HE.out]
    exact ⟨none, 0, rfl, World.ownsRow_nil _ _ _ _, hb1⟩
  · have HE := Lib.hid (show runR (plS l) = runsP (plS l) by simp [runR, hg])
    have HG := Lib.hid hg
    go_enter Try.func46, Try.ntmps46
    go_wp2_with (first | (go_at_call 18; (with_reducible refine (iAreP_any l _ _ _ HR.out (by have := HT.out; omega)).mono ?_); rw [hg]; rintro e w1 ⟨rfl, hb1⟩) | (go_at_call 86; (with_reducible refine (runs_any l _ _ _ (HR.out.below hb1).row hl HG.out).mono ?_); rintro e w2 ⟨A2, c2, rfl, ho2, hb2⟩; have HO2 := Lib.hid ho2; clear ho2))
    go_ret2
    rw [HE.out]
    exact ⟨A2, c2, rfl, own_base HO2.out hb1.size, bstep hb1 hb2⟩
set_option maxHeartbeats 1000000 in
theorem sRuns_any (l : List Pk) (A : Option Addr) (c : Nat) (w : World) (hr : PkAt w A l) (hlen : tot l ≤ 1048576) :
    Calls Try.prog 45 #[.slice A l.length c] w (MkS2 55 2 (runR (plS l)).length ((runR (plS l)).flatMap encP2) (goodP (plS l)) w) := by
  have hl : l.length ≤ 1048576 := by unfold tot at hlen; omega
  have HR := Lib.hid hr
  have HT := Lib.hid hlen
  clear hr hlen
  cases hg : goodP (plS l)
  · have HE := Lib.hid (show runR (plS l) = [] by simp [runR, hg])
    go_enter Try.func45, Try.ntmps45
    go_wp2_with (go_at_call 61; (with_reducible refine (sgoodP_any l _ _ _ HR.out (by have := HT.out; omega)).mono ?_); rw [hg]; rintro e w' ⟨rfl, rfl⟩)
    go_ret2
    rw [HE.out]
    exact ⟨some ⟨w.heap.size, 0, none⟩, 0, rfl, own_made (cur := #[]) rfl (Nat.zero_le _), balloc (bref _) _⟩
  · have HE := Lib.hid (show runR (plS l) = runsP (plS l) by simp [runR, hg])
    have HG := Lib.hid hg
    go_enter Try.func45, Try.ntmps45
    go_wp2_with (first | (go_at_call 61; (with_reducible refine (sgoodP_any l _ _ _ HR.out (by have := HT.out; omega)).mono ?_); rw [hg]; rintro e w' ⟨rfl, rfl⟩) | (go_at_call 85; (with_reducible refine (l15Runs_any l _ _ _ HR.out.row hl HG.out).mono ?_); rintro e w2 ⟨A2, c2, rfl, ho2, hb2⟩; have HO2 := Lib.hid ho2; clear ho2))
    go_ret2
    rw [HE.out]
    exact ⟨A2, c2, rfl, HO2.out, hb2⟩
end Go.Proofs.Ytifkakpiipoadaa
