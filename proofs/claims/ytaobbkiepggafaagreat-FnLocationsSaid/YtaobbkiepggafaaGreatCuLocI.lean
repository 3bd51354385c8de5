/-
  impl.locate: all possible cubes with a side, at most 65 of them.
-/
import Derived.Test.YtaobbkiepggafaaGreatCuLoc
namespace Go.Proofs.YtaobbkiepggafaaGreat
set_option linter.unusedVariables false
set_option linter.unusedSimpArgs false
set_option linter.unnecessarySimpa false
open Go.RowKit
attribute [local go_sem] ext_cell ext_frozen

def locD (l : List Ar) (side : Int) (d : Nat) (m : Cu) (D : List Cu) : List Cu := (D ++ allC l side d m).take 65
theorem locD_len (l : List Ar) (side : Int) (d : Nat) (m : Cu) (D : List Cu) : (locD l side d m D).length ≤ 65 := by
  unfold locD; simp; omega
def LocPost (w : World) (base : Nat) (v0 : Value) (E : List Cu) (e : Ending) (w' : World) : Prop :=
  ∃ A' c', e = .returned (.slice A' E.length c') ∧ w'.ownsRow base 26 5 (.slice A' E.length c') E.length (E.flatMap encCu) ∧ w.grownBy w' v0.ownBlock ∧ (∀ q, (Value.slice A' E.length c').ownBlock = some q → v0.ownBlock = some q ∨ w.heap.size ≤ q) ∧ (v0.ownBlock ≠ none → (Value.slice A' E.length c').ownBlock ≠ none)

set_option maxRecDepth 100000 in
set_option maxHeartbeats 8000000 in
theorem locate_any (l : List Ar) (A : Option Addr) (c : Nat) (side : Int) (w0 : World) (hr : RowAt 5 encAr w0 A l) (hlen : l.length ≤ 2097152) (hg : ∀ a ∈ l, oneArM a = true) (hsb : sideB side = true) : ∀ (d : Nat) (m : Cu) (D : List Cu) (A3 : Option Addr) (c3 : Nat) (w : World), d ≤ 10 → cubeB m = true → side ≤ m.sd → m.sd.toNat < 2 ^ d → D.length ≤ 65 → Below w0.heap.size w0 w →
    w.ownsRow w0.heap.size 26 5 (.slice A3 D.length c3) D.length (D.flatMap encCu) →
    Calls Tryz.prog 29 #[.agg #[.int .i64 m.ws, .int .i64 m.so, .int .i64 m.sd, .int .i64 m.fr, .int .i64 m.to_], .slice A l.length c, .int .i64 side, .slice A3 D.length c3] w (LocPost w w0.heap.size (.slice A3 D.length c3) (locD l side d m D)) := by
  have HR := Lib.hid hr
  clear hr
  intro d
  induction d with
  | zero =>
    intro m D A3 c3 w _ hm _ hd _ _ _
    have := (cubeB_bounds hm).1
    simp at hd
    omega
  | succ d ih =>
    intro m D A3 c3 w hd10 hm hle hd hDl hbw ho
    have hs := sideB_bd hsb
    have HO := Lib.hid ho
    have HB0 := Lib.hid (boxCu w 26 m)
    have HCAN := Lib.hid (fun W h => possible_any m l A c W hm h hlen hg)
    have hsz := hbw.size
    clear ho
    by_cases h65 : D.length = 65
    · have HE := Lib.hid (show locD l side (d + 1) m D = D by
        unfold locD
        rw [List.take_append_of_le_length (by omega), List.take_of_length_le (by omega)])
      have h64 : (64 : Int) < (D.length : Int) := by omega
      go_enter Tryz.func29, Tryz.ntmps29
      go_wp2_with fail
      go_ret
      rw [HE.out]
      exact ⟨A3, c3, rfl, HO.out.alloc _, only_of_below (balloc (bref _) _) _, fun q e => .inl e, fun h => h⟩
    have h64 : ¬ (64 : Int) < (D.length : Int) := by omega
    cases hall : l.all (canA m)
    · have HE := Lib.hid (show locD l side (d + 1) m D = D by
        unfold locD
        rw [allC_no hall, List.append_nil, List.take_of_length_le (by omega)])
      go_enter Tryz.func29, Tryz.ntmps29
      go_wp2_with (go_at_call 40; (with_reducible refine (HCAN.out _ (HR.out.below (balloc hbw _))).mono ?_); rw [hall]; rintro e w1 ⟨rfl, hb1⟩)
      go_ret
      rw [HE.out]
      exact ⟨A3, c3, rfl, own_below (HO.out.alloc _) hb1, only_of_below (bstep (balloc (bref _) _) hb1) _, fun q e => .inl e, fun h => h⟩
    · by_cases hsd : m.sd = side
      · have HE := Lib.hid (show locD l side (d + 1) m D = D ++ [m] by
          unfold locD
          rw [allC_one hall hsd, List.take_of_length_le (by simp; omega)])
        have hsd' : (m.sd == side) = true := by simp [hsd]
        clear hsd
        go_enter Tryz.func29, Tryz.ntmps29
        go_wp2_with (first | (go_at_call 40; (with_reducible refine (HCAN.out _ (HR.out.below (balloc hbw _))).mono ?_); rw [hall]; rintro e w1 ⟨rfl, hb1⟩; obtain ⟨c0, c1, c2, c3', c4⟩ := cellCu (by simp) HB0.out hb1; have HO1 := Lib.hid (own_below (HO.out.alloc _) hb1); have hs1 := hb1.size) | (at_builtin; refine wpList_app rfl _ _ 29 26 5 40 _ rfl Tryz.underlying29 infoCu rfl (by decide) w0.heap.size _ D.length _ (by rfl) (HO1.out.alloc _) _ _ (by rfl) (heap_new1 _ _) rfl (encCu_one m) (by omega) (by decide) (by simp at hs1 ⊢; omega) ?_; intro g7 c7 w7 ho7 hg7 hl7))
        go_ret
        rw [HE.out]
        refine ⟨some ⟨g7, 0, none⟩, c7, by simp, by simpa [encCu] using ho7, only_grown (only_of_below (balloc (bstep (balloc (bref w) _) hb1) _) _) hg7 (fun k e => .inl e), fun q e => ?_, fun _ e => by simp [Value.ownBlock] at e⟩
        have e' : g7 = q := by simpa [Value.ownBlock] using e
        rcases hl7 with r | r
        · left
          rw [r, e']
        · right
          simp at hs1 r
          omega
      · have HE := Lib.hid (show locD l side (d + 1) m D = (D ++ (chC m).flatMap (allC l side d)).take 65 by
          unfold locD
          rw [allC_ch hall hsd])
        have hsd' : (m.sd == side) = false := by simp [hsd]
        have HCH := Lib.hid (fun cc hc => ch_ready (c := cc) hm hsb hle hsd hd hc)
        have HSP := Lib.hid (fun W => split_any m W hm (by omega))
        have HIH := Lib.hid ih
        have hcl : (chC m).length ≤ 4 := chN_len m 4
        clear ih
        generalize chC m = P at HE HCH HSP hcl
        go_enter Tryz.func29, Tryz.ntmps29
        go_wp2_with (first | (go_at_call 40; (with_reducible refine (HCAN.out _ (HR.out.below (balloc hbw _))).mono ?_); rw [hall]; rintro e w1 ⟨rfl, hb1⟩; obtain ⟨c0, c1, c2, c3', c4⟩ := cellCu (by simp) HB0.out hb1) | (go_at_call 60; (with_reducible refine (HSP.out _).mono ?_); rintro e w2 ⟨A2, c2', rfl, ho2, hb2⟩))
        have hb12 := bstep (bstep (balloc (bref w) (.cells #[.int .i64 m.ws, .int .i64 m.so, .int .i64 m.sd, .int .i64 m.fr, .int .i64 m.to_] 26)) hb1) hb2
        have hz1 : w.heap.size < w1.heap.size := by have := hb1.size; simp at this; omega
        have hz2 := hb2.size
        have HO2 := Lib.hid (own_below (own_below (HO.out.alloc (.cells #[.int .i64 m.ws, .int .i64 m.so, .int .i64 m.sd, .int .i64 m.fr, .int .i64 m.to_] 26)) hb1) hb2)
        have HOL := Lib.hid (fun q (e : (Value.slice A3 D.length c3).ownBlock = some q) => HO.out.lt q e)
        have HP2 := Lib.hid ho2
        have HPL := Lib.hid (fun q (e : (Value.slice A2 P.length c2').ownBlock = some q) => ho2.lt q e)
        clear ho2 hb1 hb2 HSP HCAN HB0 HO
        go_loopw [3, 34] (fun v i wr => ∃ (k : Nat) (E : List Cu) (A' : Option Addr) (c' : Nat), k ≤ P.length ∧ i = .int .i64 k ∧ v = .slice A' E.length c' ∧ E.length ≤ 65 ∧ Hid (E = (D ++ (P.take k).flatMap (allC l side d)).take 65) ∧ Hid (w.grownBy wr (Value.slice A3 D.length c3).ownBlock) ∧ w2.heap.size ≤ wr.heap.size ∧ Hid (wr.ownsRow w1.heap.size 26 5 (.slice A2 P.length c2') P.length (P.flatMap encCu)) ∧ Hid (wr.ownsRow w0.heap.size 26 5 (.slice A' E.length c') E.length (E.flatMap encCu)) ∧ Hid (∀ q, (Value.slice A' E.length c').ownBlock = some q → (Value.slice A3 D.length c3).ownBlock = some q ∨ w2.heap.size ≤ q) ∧ Hid ((Value.slice A3 D.length c3).ownBlock ≠ none → (Value.slice A' E.length c').ownBlock ≠ none)) (fun _ i _ => P.length - (intOf i).toNat)
        case atStart => exact ⟨0, D, A3, c3, Nat.zero_le _, rfl, rfl, hDl, Lib.hid (by rw [List.take_zero, List.flatMap_nil, List.append_nil, List.take_of_length_le hDl]), Lib.hid (only_of_below hb12 _), Nat.le_refl _, HP2, HO2, Lib.hid (fun q e => .inl e), Lib.hid (fun h => h)⟩
        case round =>
          clear HO2 HP2 hb12
          obtain ⟨k, E, A', c', hk, rfl, rfl, hEl, HEQ, HG, hz, HP, HO, HQ, HNN⟩ := hrel
          have hbr : Below w0.heap.size w0 wr := bgrown hbw HG.out (fun q e => (HOL.out q e).1)
          by_cases hlt : k < P.length
          · obtain ⟨cc, hcc⟩ := some_get hlt
            have i0 := ib0 k
            have i1 := ib1 hlt
            obtain ⟨r1, r2, r3⟩ := HCH.out cc (List.mem_of_getElem? hcc)
            obtain ⟨bP, oP, e9, hbP, q0, q1, q2, q3, q4⟩ := (RowAt.of_own HP.out encCu_len (by decide)).cu hcc
            have HN := Lib.hid (flat_take (f := allC l side d) hcc)
            have HLD := Lib.hid (show locD l side d cc E = (E ++ allC l side d cc).take 65 from rfl)
            have HC := Lib.hid (HIH.out cc E A' c' (wr.alloc (.cells #[.int .i64 cc.ws, .int .i64 cc.so, .int .i64 cc.sd, .int .i64 cc.fr, .int .i64 cc.to_] 26)) (by omega) r1 r2 r3 hEl (balloc hbr _) (HO.out.alloc _))
            have hl5 := locD_len l side d cc E
            generalize locD l side d cc E = F at HLD HC hl5
            subst e9
            clear hcc r1 r2 r3
            go_wp2_with (go_at_call 29; (with_reducible refine (HC.out).mono ?_); rintro e w8 ⟨A8, c8, rfl, ho8, hg8, hq8, hn8⟩)
            go_roundw
            case rel =>
              have hzs : wr.heap.size ≤ w8.heap.size := Nat.le_trans (by simp) hg8.size
              refine ⟨k + 1, F, A8, c8, by omega, by go_num, rfl, hl5, Lib.hid (by rw [HLD.out, HEQ.out, take_app, HN.out, List.append_assoc]), Lib.hid (only_grown (only_alloc HG.out _) hg8 (fun q e => ?_)), by omega, Lib.hid ((HP.out.alloc _).kept hg8 ?_), Lib.hid ho8, Lib.hid (fun q e => ?_), Lib.hid (fun h => hn8 (HNN.out h))⟩
              · rcases HQ.out q e with g | g
                · exact .inl g
                · right; omega
              · right
                intro e2
                obtain ⟨q, e⟩ : ∃ q, (Value.slice (some ⟨bP, oP, none⟩) P.length c2').ownBlock = some q := ⟨_, rfl⟩
                have g1 := HPL.out q e
                rw [e] at e2
                rcases HQ.out q e2.symm with g | g
                · have := (HOL.out q g).2
                  omega
                · omega
              · rcases hq8 q e with g | g
                · exact HQ.out q g
                · right
                  simp at g
                  omega
            case measure => simp [intOf]; omega
          · obtain rfl : k = P.length := by omega
            rw [List.take_length] at HEQ
            have HF := Lib.hid (HE.out.trans HEQ.out.symm)
            go_wp2_with fail
            go_ret
            rw [HF.out]
            exact ⟨A', c', rfl, HO.out, HG.out, fun q e => by
              rcases HQ.out q e with g | g
              · exact .inl g
              · right; omega, HNN.out⟩
end Go.Proofs.YtaobbkiepggafaaGreat
