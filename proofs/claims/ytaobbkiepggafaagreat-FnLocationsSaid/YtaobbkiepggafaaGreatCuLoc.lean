/-
  spec.l12All and impl.locate: what they return.
-/
import Derived.Test.YtaobbkiepggafaaGreatCuAllP
import Derived.Test.YtaobbkiepggafaaGreatCuSpI
namespace Go.Proofs.YtaobbkiepggafaaGreat
set_option linter.unusedVariables false
set_option linter.unusedSimpArgs false
set_option linter.unnecessarySimpa false
open Go.RowKit
attribute [local go_sem] ext_cell ext_frozen

theorem only_grown {a w w' : World} {r1 r2 : Option Nat} (h1 : a.grownBy w r1) (h2 : w.grownBy w' r2) (h : ∀ k, r2 = some k → r1 = some k ∨ a.heap.size ≤ k) : a.grownBy w' r1 :=
  ⟨h2.os.trans h1.os, h2.tape.trans h1.tape, h2.output.trans h1.output, Nat.le_trans h1.size h2.size, fun i hi hne => (h2.block i (Nat.lt_of_lt_of_le hi h1.size) (fun e => by
    rcases h i e.symm with g | g
    · exact hne g.symm
    · omega)).trans (h1.block i hi hne)⟩
theorem pow_half {s : Int} {d : Nat} (h : s.toNat < 2 ^ (d + 1)) : (s / 2).toNat < 2 ^ d := by
  rw [Nat.pow_succ] at h
  omega
theorem cube_side {m : Cu} (h : cubeB m = true) : sideB m.sd = true := by
  unfold cubeB at h
  simp only [Bool.and_eq_true] at h
  exact h.1.1.1.1.1.1
theorem ch_ready {m c : Cu} {side : Int} {d : Nat} (hm : cubeB m = true) (hsb : sideB side = true) (hle : side ≤ m.sd) (hne : m.sd ≠ side) (hd : m.sd.toNat < 2 ^ (d + 1)) (hc : c ∈ chC m) : cubeB c = true ∧ side ≤ c.sd ∧ c.sd.toNat < 2 ^ d := by
  have hs := sideB_bd hsb
  obtain ⟨g1, g2, _, _⟩ := ch_in hm (by omega) hc
  have := half_ge (cube_side hm) hsb (by omega)
  exact ⟨g1, by omega, by rw [g2]; exact pow_half hd⟩

theorem fold_long {f : Cu → List Cu} : ∀ (L S : List Cu), 64 < S.length → L.foldl (stepS f) S = S
  | [], S, _ => rfl
  | c :: L, S, h => by
    rw [List.foldl_cons, show stepS f S c = S by unfold stepS; rw [if_neg (by omega)]]
    exact fold_long L S h
set_option maxRecDepth 100000 in
set_option maxHeartbeats 8000000 in
theorem l12All_any (l : List Ar) (A : Option Addr) (c : Nat) (side : Int) (hlen : l.length ≤ 2097152) (hg : ∀ a ∈ l, oneArM a = true) (hsb : sideB side = true) : ∀ (d : Nat) (m : Cu) (w : World), d ≤ 10 → cubeB m = true → side ≤ m.sd → m.sd.toNat < 2 ^ d → RowAt 5 encAr w A l →
    Calls Tryz.prog 35 #[.slice A l.length c, .agg #[.int .i64 m.ws, .int .i64 m.so, .int .i64 m.sd, .int .i64 m.fr, .int .i64 m.to_], .int .i64 side, .int .i64 64] w (MkS 26 5 (specC l side d m).length ((specC l side d m).flatMap encCu) w) := by
  intro d
  induction d with
  | zero =>
    intro m w _ hm _ hd _
    have := (cubeB_bounds hm).1
    simp at hd
    omega
  | succ d ih =>
    intro m w hd10 hm hle hd hr
    have hs := sideB_bd hsb
    have HR := Lib.hid hr
    have HB0 := Lib.hid (boxCu w 26 m)
    have HCAN := Lib.hid (fun W h => l12Can_any m l A c W hm h hlen hg)
    clear hr
    cases hall : l.all (canA m)
    · have HE := Lib.hid (specC_no (side := side) (d := d) hall)
      go_enter Tryz.func35, Tryz.ntmps35
      go_wp2_with (go_at_call 65; (with_reducible refine (HCAN.out _ (HR.out.below (balloc (bref _) _))).mono ?_); rw [hall]; rintro e w1 ⟨rfl, hb1⟩)
      go_ret
      rw [HE.out]
      exact ⟨some ⟨w1.heap.size, 0, none⟩, 0, rfl, own_base (own_made (cur := #[]) rfl (Nat.zero_le _)) (bstep (balloc (bref w) _) hb1).size, balloc (bstep (balloc (bref _) _) hb1) _⟩
    · by_cases hsd : m.sd = side
      · have HE := Lib.hid (specC_one (d := d) hall hsd)
        have hsd' : (m.sd == side) = true := by simp [hsd]
        clear hsd
        go_enter Tryz.func35, Tryz.ntmps35
        go_wp2_with (go_at_call 65; (with_reducible refine (HCAN.out _ (HR.out.below (balloc (bref _) _))).mono ?_); rw [hall]; rintro e w1 ⟨rfl, hb1⟩; obtain ⟨c0, c1, c2, c3, c4⟩ := cellCu (by simp) HB0.out hb1)
        go_ret
        rw [HE.out]
        exact ⟨some ⟨w1.heap.size, 0, none⟩, 1, rfl, own_base (World.ownsRow_lit w1 #[.int .i64 m.ws, .int .i64 m.so, .int .i64 m.sd, .int .i64 m.fr, .int .i64 m.to_] 1 (Nat.le_refl _) (by decide) rfl) (bstep (balloc (bref w) _) hb1).size, balloc (bstep (balloc (bref _) _) hb1) _⟩
      · have HE := Lib.hid (specC_ch (d := d) hall hsd)
        have hsd' : (m.sd == side) = false := by simp [hsd]
        have HCH := Lib.hid (fun cc hc => ch_ready (c := cc) hm hsb hle hsd hd hc)
        have HSP := Lib.hid (fun W => l12Split_any m W hm (by omega))
        have HIH := Lib.hid ih
        have HSL := Lib.hid (fun cc => specC_len l side d cc)
        have hcl : (chC m).length ≤ 4 := chN_len m 4
        have HST := Lib.hid (fun k => stepS_len (g := specC l side d) (n := 1 + 64 * d) ((chC m).take k) [] (fun cc _ => specC_len l side d cc) (by simp))
        clear ih
        generalize chC m = P at HE HCH HSP hcl HST
        go_enter Tryz.func35, Tryz.ntmps35
        go_wp2_with (first | (go_at_call 65; (with_reducible refine (HCAN.out _ (HR.out.below (balloc (bref _) _))).mono ?_); rw [hall]; rintro e w1 ⟨rfl, hb1⟩; obtain ⟨c0, c1, c2, c3, c4⟩ := cellCu (by simp) HB0.out hb1) | (go_at_call 66; (with_reducible refine (HSP.out _).mono ?_); rintro e w2 ⟨A2, c2', rfl, ho2, hb2⟩))
        have hbw := bstep (bstep (balloc (bref w) (.cells #[.int .i64 m.ws, .int .i64 m.so, .int .i64 m.sd, .int .i64 m.fr, .int .i64 m.to_] 26)) hb1) hb2
        have hsz2 := hbw.size
        have HP := Lib.hid (RowAt.of_own ho2 encCu_len (by decide))
        clear ho2 hb1 hb2 HSP HCAN
        go_loopw [10, 11] (fun v i wr => ∃ (k : Nat) (D : List Cu) (A' : Option Addr) (c' : Nat), k ≤ P.length ∧ i = .int .i64 k ∧ v = .slice A' D.length c' ∧ D.length ≤ 1000 ∧ Hid (D = (P.take k).foldl (stepS (specC l side d)) []) ∧ Below w.heap.size w wr ∧ Below w2.heap.size w2 wr ∧ Hid (wr.ownsRow w2.heap.size 26 5 (.slice A' D.length c') D.length (D.flatMap encCu))) (fun _ i _ => P.length - (intOf i).toNat)
        case atStart => exact ⟨0, [], some ⟨w2.heap.size, 0, none⟩, 0, Nat.zero_le _, rfl, rfl, by simp, Lib.hid rfl, balloc hbw _, balloc (bref _) _, Lib.hid (own_made (cur := #[]) rfl (Nat.zero_le _))⟩
        case round =>
          clear hbw
          obtain ⟨k, D, A', c', hk, rfl, rfl, hDl, HD, hbr, hb2, HO⟩ := hrel
          have hs2 := hb2.size
          by_cases hlt : k < P.length
          · by_cases h64 : D.length ≤ 64
            · obtain ⟨cc, hcc⟩ := some_get hlt
              have i0 := ib0 k
              have i1 := ib1 hlt
              obtain ⟨r1, r2, r3⟩ := HCH.out cc (List.mem_of_getElem? hcc)
              obtain ⟨bP, oP, rfl, hbP, q0, q1, q2, q3, q4⟩ := (HP.out.below hb2).cu hcc
              have HN := Lib.hid (foldl_take (f := stepS (specC l side d)) hcc)
              rw [← HD.out, show stepS (specC l side d) D cc = D ++ specC l side d cc by simp [stepS, h64]] at HN
              have hl8 := HSL.out cc
              have HC := Lib.hid (HIH.out cc wr (by omega) r1 r2 r3 (HR.out.below hbr))
              generalize specC l side d cc = E at HN hl8 HC
              have h64' : (D.length : Int) ≤ 64 := by omega
              clear hcc r1 r2 r3
              go_wp2_with (first | (go_at_call 35; (with_reducible refine (HC.out).mono ?_); rintro e w5 ⟨A5, c5, rfl, ho5, hb5⟩; have HO5 := Lib.hid (own_below HO.out hb5); have HE5 := Lib.hid (RowAt.of_own ho5 encCu_len (by decide)); have hs5 := hb5.size; clear ho5) | (at_builtin; refine wpList_appS rfl _ _ 29 26 5 40 _ rfl Tryz.underlying29 infoCu rfl (by decide) w2.heap.size _ D.length _ (by rfl) HO5.out _ _ _ (E.flatMap encCu) (by rfl) (cellsCu_len E) (HE5.out.news encCu_len) (cellsCu_one E) (D.length + E.length) rfl _ rfl (by omega) (by decide) (by omega) ?_; intro A7 c7 w7 ho7 hg7 hl7))
              go_roundw
              case rel => exact ⟨k + 1, D ++ E, A7, c7, by omega, by go_num, by simp, by simp; omega, Lib.hid HN.out.symm, bgrown (bstep hbr hb5) hg7 (fun q hq => Nat.le_trans hsz2 (row_mine HO5.out q hq)), bgrown (bstep hb2 hb5) hg7 (fun q hq => row_mine HO5.out q hq), Lib.hid (by simpa [List.flatMap_append] using ho7)⟩
              case measure => simp [intOf]; omega
            · have HF := Lib.hid (show specC l side (d + 1) m = D by
                have e : P = P.take k ++ P.drop k := (List.take_append_drop k P).symm
                rw [HE.out, e, List.foldl_append, ← HD.out]
                exact fold_long _ _ (by omega))
              have h64' : ¬ (D.length : Int) ≤ 64 := by omega
              have i1 := ib1 hlt
              go_wp2_with fail
              go_ret
              rw [HF.out]
              exact ⟨A', c', rfl, own_base HO.out hsz2, hbr⟩
          · obtain rfl : k = P.length := by omega
            rw [List.take_length] at HD
            have HF := Lib.hid (HE.out.trans HD.out.symm)
            go_wp2_with fail
            go_ret
            rw [HF.out]
            exact ⟨A', c', rfl, own_base HO.out hsz2, hbr⟩
end Go.Proofs.YtaobbkiepggafaaGreat
