/-
  impl.CellsOf: each cell once, sorted; then a row of three ints for each.
-/
import Derived.Test.YtjjinblahmcplaaFeCell
import Derived.Test.YtjjinblahmcplaaSs
namespace Go.Proofs.Ytjjinblahmcplaa
open Go.RowKit
attribute [local go_sem] ext_cell ext_frozen

theorem three_own {w : World} {base g : Nat} {a b d : Int} (h : w.heap[g]? = some (.cells #[.int .i64 a, .int .i64 b, .int .i64 d] 3 (0, 0))) (hb : base ≤ g) : w.ownsRow base 3 1 (.slice (some ⟨g, 0, none⟩) ([a, b, d] : List Int).length 3) ([a, b, d] : List Int).length (([a, b, d] : List Int).flatMap encI) :=
  ⟨by simp [encI], .inr ⟨g, 3, #[.int .i64 a, .int .i64 b, .int .i64 d], rfl, hb, h, Nat.le_refl _, by unfold maxLen; omega, by simp, by simp [encI]⟩⟩
theorem take_row {α : Type} {L : List α} {k : Nat} {m : α} (h : L[k]? = some m) : L.take (k + 1) = L.take k ++ [m] := by
  rw [List.take_add_one, h]
  rfl
set_option maxRecDepth 100000 in
set_option maxHeartbeats 4000000 in
theorem iCel_any (l : List Fe) (A : Option Addr) (c : Nat) (s : Int) (w : World) (hr : RowAt 5 encFe w A l) (hlen : l.length ≤ 2097152) :
    Calls Try.prog 43 #[.slice A l.length c, .int .i64 s] w (MkSs (cellsL s l) (cellsOK s l) w) := by
  have hmf : ∀ (fn : Fn) (first cap : Array Value) (w : World), (Instr.makeFunc fn first cap).run Try.prog w = .ok (.func fn first cap) w := fun _ _ _ _ => rfl
  have HR := Lib.hid hr
  clear hr
  cases hg : goodFe l <;> cases h2 : inB s 1 500
  case true.true =>
    have HE := Lib.hid (show cellsL s l = (celL s l).map (celRow s l) by simp [cellsL, cellsOK, hg, h2])
    have HE2 := Lib.hid (show cellsOK s l = true by simp [cellsOK, hg, h2])
    have HS := Lib.hid (inB_true h2)
    have HG := Lib.hid (goodFe_all hg)
    have H12 := goodFe_len hg
    go_enter Try.func43, Try.ntmps43
    go_wp2_with (first | (go_at_call 21; (with_reducible refine (iAreFe_any l _ _ _ HR.out hlen).mono ?_); rintro e w1 ⟨rfl, hb1⟩; obtain ⟨hc_hb1, hf_hb1, hz_hb1⟩ := bcell (B := w.heap.size) (by first | omega | (simp; done) | (simp; omega)) hb1) | (go_at_call 78; (with_reducible refine (isSize_any _ _).mono ?_); rintro e w' ⟨rfl, rfl⟩))
    have HB1 := Lib.hid hb1
    have HE0 := Lib.hid (own_empty (E := 86) (K := 2) (heap_new1 w1 (.cells #[] 86)) (Nat.le_refl _))
    have HBE := Lib.hid (balloc (bref w1) (.cells #[] 86))
    clear hb1 hc_hb1 hf_hb1 hg h2
    go_loopw [6, 24] (fun v i wr => ∃ (k : Nat) (D : List (Int × Int)) (g c' : Nat), k ≤ l.length ∧ i = .int .i64 k ∧ v = .slice (some ⟨g, 0, none⟩) D.length c' ∧ D.length ≤ k ∧ Hid (D = disL s (l.take k)) ∧ Hid (Below w1.heap.size w1 wr) ∧ Hid (wr.ownsRow w1.heap.size 86 2 (.slice (some ⟨g, 0, none⟩) D.length c') D.length (D.flatMap encC))) (fun _ i _ => l.length - (intOf i).toNat)
    case atStart => exact ⟨0, [], w1.heap.size, 0, Nat.zero_le _, rfl, rfl, Nat.le_refl _, Lib.hid (by simp [disL]), HBE, HE0⟩
    case round =>
      obtain ⟨k, D, g, c', hk, rfl, rfl, hDk, HD, HB, HO⟩ := hrel
      by_cases hlt : k < l.length
      · obtain ⟨m, hm⟩ := some_get hlt
        have i0 := ib0 k
        have i1 := ib1 hlt
        obtain ⟨b, off, eA, hb, q0, q1, q2, q3, q4⟩ := (HR.out.below (bstep HB1.out HB.out)).fe hm
        subst eA
        have HM := Lib.hid (HG.out m (List.mem_of_getElem? hm))
        have HN := Lib.hid (disL_succ (size := s) hm)
        have hs1 := HB.out.size
        clear hm
        go_wp2_with fail
        refine (cellFe_any m s _ HM.out HS.out).mono ?_; rintro e w2 ⟨rfl, hb2⟩
        go_wp2_with fail
        have x0 : (w2.alloc (.cells #[.int .i64 (m.x / s), .int .i64 (m.y / s)] 86)).cell? ⟨w2.heap.size, 0, none⟩ = some (.int .i64 (m.x / s)) := by simp [go_sem]
        have x1 : (w2.alloc (.cells #[.int .i64 (m.x / s), .int .i64 (m.y / s)] 86)).cell? ⟨w2.heap.size, 1, none⟩ = some (.int .i64 (m.y / s)) := by simp [go_sem]
        have hb3 := balloc (bstep (balloc (bref wr) (.cells #[.int .i64 m.id, .int .i64 m.x, .int .i64 m.y, .int .i64 m.lv, .int .i64 m.pp] 25)) hb2) (.cells #[.int .i64 (m.x / s), .int .i64 (m.y / s)] 86)
        have hz3 : w2.heap.size < (w2.alloc (.cells #[.int .i64 (m.x / s), .int .i64 (m.y / s)] 86)).heap.size := by simp
        generalize w2.alloc (.cells #[.int .i64 (m.x / s), .int .i64 (m.y / s)] 86) = w3 at x0 x1 hb3 hz3 ⊢
        have HO3 := Lib.hid (own_below HO.out hb3)
        have HB3 := Lib.hid (bstep HB.out hb3)
        have HH := hasC_any D (some ⟨g, 0, none⟩) c' (m.x / s, m.y / s) w3 (RowAt.of_own HO3.out encC_len (by omega)) (by omega)
        clear q0 q1 q2 q3 q4 hb2 hb3 hb
        by_cases hmem : (m.x / s, m.y / s) ∈ D
        · rw [decide_eq_true hmem] at HH
          have HN2 := Lib.hid (show D = disL s (l.take (k + 1)) by rw [HN.out, ← HD.out]; exact (if_pos hmem).symm)
          refine HH.mono ?_; rintro e w4 ⟨rfl, hb4⟩
          clear HH hmem
          go_wp2_with fail
          go_roundw
          case rel => exact ⟨k + 1, D, g, c', by omega, by go_num, rfl, by omega, HN2, Lib.hid (bstep HB3.out hb4), Lib.hid (own_below HO3.out hb4)⟩
          case measure => simp [intOf]; omega
        · rw [decide_eq_false hmem] at HH
          have HN2 := Lib.hid (show D ++ [(m.x / s, m.y / s)] = disL s (l.take (k + 1)) by rw [HN.out, ← HD.out]; exact (if_neg hmem).symm)
          refine HH.mono ?_; rintro e w4 ⟨rfl, hb4⟩
          clear HH hmem
          have y0 := (hb4.cell (p := ⟨w2.heap.size, 0, none⟩) hz3).trans x0
          have y1 := (hb4.cell (p := ⟨w2.heap.size, 1, none⟩) hz3).trans x1
          have hz4 := Nat.lt_of_lt_of_le hz3 hb4.size
          have HO4 := Lib.hid (own_below HO3.out hb4)
          have HB4 := Lib.hid (bstep HB3.out hb4)
          have hs4 := HB4.out.size
          clear x0 x1 hz3 hb4
          go_wp2_with (at_builtin; (refine wpList_app rfl _ _ 93 86 2 16 _ rfl Try.underlying93 infoC rfl (by decide) w1.heap.size _ D.length _ (by rfl) (HO4.out.alloc _) _ _ (by rfl) (heap_new1 _ _) rfl (encC_one (m.x / s, m.y / s)) (by omega) (by decide) (by simp; omega) ?_; intro g7 c7 w7 ho7 hg7 hl7; skip))
          go_roundw
          case rel => exact ⟨k + 1, D ++ [(m.x / s, m.y / s)], g7, c7, by omega, by go_num, by simp, by simp; omega, HN2, Lib.hid (bgrown (balloc HB4.out _) hg7 (fun k hk => row_mine HO.out k hk)), Lib.hid (by simpa [encC] using ho7)⟩
          case measure => simp [intOf]; omega
      · obtain rfl : k = l.length := by omega
        have HSrt := Lib.hid (sortC2_any D g c' w1.heap.size wr HO.out (by omega))
        have HDis := Lib.hid (show D = disL s l by rw [HD.out, List.take_length])
        go_wp2_with fail
        refine HSrt.out.mono ?_; rintro e w2 ⟨rfl, S, hp, hs, hSl, ho2, hg2⟩
        have HSE := Lib.hid (show S = celL s l from dis_sorted (by rw [← HDis.out]; exact hp) hs)
        have HB2 := Lib.hid (bgrown HB.out hg2 (fun k hk => row_mine HO.out k hk))
        have HSL := Lib.hid hSl
        have HRS : Hid (RowAt 2 encC w2 (some ⟨g, 0, none⟩) S) := Lib.hid (by rw [← hSl] at ho2; exact RowAt.of_own ho2 encC_len (by omega))
        have HE1 := Lib.hid (SsRes.mk (L := []) (own_empty (E := 42) (K := 1) (heap_new1 w2 (.cells #[] 42)) (Nat.le_refl _)) (fun p hp => by simp at hp) List.Pairwise.nil)
        have HBE1 := Lib.hid (balloc (bref w2) (.cells #[] 42))
        clear HSrt hp hs hSl ho2 hg2 HD HO HE0 HBE
        go_wp2_with fail
        go_loopw [10, 45] (fun vo vi wr => ∃ (k : Nat) (L : List Rw) (A' : Option Addr) (c2 : Nat), k ≤ D.length ∧ vi = .int .i64 k ∧ vo = .slice A' L.length c2 ∧ L.length ≤ k ∧ Hid (L.map Rw.l = (S.take k).map (celRow s l)) ∧ Hid (SsRes w2.heap.size wr A' c2 L) ∧ Hid (Below w2.heap.size w2 wr)) (fun _ i _ => D.length - (intOf i).toNat)
        case atStart => exact ⟨0, [], some ⟨w2.heap.size, 0, none⟩, 0, Nat.zero_le _, rfl, rfl, Nat.le_refl _, Lib.hid (by simp), HE1, HBE1⟩
        case round =>
          obtain ⟨k, L, A', c2, hk, rfl, rfl, hLk, HL, HSs, HBw⟩ := hrel
          by_cases hlt : k < D.length
          · obtain ⟨⟨p1, p2⟩, hp⟩ := some_get (show k < S.length by rw [HSL.out]; exact hlt)
            have i0 := ib0 k
            have i1 := ib1 hlt
            obtain ⟨b, off, eA, hb, q0, q1⟩ := (HRS.out.below HBw.out).cel hp
            cases eA
            have HT := Lib.hid (take_row hp)
            simp only [Nat.zero_add] at q0 q1
            clear hp
            go_upto_region 16 with fail
            have hx := balloc (bref wr) (.cells #[.int .i64 p1, .int .i64 p2] 86)
            have x0 : (wr.alloc (.cells #[.int .i64 p1, .int .i64 p2] 86)).cell? ⟨wr.heap.size, 0, none⟩ = some (.int .i64 p1) := by simp [go_sem]
            have x1 : (wr.alloc (.cells #[.int .i64 p1, .int .i64 p2] 86)).cell? ⟨wr.heap.size, 1, none⟩ = some (.int .i64 p2) := by simp [go_sem]
            have hzx : wr.heap.size < (wr.alloc (.cells #[.int .i64 p1, .int .i64 p2] 86)).heap.size := by simp
            have HNE := Lib.hid (show some wr.heap.size ≠ (Value.slice A' L.length c2).ownBlock from fun e => by have := (HSs.out.out.lt _ e.symm).2; omega)
            generalize wr.alloc (.cells #[.int .i64 p1, .int .i64 p2] 86) = wx at hx x0 x1 hzx ⊢
            have HZX := Lib.hid hzx
            have HX0 := Lib.hid x0
            have HX1 := Lib.hid x1
            have HSx := Lib.hid (HSs.out.below hx)
            have HOW := Lib.hid HSx.out.out
            have HBx := Lib.hid (bstep HBw.out hx)
            have HRx := Lib.hid (HR.out.below (bstep HB1.out (bstep HB2.out HBx.out)))
            have hsx := HBx.out.size
            have hcl := cellsW_le s p1 p2 l
            have HG2 := Lib.hid (cellsW_all (size := s) (a := p1) (b := p2) HG.out)
            clear hx q0 q1 hb
            go_wp2_with fail
            go_region_held3 (fun w' => w'.cell? ⟨wr.heap.size, 0, none⟩ = some (.int .i64 p1) ∧ w'.cell? ⟨wr.heap.size, 1, none⟩ = some (.int .i64 p2))
              (first | exact hKA | exact ⟨(Below.cell (B := wx.heap.size) (w := wx) (p := ⟨wr.heap.size, 0, none⟩) (by repeat (first | exact bref _ | exact hbX2 | exact hbX1 | (refine balloc ?_ _) | (refine bdrew ?_) | (refine bdrewN ?_ _))) HZX.out).trans HX0.out, (Below.cell (B := wx.heap.size) (w := wx) (p := ⟨wr.heap.size, 1, none⟩) (by repeat (first | exact bref _ | exact hbX2 | exact hbX1 | (refine balloc ?_ _) | (refine bdrew ?_) | (refine bdrewN ?_ _))) HZX.out).trans HX1.out⟩)
              (first
                | (go_at_call 79; (with_reducible refine (within_any l A c s p1 p2 _ ?_ hlen HG.out HS.out).mono ?_); exact RowAt.below HRx.out (by repeat (first | exact bref _ | exact hbX2 | exact hbX1 | (refine balloc ?_ _) | (refine bdrew ?_) | (refine bdrewN ?_ _))); rintro e w3 ⟨A3, c3, rfl, ho3, hb3⟩; have hbX1 : Below wx.heap.size wx w3 := bstep (by repeat (first | exact bref _ | exact hbX2 | exact hbX1 | (refine balloc ?_ _) | (refine bdrew ?_) | (refine bdrewN ?_ _))) hb3; have HO3 := Lib.hid (RowAt.of_own ho3 encFe_len (by omega)); clear ho3 hb3)
                | (go_at_call 80; (with_reducible refine (level_any (cellsW s p1 p2 l) A3 c3 _ ?_ (by omega) HG2.out).mono ?_); exact RowAt.below HO3.out (by repeat (first | exact bref _ | (refine balloc ?_ _) | (refine bdrew ?_) | (refine bdrewN ?_ _))); rintro e w4 ⟨rfl, hb4⟩; have hbX2 : Below wx.heap.size wx w4 := bstep hbX1 hb4; have hs4 := hbX2.size; clear hb4)
                | (refine step_appS (by rfl) (.tmp 49) (.tmp 60) 54 42 1 24 _ (by rfl) Try.underlying54 infoSs rfl (by decide) w2.heap.size _ L.length _ (by rfl) (own_below HOW.out (by repeat (first | exact bref _ | exact hbX2 | exact hbX1 | (refine balloc ?_ _) | (refine bdrew ?_) | (refine bdrewN ?_ _)))) _ 1 _ (encRw ⟨[p1, p2, levelL (cellsW s p1 p2 l)], some ⟨w4.heap.size, 0, none⟩, 3⟩) (by rfl) rfl (news1 (by first | exact heap_new2 _ _ _ | exact heap_new1 _ _) rfl) (encRw_one ⟨[p1, p2, levelL (cellsW s p1 p2 l)], some ⟨w4.heap.size, 0, none⟩, 3⟩) (L.length + 1) rfl _ rfl (by omega) (by decide) (by simp <;> omega) ?_; intro A10 c10 w10 ho10 hg10 hl10; have hKA : w10.cell? ⟨wr.heap.size, 0, none⟩ = some (.int .i64 p1) ∧ w10.cell? ⟨wr.heap.size, 1, none⟩ = some (.int .i64 p2) := ⟨hg10.cell ((Below.cell (B := wx.heap.size) (w := wx) (p := ⟨wr.heap.size, 0, none⟩) (by repeat (first | exact bref _ | exact hbX2 | exact hbX1 | (refine balloc ?_ _) | (refine bdrew ?_) | (refine bdrewN ?_ _))) HZX.out).trans HX0.out) HNE.out, hg10.cell ((Below.cell (B := wx.heap.size) (w := wx) (p := ⟨wr.heap.size, 1, none⟩) (by repeat (first | exact bref _ | exact hbX2 | exact hbX1 | (refine balloc ?_ _) | (refine bdrew ?_) | (refine bdrewN ?_ _))) HZX.out).trans HX1.out) HNE.out⟩)
                | fail)
            all_goals
              have hpush := SsRes.push (l := [p1, p2, levelL (cellsW s p1 p2 l)]) (cs := 3) HSx.out hs4 (balloc (balloc hbX2 _) _) (by simp; omega) (Nat.le_refl _) (World.ownsRow.alloc (three_own (heap_new1 w4 _) (by omega)) _) ho10 hg10 hl10
              have HB10 := Lib.hid (bgrown (bstep HBx.out (balloc (balloc hbX2 _) _)) hg10 (row_mine HOW.out))
              go_wp2_with fail
              go_roundw
              case rel => exact ⟨k + 1, L ++ [⟨[p1, p2, levelL (cellsW s p1 p2 l)], some ⟨w4.heap.size, 0, none⟩, 3⟩], A10, c10, by omega, by go_num, by simp, by simp; omega, Lib.hid (by rw [List.map_append, HL.out, HT.out, List.map_append]; rfl), Lib.hid hpush, HB10⟩
              case measure => simp [intOf]; omega
          · obtain rfl : k = D.length := by omega
            have HL2 := Lib.hid (show L.map Rw.l = (celL s l).map (celRow s l) by rw [HL.out, ← HSL.out, List.take_length, HSE.out])
            have HLE := Lib.hid (show L.length = ((celL s l).map (celRow s l)).length by rw [← HL2.out, List.length_map])
            go_wp2_with fail
            go_ret2
            rw [HE.out, HE2.out]
            exact ⟨L, A', c2, (by rw [← HLE.out]; rfl), HL2.out, HSs.out.base_ (bstep HB1.out HB2.out).size, bstep HB1.out (bstep HB2.out HBw.out)⟩
  all_goals
    have e1 : cellsL s l = [] := by simp [cellsL, cellsOK, hg, h2]
    have e2 : cellsOK s l = false := by simp [cellsOK, hg, h2]
    rw [e1, e2]
    clear e1 e2
    go_enter Try.func43, Try.ntmps43
    go_wp2_with (first | (go_at_call 21; (with_reducible refine (iAreFe_any l _ _ _ HR.out hlen).mono ?_); rintro e w1 ⟨rfl, hb1⟩; obtain ⟨hc_hb1, hf_hb1, hz_hb1⟩ := bcell (B := w.heap.size) (by first | omega | (simp; done) | (simp; omega)) hb1) | (go_at_call 78; (with_reducible refine (isSize_any _ _).mono ?_); rintro e w' ⟨rfl, rfl⟩))
    go_ret2
    exact ⟨[], none, 0, rfl, rfl, SsRes.nil_ _ _, hb1⟩
end Go.Proofs.Ytjjinblahmcplaa
