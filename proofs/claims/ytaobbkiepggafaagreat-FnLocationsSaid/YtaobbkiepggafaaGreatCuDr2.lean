/-
  The draws of module cubes: a cube.
-/
import Derived.Test.YtaobbkiepggafaaGreatCuDr1
import Derived.Test.YtaobbkiepggafaaGreatCu0
import Derived.Test.YtaobbkiepggafaaGreatCuRch
import Derived.Test.YtaobbkiepggafaaGreatArTks
import Derived.Test.YtaobbkiepggafaaGreatTakeC
import Derived.Deep.CutRange
import Derived.Deep.RegionWith
import Derived.Deep.RegionHeld3
namespace Go.Proofs.YtaobbkiepggafaaGreat
set_option linter.unusedVariables false
set_option linter.unusedSimpArgs false
set_option linter.unnecessarySimpa false
open Go.RowKit
attribute [local go_sem] ext_cell ext_frozen

theorem maxI_bd {a b B : Int} (ha : a ≤ B) (hb : b ≤ B) : a ≤ maxI a b ∧ maxI a b ≤ B := by
  unfold maxI
  split <;> omega
set_option maxRecDepth 100000 in
set_option maxHeartbeats 100000000 in
theorem cube_any {w0 : World} {p : Nat} {A : Option Addr} {n c K : Nat} (o : Og) (w : World) (h : Dr w0 w p A n c K) (hk : K ≤ 700000) (hn : n ≤ 9223372036854775807) (ho : ogBd o) :
    Calls Tryz.prog 24 #[.pointer (some ⟨p, 0, none⟩), .agg #[.int .i64 o.x, .int .i64 o.y, .int .i64 o.tk]] w fun e w' => ∃ m : Cu, e = .returned (.agg #[.int .i64 m.ws, .int .i64 m.so, .int .i64 m.sd, .int .i64 m.fr, .int .i64 m.to_]) ∧ Dr w0 w' p A n c (K + 10) ∧ w.grownBy w' (some p) := by
  have hlt := h.lt
  have HD := Lib.hid h
  obtain ⟨⟨ox0, ox1⟩, ⟨oy0, oy1⟩, ot0, ot1⟩ := ho
  have hmx := maxI_bd (a := 0) (b := o.x) (B := 1000) (by omega) (by omega)
  have hmy := maxI_bd (a := 0) (b := o.y) (B := 1000) (by omega) (by omega)
  have HB0 := Lib.hid (box3_new w (.int .i64 o.x) (.int .i64 o.y) (.int .i64 o.tk) 38)
  have HZ0 := Lib.hid (box5_new (w.alloc (.cells #[.int .i64 o.x, .int .i64 o.y, .int .i64 o.tk] 38)) (.int .i64 0) (.int .i64 0) (.int .i64 0) (.int .i64 0) (.int .i64 0) 26)
  clear h
  have FIN := Lib.hid (fun (W : World) (k : Nat) (hd : Dr w0 W p A n c k) (hg : w.grownBy W (some p)) (hz : Box5 W (w.heap.size + 1) (.int .i64 0) (.int .i64 0) (.int .i64 0) (.int .i64 0) (.int .i64 0)) (m : Cu) =>
    show Box5 (((((W.setCell ⟨w.heap.size + 1, 0, none⟩ (.int .i64 m.ws)).setCell ⟨w.heap.size + 1, 1, none⟩ (.int .i64 m.so)).setCell ⟨w.heap.size + 1, 2, none⟩ (.int .i64 m.sd)).setCell ⟨w.heap.size + 1, 3, none⟩ (.int .i64 m.fr)).setCell ⟨w.heap.size + 1, 4, none⟩ (.int .i64 m.to_)) (w.heap.size + 1) (.int .i64 m.ws) (.int .i64 m.so) (.int .i64 m.sd) (.int .i64 m.fr) (.int .i64 m.to_) ∧ Dr w0 (((((W.setCell ⟨w.heap.size + 1, 0, none⟩ (.int .i64 m.ws)).setCell ⟨w.heap.size + 1, 1, none⟩ (.int .i64 m.so)).setCell ⟨w.heap.size + 1, 2, none⟩ (.int .i64 m.sd)).setCell ⟨w.heap.size + 1, 3, none⟩ (.int .i64 m.fr)).setCell ⟨w.heap.size + 1, 4, none⟩ (.int .i64 m.to_)) p A n c k ∧ w.grownBy (((((W.setCell ⟨w.heap.size + 1, 0, none⟩ (.int .i64 m.ws)).setCell ⟨w.heap.size + 1, 1, none⟩ (.int .i64 m.so)).setCell ⟨w.heap.size + 1, 2, none⟩ (.int .i64 m.sd)).setCell ⟨w.heap.size + 1, 3, none⟩ (.int .i64 m.fr)).setCell ⟨w.heap.size + 1, 4, none⟩ (.int .i64 m.to_)) (some p) from by
      have hB : Below w.heap.size W (((((W.setCell ⟨w.heap.size + 1, 0, none⟩ (.int .i64 m.ws)).setCell ⟨w.heap.size + 1, 1, none⟩ (.int .i64 m.so)).setCell ⟨w.heap.size + 1, 2, none⟩ (.int .i64 m.sd)).setCell ⟨w.heap.size + 1, 3, none⟩ (.int .i64 m.fr)).setCell ⟨w.heap.size + 1, 4, none⟩ (.int .i64 m.to_)) := (((((Below.refl _ _).setCell (p := ⟨w.heap.size + 1, 0, none⟩) (by simp) _).setCell (p := ⟨w.heap.size + 1, 1, none⟩) (by simp) _).setCell (p := ⟨w.heap.size + 1, 2, none⟩) (by simp) _).setCell (p := ⟨w.heap.size + 1, 3, none⟩) (by simp) _).setCell (p := ⟨w.heap.size + 1, 4, none⟩) (by simp) _
      exact ⟨hz.all _ _ _ _ _, HD.out.above hd hB, only_above hg hB⟩)
  go_enter Tryz.func24, Tryz.ntmps24
  go_wp2_with fail
  refine (among_dr [1, 4, 16, 16, 64, 128, 512] 7 _ _ _ (((HD.out.alloc _).alloc _).alloc _) (by omega) hn ?_ ?_ ?_ (by decide) (by decide)).mono ?_
  · exact RowAt.of_block encI_len (heap_new3 _ _ _ _) rfl
  · omega
  · rfl
  rintro e wq ⟨sd, rfl, hv1, hd1, hg1⟩
  have hb1 : 1 ≤ sd ∧ sd ≤ 512 := by simp only [List.mem_cons, List.not_mem_nil, or_false] at hv1; omega
  have hsd0 : ¬ sd = 0 := by omega
  have hgB := only_two (only_alloc (only_alloc (World.grownBy.refl (w.alloc (.cells #[.int .i64 o.x, .int .i64 o.y, .int .i64 o.tk] 38)) (some p)) (.cells #[.int .i64 0, .int .i64 0, .int .i64 0, .int .i64 0, .int .i64 0] 26)) _) hg1
  have HG1 := Lib.hid (only_two (only_alloc (World.grownBy.refl w (some p)) (.cells #[.int .i64 o.x, .int .i64 o.y, .int .i64 o.tk] 38)) hgB)
  have neB : w.heap.size ≠ p := by omega
  have neZ : w.heap.size + 1 ≠ p := by omega
  have HB := Lib.hid (HB0.out.moved hgB neB)
  have HZ1 := Lib.hid (HZ0.out.moved (only_two (only_alloc (World.grownBy.refl _ (some p)) _) hg1) (by simpa using neZ))
  have HD1 := Lib.hid hd1
  have hlt1 := hd1.lt
  have hs1 : w.heap.size + 1 < wq.heap.size := by have := HZ1.out.1; simpa using this
  clear hd1 hg1 hgB hv1 HB0 HZ0
  simp only [World.size_alloc] at HZ1
  go_upto_region 2 with fail
  go_cut [6] from 10 to 39 (fun s6 wx => ∃ (g : Nat) (m : Cu), s6 = .pointer (some ⟨g, 0, none⟩) ∧ wq.heap.size ≤ g ∧ Hid (Box5 wx g (.int .i64 m.ws) (.int .i64 m.so) (.int .i64 m.sd) (.int .i64 m.fr) (.int .i64 m.to_)) ∧ Hid (Dr w0 wx p A n c (K + 6)) ∧ Hid (wq.grownBy wx (some p)))
  case first =>
    have HKP := Lib.hid (fun (W : World) (h : wq.grownBy W (some p)) => (HB.out.moved h neB).2.1)
    refine wp_region_held_drew (S := fun W => wq.grownBy W (some p)) (by kernel_rfl) (only_drew (World.grownBy.refl wq (some p))) (fun hHeld => ?_)
    have dq := HD1.out.below (bdrew (bref wq))
    have lq : wq.heap.size ≤ wq.drew.heap.size := Nat.le_refl _
    generalize wq.drew = x0 at hHeld dq lq ⊢
    refine wpAnyH_take (i := 0) (v := ?v1) (opL rfl) (by kernel_rfl) (by kernel_rfl) (by kernel_rfl) (fun _ _ _ h => h) (Or.inl ⟨by rfl, ?hy1⟩) hHeld ?rest1
    case hy1 => (intro w hSw; obtain ⟨q0, q1, q2⟩ := HKP.out w hSw; go_simp; try with_reducible rfl)
    (try simp only [Act.put, List.setIfInBounds_toArray, List.set_cons_zero, List.set_cons_succ])
    refine wpAnyH_take (i := 1) (v := ?v2) (opL rfl) (by kernel_rfl) (by kernel_rfl) (by kernel_rfl) (fun _ _ _ h => h) (Or.inl ⟨by rfl, ?hy2⟩) hHeld ?rest2
    case hy2 => (intro w hSw; obtain ⟨q0, q1, q2⟩ := HKP.out w hSw; go_simp; try with_reducible rfl)
    (try simp only [Act.put, List.setIfInBounds_toArray, List.set_cons_zero, List.set_cons_succ])
    refine wpAnyH_take (i := 3) (v := ?v3) (opL rfl) (by kernel_rfl) (by kernel_rfl) (by kernel_rfl) (fun _ _ _ h => h) (Or.inl ⟨by rfl, ?hy3⟩) hHeld ?rest3
    case hy3 => (intro w hSw; obtain ⟨q0, q1, q2⟩ := HKP.out w hSw; go_simp; try with_reducible rfl)
    (try simp only [Act.put, List.setIfInBounds_toArray, List.set_cons_zero, List.set_cons_succ])
    refine wpAnyH_take (i := 5) (v := ?v4) (opL rfl) (by kernel_rfl) (by kernel_rfl) (by kernel_rfl) (fun _ _ _ h => h) (Or.inl ⟨by rfl, ?hy4⟩) hHeld ?rest4
    case hy4 => (intro w hSw; obtain ⟨q0, q1, q2⟩ := HKP.out w hSw; go_simp; try with_reducible rfl)
    (try simp only [Act.put, List.setIfInBounds_toArray, List.set_cons_zero, List.set_cons_succ])
    refine wpAnyH_take (i := 7) (v := ?v5) (opL rfl) (by kernel_rfl) (by kernel_rfl) (by kernel_rfl) (fun _ _ _ h => h) (Or.inl ⟨by rfl, ?hy5⟩) hHeld ?rest5
    case hy5 => (intro w hSw; obtain ⟨q0, q1, q2⟩ := HKP.out w hSw; go_simp; try with_reducible rfl)
    (try simp only [Act.put, List.setIfInBounds_toArray, List.set_cons_zero, List.set_cons_succ])
    refine wpAnyH_take (i := 8) (v := ?v6) (opL rfl) (by kernel_rfl) (by kernel_rfl) (by kernel_rfl) (fun _ _ _ h => h) (Or.inl ⟨by rfl, ?hy6⟩) hHeld ?rest6
    case hy6 => (intro w hSw; obtain ⟨q0, q1, q2⟩ := HKP.out w hSw; go_simp; try with_reducible rfl)
    (try simp only [Act.put, List.setIfInBounds_toArray, List.set_cons_zero, List.set_cons_succ])
    refine wpAnyH_take (i := 10) (v := ?v7) (opL rfl) (by kernel_rfl) (by kernel_rfl) (by kernel_rfl) (fun _ _ _ h => h) (Or.inl ⟨by rfl, ?hy7⟩) hHeld ?rest7
    case hy7 => (intro w hSw; obtain ⟨q0, q1, q2⟩ := HKP.out w hSw; go_simp; try with_reducible rfl)
    (try simp only [Act.put, List.setIfInBounds_toArray, List.set_cons_zero, List.set_cons_succ])
    refine wpAnyH_take (i := 12) (v := ?v8) (opL rfl) (by kernel_rfl) (by kernel_rfl) (by kernel_rfl) (fun _ _ _ h => h) (Or.inl ⟨by rfl, ?hy8⟩) hHeld ?rest8
    case hy8 => (intro w hSw; obtain ⟨q0, q1, q2⟩ := HKP.out w hSw; go_simp; try with_reducible rfl)
    (try simp only [Act.put, List.setIfInBounds_toArray, List.set_cons_zero, List.set_cons_succ])
    refine wpAnyH_take (i := 14) (v := ?v9) (opL rfl) (by kernel_rfl) (by kernel_rfl) (by kernel_rfl) (fun _ _ _ h => h) (Or.inl ⟨by rfl, ?hy9⟩) hHeld ?rest9
    case hy9 => (intro w hSw; obtain ⟨q0, q1, q2⟩ := HKP.out w hSw; go_simp; try with_reducible rfl)
    (try simp only [Act.put, List.setIfInBounds_toArray, List.set_cons_zero, List.set_cons_succ])
    refine wpAnyH_take (i := 15) (v := ?v10) (opL rfl) (by kernel_rfl) (by kernel_rfl) (by kernel_rfl) (fun _ _ _ h => h) (Or.inl ⟨by rfl, ?hy10⟩) hHeld ?rest10
    case hy10 => (intro w hSw; obtain ⟨q0, q1, q2⟩ := HKP.out w hSw; go_simp; try with_reducible rfl)
    (try simp only [Act.put, List.setIfInBounds_toArray, List.set_cons_zero, List.set_cons_succ])
    refine wpAnyH_take (i := 16) (v := ?v11) (opL rfl) (by kernel_rfl) (by kernel_rfl) (by kernel_rfl) (fun _ _ _ h => h) (Or.inl ⟨by rfl, ?hy11⟩) hHeld ?rest11
    case hy11 => (intro w hSw; obtain ⟨q0, q1, q2⟩ := HKP.out w hSw; go_simp; try with_reducible rfl)
    (try simp only [Act.put, List.setIfInBounds_toArray, List.set_cons_zero, List.set_cons_succ])
    refine wpAnyH_take (i := 17) (v := ?v12) (opL rfl) (by kernel_rfl) (by kernel_rfl) (by kernel_rfl) (fun _ _ _ h => h) (Or.inl ⟨by rfl, ?hy12⟩) hHeld ?rest12
    case hy12 => (intro w hSw; obtain ⟨q0, q1, q2⟩ := HKP.out w hSw; go_simp; try with_reducible rfl)
    (try simp only [Act.put, List.setIfInBounds_toArray, List.set_cons_zero, List.set_cons_succ])
    refine wpAnyH_take (i := 22) (v := ?v13) (opL rfl) (by kernel_rfl) (by kernel_rfl) (by kernel_rfl) (fun _ _ _ h => h) (Or.inl ⟨by rfl, ?hy13⟩) hHeld ?rest13
    case hy13 => (intro w hSw; obtain ⟨q0, q1, q2⟩ := HKP.out w hSw; go_simp; try with_reducible rfl)
    (try simp only [Act.put, List.setIfInBounds_toArray, List.set_cons_zero, List.set_cons_succ])
    refine wpAnyH_take (i := 23) (v := ?v14) (opL rfl) (by kernel_rfl) (by kernel_rfl) (by kernel_rfl) (fun _ _ _ h => h) (Or.inl ⟨by rfl, ?hy14⟩) hHeld ?rest14
    case hy14 => (intro w hSw; obtain ⟨q0, q1, q2⟩ := HKP.out w hSw; go_simp; try with_reducible rfl)
    (try simp only [Act.put, List.setIfInBounds_toArray, List.set_cons_zero, List.set_cons_succ])
    refine wpAnyH_take (i := 24) (v := ?v15) (opL rfl) (by kernel_rfl) (by kernel_rfl) (by kernel_rfl) (fun _ _ _ h => h) (Or.inl ⟨by rfl, ?hy15⟩) hHeld ?rest15
    case hy15 => (intro w hSw; obtain ⟨q0, q1, q2⟩ := HKP.out w hSw; go_simp; try with_reducible rfl)
    (try simp only [Act.put, List.setIfInBounds_toArray, List.set_cons_zero, List.set_cons_succ])
    refine take_call (i := 2) (v := .int .i64 (maxI 0 o.x)) (opL rfl) (by kernel_rfl) (by kernel_rfl) (by kernel_rfl) (fun _ _ _ h => h) ⟨by rfl, 26, #[.int .i64 0, .int .i64 o.x], ?hr16, ?hc16⟩ hHeld ?rest16
    case hr16 => (intro w; go_simp; try with_reducible rfl)
    case hc16 => (intro w hSw; exact l1Most_any _ _ _)
    (try simp only [Act.put, List.setIfInBounds_toArray, List.set_cons_zero, List.set_cons_succ])
    refine wpAnyH_take (i := 4) (v := ?v17) (opL rfl) (by kernel_rfl) (by kernel_rfl) (by kernel_rfl) (fun _ _ _ h => h) (Or.inl ⟨by rfl, ?hy17⟩) hHeld ?rest17
    case hy17 => (intro w hSw; obtain ⟨q0, q1, q2⟩ := HKP.out w hSw; go_simp; try with_reducible rfl)
    (try simp only [Act.put, List.setIfInBounds_toArray, List.set_cons_zero, List.set_cons_succ])
    refine wpAnyH_take (i := 6) (v := ?v18) (opL rfl) (by kernel_rfl) (by kernel_rfl) (by kernel_rfl) (fun _ _ _ h => h) (Or.inl ⟨by rfl, ?hy18⟩) hHeld ?rest18
    case hy18 => (intro w hSw; obtain ⟨q0, q1, q2⟩ := HKP.out w hSw; go_simp; try with_reducible rfl)
    (try simp only [Act.put, List.setIfInBounds_toArray, List.set_cons_zero, List.set_cons_succ])
    refine take_call (i := 9) (v := .int .i64 (maxI 0 o.y)) (opL rfl) (by kernel_rfl) (by kernel_rfl) (by kernel_rfl) (fun _ _ _ h => h) ⟨by rfl, 26, #[.int .i64 0, .int .i64 o.y], ?hr19, ?hc19⟩ hHeld ?rest19
    case hr19 => (intro w; go_simp; try with_reducible rfl)
    case hc19 => (intro w hSw; exact l1Most_any _ _ _)
    (try simp only [Act.put, List.setIfInBounds_toArray, List.set_cons_zero, List.set_cons_succ])
    refine wpAnyH_take (i := 11) (v := ?v20) (opL rfl) (by kernel_rfl) (by kernel_rfl) (by kernel_rfl) (fun _ _ _ h => h) (Or.inl ⟨by rfl, ?hy20⟩) hHeld ?rest20
    case hy20 => (intro w hSw; obtain ⟨q0, q1, q2⟩ := HKP.out w hSw; go_simp; try with_reducible rfl)
    (try simp only [Act.put, List.setIfInBounds_toArray, List.set_cons_zero, List.set_cons_succ])
    refine wpAnyH_take (i := 13) (v := ?v21) (opL rfl) (by kernel_rfl) (by kernel_rfl) (by kernel_rfl) (fun _ _ _ h => h) (Or.inl ⟨by rfl, ?hy21⟩) hHeld ?rest21
    case hy21 => (intro w hSw; obtain ⟨q0, q1, q2⟩ := HKP.out w hSw; go_simp; try with_reducible rfl)
    (try simp only [Act.put, List.setIfInBounds_toArray, List.set_cons_zero, List.set_cons_succ])
    refine wpAnyH_ready (rs := [18, 25, 30]) (by kernel_rfl) (by simp) ?_
    refine AllReadyH.cons (opL rfl) (fun K hK => ?_) ?_
    · skip
      go_simp
      have d1 := (dq).alloc (.cells #[.int .i64 0, .int .i64 50, .int .i64 2000, .int .i64 100000] 3)
      have g1 := only_alloc hHeld (.cells #[.int .i64 0, .int .i64 50, .int .i64 2000, .int .i64 100000] 3)
      have b1 := heap_new1 x0 (.cells #[.int .i64 0, .int .i64 50, .int .i64 2000, .int .i64 100000] 3)
      have s1 : x0.heap.size < (x0.alloc (.cells #[.int .i64 0, .int .i64 50, .int .i64 2000, .int .i64 100000] 3)).heap.size := by simp
      generalize x0.alloc (.cells #[.int .i64 0, .int .i64 50, .int .i64 2000, .int .i64 100000] 3) = x1 at d1 g1 b1 s1  hK ⊢
      refine hK.out _ _ g1 (fun hHeld => ?_)
      clear hK K hHeld
      (try simp only [Act.put, List.setIfInBounds_toArray, List.set_cons_zero, List.set_cons_succ])
      refine wpAnyH_ready (rs := [19, 25, 30]) (by kernel_rfl) (by simp) ?_
      refine AllReadyH.cons (opL rfl) (fun K hK => ?_) ?_
      · skip
        go_simp
        refine (among_dr (w0 := w0) (A := A) (n := n) (c := c) [0, 50, 2000, 100000] 4 _ _ _ d1 (by omega) hn (RowAt.of_block encI_len b1 rfl) (by have := lq; omega) rfl (by decide) (by decide)).mono ?_
        rintro e x2 ⟨v3, rfl, hv2, d2, h2⟩
        dsimp only
        have hb2 : 0 ≤ v3 ∧ v3 ≤ 100000 := by simp only [List.mem_cons, List.not_mem_nil, or_false] at hv2; omega
        have g2 := only_two g1 h2
        have l2 := h2.size
        have r18_2 := blk_kept b1 h2 (by have := lq; simp; omega)
        refine hK.out _ _ g2 (fun hHeld => ?_)
        clear hK K hHeld hv2 h2
        (try simp only [Act.put, List.setIfInBounds_toArray, List.set_cons_zero, List.set_cons_succ])
        refine wpAnyH_take (i := 20) (v := ?v22) (opL rfl) (by kernel_rfl) (by kernel_rfl) (by kernel_rfl) (fun _ _ _ h => h) (Or.inl ⟨by rfl, ?hy22⟩) g2 ?rest22
        case hy22 => (intro w hSw; obtain ⟨q0, q1, q2⟩ := HKP.out w hSw; go_simp; try with_reducible rfl)
        (try simp only [Act.put, List.setIfInBounds_toArray, List.set_cons_zero, List.set_cons_succ])
        refine take_call (i := 21) (v := .int .i64 (maxI 0 (IntKind.i64.wrap (o.tk - v3)))) (opL rfl) (by kernel_rfl) (by kernel_rfl) (by kernel_rfl) (fun _ _ _ h => h) ⟨by rfl, 26, #[.int .i64 0, .int .i64 (IntKind.i64.wrap (o.tk - v3))], ?hr23, ?hc23⟩ g2 ?rest23
        case hr23 => (intro w; go_simp; try with_reducible rfl)
        case hc23 => (intro w hSw; exact l1Most_any _ _ _)
        (try simp only [Act.put, List.setIfInBounds_toArray, List.set_cons_zero, List.set_cons_succ])
        refine wpAnyH_ready (rs := [25, 30]) (by kernel_rfl) (by simp) ?_
        refine AllReadyH.cons (opL rfl) (fun K hK => ?_) ?_
        · skip
          go_simp
          have d3 := (d2).alloc (.cells #[.int .i64 0, .int .i64 50, .int .i64 2000, .int .i64 100000] 3)
          have g3 := only_alloc g2 (.cells #[.int .i64 0, .int .i64 50, .int .i64 2000, .int .i64 100000] 3)
          have b3 := heap_new1 x2 (.cells #[.int .i64 0, .int .i64 50, .int .i64 2000, .int .i64 100000] 3)
          have r18_3 := blk_alloc r18_2 (.cells #[.int .i64 0, .int .i64 50, .int .i64 2000, .int .i64 100000] 3)
          have s3 : x2.heap.size < (x2.alloc (.cells #[.int .i64 0, .int .i64 50, .int .i64 2000, .int .i64 100000] 3)).heap.size := by simp
          generalize x2.alloc (.cells #[.int .i64 0, .int .i64 50, .int .i64 2000, .int .i64 100000] 3) = x3 at d3 g3 b3 s3 r18_3 hK ⊢
          refine hK.out _ _ g3 (fun hHeld => ?_)
          clear hK K hHeld
          (try simp only [Act.put, List.setIfInBounds_toArray, List.set_cons_zero, List.set_cons_succ])
          refine wpAnyH_ready (rs := [26, 30]) (by kernel_rfl) (by simp) ?_
          refine AllReadyH.cons (opL rfl) (fun K hK => ?_) ?_
          · skip
            go_simp
            refine (among_dr (w0 := w0) (A := A) (n := n) (c := c) [0, 50, 2000, 100000] 4 _ _ _ d3 (by omega) hn (RowAt.of_block encI_len b3 rfl) (by have := (Nat.le_trans (Nat.le_trans lq (Nat.le_of_lt s1)) l2); omega) rfl (by decide) (by decide)).mono ?_
            rintro e x4 ⟨v4, rfl, hv4, d4, h4⟩
            dsimp only
            have hb4 : 0 ≤ v4 ∧ v4 ≤ 100000 := by simp only [List.mem_cons, List.not_mem_nil, or_false] at hv4; omega
            have g4 := only_two g3 h4
            have l4 := h4.size
            have r18_4 := blk_kept r18_3 h4 (by have := lq; simp; omega)
            have r25_4 := blk_kept b3 h4 (by have := (Nat.le_trans (Nat.le_trans lq (Nat.le_of_lt s1)) l2); simp; omega)
            refine hK.out _ _ g4 (fun hHeld => ?_)
            clear hK K hHeld hv4 h4
            (try simp only [Act.put, List.setIfInBounds_toArray, List.set_cons_zero, List.set_cons_succ])
            refine wpAnyH_take (i := 27) (v := ?v24) (opL rfl) (by kernel_rfl) (by kernel_rfl) (by kernel_rfl) (fun _ _ _ h => h) (Or.inl ⟨by rfl, ?hy24⟩) g4 ?rest24
            case hy24 => (intro w hSw; obtain ⟨q0, q1, q2⟩ := HKP.out w hSw; go_simp; try with_reducible rfl)
            (try simp only [Act.put, List.setIfInBounds_toArray, List.set_cons_zero, List.set_cons_succ])
            refine take_call (i := 28) (v := .int .i64 (minI 1000000 (IntKind.i64.wrap (o.tk + v4)))) (opL rfl) (by kernel_rfl) (by kernel_rfl) (by kernel_rfl) (fun _ _ _ h => h) ⟨by rfl, 55, #[.int .i64 1000000, .int .i64 (IntKind.i64.wrap (o.tk + v4))], ?hr25, ?hc25⟩ g4 ?rest25
            case hr25 => (intro w; go_simp; try with_reducible rfl)
            case hc25 => (intro w hSw; exact l1Least_any _ _ _)
            (try simp only [Act.put, List.setIfInBounds_toArray, List.set_cons_zero, List.set_cons_succ])
            refine wpAnyH_take (i := 29) (v := ?v26) (opL rfl) (by kernel_rfl) (by kernel_rfl) (by kernel_rfl) (fun _ _ _ h => h) (Or.inl ⟨by rfl, ?hy26⟩) g4 ?rest26
            case hy26 => (intro w hSw; obtain ⟨q0, q1, q2⟩ := HKP.out w hSw; go_simp; try with_reducible rfl)
            (try simp only [Act.put, List.setIfInBounds_toArray, List.set_cons_zero, List.set_cons_succ])
            refine wpAnyH_ready (rs := [30]) (by kernel_rfl) (by simp) ?_
            refine AllReadyH.cons (opL rfl) (fun K hK => ?_) ?_
            · skip
              go_simp
              have d5 := (d4).alloc (.cells #[.int .i64 0, .int .i64 0, .int .i64 0, .int .i64 0, .int .i64 0] 26)
              have g5 := only_alloc g4 (.cells #[.int .i64 0, .int .i64 0, .int .i64 0, .int .i64 0, .int .i64 0] 26)
              have b5 := heap_new1 x4 (.cells #[.int .i64 0, .int .i64 0, .int .i64 0, .int .i64 0, .int .i64 0] 26)
              have r18_5 := blk_alloc r18_4 (.cells #[.int .i64 0, .int .i64 0, .int .i64 0, .int .i64 0, .int .i64 0] 26)
              have r25_5 := blk_alloc r25_4 (.cells #[.int .i64 0, .int .i64 0, .int .i64 0, .int .i64 0, .int .i64 0] 26)
              have s5 : x4.heap.size < (x4.alloc (.cells #[.int .i64 0, .int .i64 0, .int .i64 0, .int .i64 0, .int .i64 0] 26)).heap.size := by simp
              generalize x4.alloc (.cells #[.int .i64 0, .int .i64 0, .int .i64 0, .int .i64 0, .int .i64 0] 26) = x5 at d5 g5 b5 s5 r18_5 r25_5 hK ⊢
              refine hK.out _ _ g5 (fun hHeld => ?_)
              clear hK K hHeld
              (try simp only [Act.put, List.setIfInBounds_toArray, List.set_cons_zero, List.set_cons_succ])
              refine wpAnyH_ready (rs := [31]) (by kernel_rfl) (by simp) ?_
              refine AllReadyH.cons (opL rfl) (fun K hK => ?_) ?_
              · skip
                have B6 := box5_of b5
                have B6' := Lib.hid B6
                obtain ⟨_, ⟨u0, u1, u2, u3, u4⟩, t0, t1, t2, t3, t4⟩ := B6
                go_simp
                have c6 := B6'.out.all (.int .i64 (IntKind.i64.wrap (IntKind.i64.wrap ((maxI 0 o.x).tdiv sd) * sd))) (.int .i64 (IntKind.i64.wrap (IntKind.i64.wrap ((maxI 0 o.y).tdiv sd) * sd))) (.int .i64 sd) (.int .i64 (maxI 0 (IntKind.i64.wrap (o.tk - v3)))) (.int .i64 (minI 1000000 (IntKind.i64.wrap (o.tk + v4))))
                have e6 : Below wq.heap.size x5 (((((x5.setCell ⟨x4.heap.size, 0, none⟩ (.int .i64 (IntKind.i64.wrap (IntKind.i64.wrap ((maxI 0 o.x).tdiv sd) * sd)))).setCell ⟨x4.heap.size, 1, none⟩ (.int .i64 (IntKind.i64.wrap (IntKind.i64.wrap ((maxI 0 o.y).tdiv sd) * sd)))).setCell ⟨x4.heap.size, 2, none⟩ (.int .i64 sd)).setCell ⟨x4.heap.size, 3, none⟩ (.int .i64 (maxI 0 (IntKind.i64.wrap (o.tk - v3))))).setCell ⟨x4.heap.size, 4, none⟩ (.int .i64 (minI 1000000 (IntKind.i64.wrap (o.tk + v4))))) := Below.setCell (Below.setCell (Below.setCell (Below.setCell (Below.setCell (Below.refl _ _) (p := ⟨x4.heap.size, 0, none⟩) (Nat.le_trans (Nat.le_trans (Nat.le_trans (Nat.le_trans lq (Nat.le_of_lt s1)) l2) (Nat.le_of_lt s3)) l4) _) (p := ⟨x4.heap.size, 1, none⟩) (Nat.le_trans (Nat.le_trans (Nat.le_trans (Nat.le_trans lq (Nat.le_of_lt s1)) l2) (Nat.le_of_lt s3)) l4) _) (p := ⟨x4.heap.size, 2, none⟩) (Nat.le_trans (Nat.le_trans (Nat.le_trans (Nat.le_trans lq (Nat.le_of_lt s1)) l2) (Nat.le_of_lt s3)) l4) _) (p := ⟨x4.heap.size, 3, none⟩) (Nat.le_trans (Nat.le_trans (Nat.le_trans (Nat.le_trans lq (Nat.le_of_lt s1)) l2) (Nat.le_of_lt s3)) l4) _) (p := ⟨x4.heap.size, 4, none⟩) (Nat.le_trans (Nat.le_trans (Nat.le_trans (Nat.le_trans lq (Nat.le_of_lt s1)) l2) (Nat.le_of_lt s3)) l4) _
                have d6 := HD1.out.above d5 e6
                have g6 := only_above g5 e6
                clear u0 u1 u2 u3 u4 t0 t1 t2 t3 t4 B6'
                generalize (((((x5.setCell ⟨x4.heap.size, 0, none⟩ (.int .i64 (IntKind.i64.wrap (IntKind.i64.wrap ((maxI 0 o.x).tdiv sd) * sd)))).setCell ⟨x4.heap.size, 1, none⟩ (.int .i64 (IntKind.i64.wrap (IntKind.i64.wrap ((maxI 0 o.y).tdiv sd) * sd)))).setCell ⟨x4.heap.size, 2, none⟩ (.int .i64 sd)).setCell ⟨x4.heap.size, 3, none⟩ (.int .i64 (maxI 0 (IntKind.i64.wrap (o.tk - v3))))).setCell ⟨x4.heap.size, 4, none⟩ (.int .i64 (minI 1000000 (IntKind.i64.wrap (o.tk + v4))))) = x6 at c6 d6 g6 ⊢
                refine hK.out _ _ g6 (fun hHeld => ?_)
                clear hK K hHeld
                (try simp only [Act.put, List.setIfInBounds_toArray, List.set_cons_zero, List.set_cons_succ])
                refine wpAnyH_done (by kernel_rfl) ?_ _
                go_wp2_with fail
                go_meet
                exact ⟨x4.heap.size, ⟨_, _, _, _, _⟩, rfl, (Nat.le_trans (Nat.le_trans (Nat.le_trans (Nat.le_trans lq (Nat.le_of_lt s1)) l2) (Nat.le_of_lt s3)) l4), Lib.hid c6, Lib.hid ((d6).more (by omega)), Lib.hid g6⟩
              exact AllReadyH.nil
            exact AllReadyH.nil
          refine AllReadyH.cons (opL rfl) (fun K hK => ?_) ?_
          · skip
            go_simp
            have d7 := (d3).alloc (.cells #[.int .i64 0, .int .i64 0, .int .i64 0, .int .i64 0, .int .i64 0] 26)
            have g7 := only_alloc g3 (.cells #[.int .i64 0, .int .i64 0, .int .i64 0, .int .i64 0, .int .i64 0] 26)
            have b7 := heap_new1 x3 (.cells #[.int .i64 0, .int .i64 0, .int .i64 0, .int .i64 0, .int .i64 0] 26)
            have r18_7 := blk_alloc r18_3 (.cells #[.int .i64 0, .int .i64 0, .int .i64 0, .int .i64 0, .int .i64 0] 26)
            have r25_7 := blk_alloc b3 (.cells #[.int .i64 0, .int .i64 0, .int .i64 0, .int .i64 0, .int .i64 0] 26)
            have s7 : x3.heap.size < (x3.alloc (.cells #[.int .i64 0, .int .i64 0, .int .i64 0, .int .i64 0, .int .i64 0] 26)).heap.size := by simp
            generalize x3.alloc (.cells #[.int .i64 0, .int .i64 0, .int .i64 0, .int .i64 0, .int .i64 0] 26) = x7 at d7 g7 b7 s7 r18_7 r25_7 hK ⊢
            refine hK.out _ _ g7 (fun hHeld => ?_)
            clear hK K hHeld
            (try simp only [Act.put, List.setIfInBounds_toArray, List.set_cons_zero, List.set_cons_succ])
            refine wpAnyH_ready (rs := [26]) (by kernel_rfl) (by simp) ?_
            refine AllReadyH.cons (opL rfl) (fun K hK => ?_) ?_
            · skip
              go_simp
              refine (among_dr (w0 := w0) (A := A) (n := n) (c := c) [0, 50, 2000, 100000] 4 _ _ _ d7 (by omega) hn (RowAt.of_block encI_len r25_7 rfl) (by have := (Nat.le_trans (Nat.le_trans lq (Nat.le_of_lt s1)) l2); omega) rfl (by decide) (by decide)).mono ?_
              rintro e x8 ⟨v4, rfl, hv8, d8, h8⟩
              dsimp only
              have hb8 : 0 ≤ v4 ∧ v4 ≤ 100000 := by simp only [List.mem_cons, List.not_mem_nil, or_false] at hv8; omega
              have g8 := only_two g7 h8
              have l8 := h8.size
              have r18_8 := blk_kept r18_7 h8 (by have := lq; simp; omega)
              have r25_8 := blk_kept r25_7 h8 (by have := (Nat.le_trans (Nat.le_trans lq (Nat.le_of_lt s1)) l2); simp; omega)
              have z30_8 := blk_kept b7 h8 (by have := (Nat.le_trans (Nat.le_trans (Nat.le_trans lq (Nat.le_of_lt s1)) l2) (Nat.le_of_lt s3)); simp; omega)
              refine hK.out _ _ g8 (fun hHeld => ?_)
              clear hK K hHeld hv8 h8
              (try simp only [Act.put, List.setIfInBounds_toArray, List.set_cons_zero, List.set_cons_succ])
              refine wpAnyH_take (i := 27) (v := ?v27) (opL rfl) (by kernel_rfl) (by kernel_rfl) (by kernel_rfl) (fun _ _ _ h => h) (Or.inl ⟨by rfl, ?hy27⟩) g8 ?rest27
              case hy27 => (intro w hSw; obtain ⟨q0, q1, q2⟩ := HKP.out w hSw; go_simp; try with_reducible rfl)
              (try simp only [Act.put, List.setIfInBounds_toArray, List.set_cons_zero, List.set_cons_succ])
              refine take_call (i := 28) (v := .int .i64 (minI 1000000 (IntKind.i64.wrap (o.tk + v4)))) (opL rfl) (by kernel_rfl) (by kernel_rfl) (by kernel_rfl) (fun _ _ _ h => h) ⟨by rfl, 55, #[.int .i64 1000000, .int .i64 (IntKind.i64.wrap (o.tk + v4))], ?hr28, ?hc28⟩ g8 ?rest28
              case hr28 => (intro w; go_simp; try with_reducible rfl)
              case hc28 => (intro w hSw; exact l1Least_any _ _ _)
              (try simp only [Act.put, List.setIfInBounds_toArray, List.set_cons_zero, List.set_cons_succ])
              refine wpAnyH_take (i := 29) (v := ?v29) (opL rfl) (by kernel_rfl) (by kernel_rfl) (by kernel_rfl) (fun _ _ _ h => h) (Or.inl ⟨by rfl, ?hy29⟩) g8 ?rest29
              case hy29 => (intro w hSw; obtain ⟨q0, q1, q2⟩ := HKP.out w hSw; go_simp; try with_reducible rfl)
              (try simp only [Act.put, List.setIfInBounds_toArray, List.set_cons_zero, List.set_cons_succ])
              refine wpAnyH_ready (rs := [31]) (by kernel_rfl) (by simp) ?_
              refine AllReadyH.cons (opL rfl) (fun K hK => ?_) ?_
              · skip
                have B9 := box5_of z30_8
                have B9' := Lib.hid B9
                obtain ⟨_, ⟨u0, u1, u2, u3, u4⟩, t0, t1, t2, t3, t4⟩ := B9
                go_simp
                have c9 := B9'.out.all (.int .i64 (IntKind.i64.wrap (IntKind.i64.wrap ((maxI 0 o.x).tdiv sd) * sd))) (.int .i64 (IntKind.i64.wrap (IntKind.i64.wrap ((maxI 0 o.y).tdiv sd) * sd))) (.int .i64 sd) (.int .i64 (maxI 0 (IntKind.i64.wrap (o.tk - v3)))) (.int .i64 (minI 1000000 (IntKind.i64.wrap (o.tk + v4))))
                have e9 : Below wq.heap.size x8 (((((x8.setCell ⟨x3.heap.size, 0, none⟩ (.int .i64 (IntKind.i64.wrap (IntKind.i64.wrap ((maxI 0 o.x).tdiv sd) * sd)))).setCell ⟨x3.heap.size, 1, none⟩ (.int .i64 (IntKind.i64.wrap (IntKind.i64.wrap ((maxI 0 o.y).tdiv sd) * sd)))).setCell ⟨x3.heap.size, 2, none⟩ (.int .i64 sd)).setCell ⟨x3.heap.size, 3, none⟩ (.int .i64 (maxI 0 (IntKind.i64.wrap (o.tk - v3))))).setCell ⟨x3.heap.size, 4, none⟩ (.int .i64 (minI 1000000 (IntKind.i64.wrap (o.tk + v4))))) := Below.setCell (Below.setCell (Below.setCell (Below.setCell (Below.setCell (Below.refl _ _) (p := ⟨x3.heap.size, 0, none⟩) (Nat.le_trans (Nat.le_trans (Nat.le_trans lq (Nat.le_of_lt s1)) l2) (Nat.le_of_lt s3)) _) (p := ⟨x3.heap.size, 1, none⟩) (Nat.le_trans (Nat.le_trans (Nat.le_trans lq (Nat.le_of_lt s1)) l2) (Nat.le_of_lt s3)) _) (p := ⟨x3.heap.size, 2, none⟩) (Nat.le_trans (Nat.le_trans (Nat.le_trans lq (Nat.le_of_lt s1)) l2) (Nat.le_of_lt s3)) _) (p := ⟨x3.heap.size, 3, none⟩) (Nat.le_trans (Nat.le_trans (Nat.le_trans lq (Nat.le_of_lt s1)) l2) (Nat.le_of_lt s3)) _) (p := ⟨x3.heap.size, 4, none⟩) (Nat.le_trans (Nat.le_trans (Nat.le_trans lq (Nat.le_of_lt s1)) l2) (Nat.le_of_lt s3)) _
                have d9 := HD1.out.above d8 e9
                have g9 := only_above g8 e9
                clear u0 u1 u2 u3 u4 t0 t1 t2 t3 t4 B9'
                generalize (((((x8.setCell ⟨x3.heap.size, 0, none⟩ (.int .i64 (IntKind.i64.wrap (IntKind.i64.wrap ((maxI 0 o.x).tdiv sd) * sd)))).setCell ⟨x3.heap.size, 1, none⟩ (.int .i64 (IntKind.i64.wrap (IntKind.i64.wrap ((maxI 0 o.y).tdiv sd) * sd)))).setCell ⟨x3.heap.size, 2, none⟩ (.int .i64 sd)).setCell ⟨x3.heap.size, 3, none⟩ (.int .i64 (maxI 0 (IntKind.i64.wrap (o.tk - v3))))).setCell ⟨x3.heap.size, 4, none⟩ (.int .i64 (minI 1000000 (IntKind.i64.wrap (o.tk + v4))))) = x9 at c9 d9 g9 ⊢
                refine hK.out _ _ g9 (fun hHeld => ?_)
                clear hK K hHeld
                (try simp only [Act.put, List.setIfInBounds_toArray, List.set_cons_zero, List.set_cons_succ])
                refine wpAnyH_done (by kernel_rfl) ?_ _
                go_wp2_with fail
                go_meet
                exact ⟨x3.heap.size, ⟨_, _, _, _, _⟩, rfl, (Nat.le_trans (Nat.le_trans (Nat.le_trans lq (Nat.le_of_lt s1)) l2) (Nat.le_of_lt s3)), Lib.hid c9, Lib.hid ((d9).more (by omega)), Lib.hid g9⟩
              exact AllReadyH.nil
            exact AllReadyH.nil
          exact AllReadyH.nil
        refine AllReadyH.cons (opL rfl) (fun K hK => ?_) ?_
        · skip
          go_simp
          have d10 := (d2).alloc (.cells #[.int .i64 0, .int .i64 0, .int .i64 0, .int .i64 0, .int .i64 0] 26)
          have g10 := only_alloc g2 (.cells #[.int .i64 0, .int .i64 0, .int .i64 0, .int .i64 0, .int .i64 0] 26)
          have b10 := heap_new1 x2 (.cells #[.int .i64 0, .int .i64 0, .int .i64 0, .int .i64 0, .int .i64 0] 26)
          have r18_10 := blk_alloc r18_2 (.cells #[.int .i64 0, .int .i64 0, .int .i64 0, .int .i64 0, .int .i64 0] 26)
          have s10 : x2.heap.size < (x2.alloc (.cells #[.int .i64 0, .int .i64 0, .int .i64 0, .int .i64 0, .int .i64 0] 26)).heap.size := by simp
          generalize x2.alloc (.cells #[.int .i64 0, .int .i64 0, .int .i64 0, .int .i64 0, .int .i64 0] 26) = x10 at d10 g10 b10 s10 r18_10 hK ⊢
          refine hK.out _ _ g10 (fun hHeld => ?_)
          clear hK K hHeld
          (try simp only [Act.put, List.setIfInBounds_toArray, List.set_cons_zero, List.set_cons_succ])
          refine wpAnyH_ready (rs := [25]) (by kernel_rfl) (by simp) ?_
          refine AllReadyH.cons (opL rfl) (fun K hK => ?_) ?_
          · skip
            go_simp
            have d11 := (d10).alloc (.cells #[.int .i64 0, .int .i64 50, .int .i64 2000, .int .i64 100000] 3)
            have g11 := only_alloc g10 (.cells #[.int .i64 0, .int .i64 50, .int .i64 2000, .int .i64 100000] 3)
            have b11 := heap_new1 x10 (.cells #[.int .i64 0, .int .i64 50, .int .i64 2000, .int .i64 100000] 3)
            have r18_11 := blk_alloc r18_10 (.cells #[.int .i64 0, .int .i64 50, .int .i64 2000, .int .i64 100000] 3)
            have z30_11 := blk_alloc b10 (.cells #[.int .i64 0, .int .i64 50, .int .i64 2000, .int .i64 100000] 3)
            have s11 : x10.heap.size < (x10.alloc (.cells #[.int .i64 0, .int .i64 50, .int .i64 2000, .int .i64 100000] 3)).heap.size := by simp
            generalize x10.alloc (.cells #[.int .i64 0, .int .i64 50, .int .i64 2000, .int .i64 100000] 3) = x11 at d11 g11 b11 s11 r18_11 z30_11 hK ⊢
            refine hK.out _ _ g11 (fun hHeld => ?_)
            clear hK K hHeld
            (try simp only [Act.put, List.setIfInBounds_toArray, List.set_cons_zero, List.set_cons_succ])
            refine wpAnyH_ready (rs := [26]) (by kernel_rfl) (by simp) ?_
            refine AllReadyH.cons (opL rfl) (fun K hK => ?_) ?_
            · skip
              go_simp
              refine (among_dr (w0 := w0) (A := A) (n := n) (c := c) [0, 50, 2000, 100000] 4 _ _ _ d11 (by omega) hn (RowAt.of_block encI_len b11 rfl) (by have := (Nat.le_trans (Nat.le_trans (Nat.le_trans lq (Nat.le_of_lt s1)) l2) (Nat.le_of_lt s10)); omega) rfl (by decide) (by decide)).mono ?_
              rintro e x12 ⟨v4, rfl, hv12, d12, h12⟩
              dsimp only
              have hb12 : 0 ≤ v4 ∧ v4 ≤ 100000 := by simp only [List.mem_cons, List.not_mem_nil, or_false] at hv12; omega
              have g12 := only_two g11 h12
              have l12 := h12.size
              have r18_12 := blk_kept r18_11 h12 (by have := lq; simp; omega)
              have r25_12 := blk_kept b11 h12 (by have := (Nat.le_trans (Nat.le_trans (Nat.le_trans lq (Nat.le_of_lt s1)) l2) (Nat.le_of_lt s10)); simp; omega)
              have z30_12 := blk_kept z30_11 h12 (by have := (Nat.le_trans (Nat.le_trans lq (Nat.le_of_lt s1)) l2); simp; omega)
              refine hK.out _ _ g12 (fun hHeld => ?_)
              clear hK K hHeld hv12 h12
              (try simp only [Act.put, List.setIfInBounds_toArray, List.set_cons_zero, List.set_cons_succ])
              refine wpAnyH_take (i := 27) (v := ?v30) (opL rfl) (by kernel_rfl) (by kernel_rfl) (by kernel_rfl) (fun _ _ _ h => h) (Or.inl ⟨by rfl, ?hy30⟩) g12 ?rest30
              case hy30 => (intro w hSw; obtain ⟨q0, q1, q2⟩ := HKP.out w hSw; go_simp; try with_reducible rfl)
              (try simp only [Act.put, List.setIfInBounds_toArray, List.set_cons_zero, List.set_cons_succ])
              refine take_call (i := 28) (v := .int .i64 (minI 1000000 (IntKind.i64.wrap (o.tk + v4)))) (opL rfl) (by kernel_rfl) (by kernel_rfl) (by kernel_rfl) (fun _ _ _ h => h) ⟨by rfl, 55, #[.int .i64 1000000, .int .i64 (IntKind.i64.wrap (o.tk + v4))], ?hr31, ?hc31⟩ g12 ?rest31
              case hr31 => (intro w; go_simp; try with_reducible rfl)
              case hc31 => (intro w hSw; exact l1Least_any _ _ _)
              (try simp only [Act.put, List.setIfInBounds_toArray, List.set_cons_zero, List.set_cons_succ])
              refine wpAnyH_take (i := 29) (v := ?v32) (opL rfl) (by kernel_rfl) (by kernel_rfl) (by kernel_rfl) (fun _ _ _ h => h) (Or.inl ⟨by rfl, ?hy32⟩) g12 ?rest32
              case hy32 => (intro w hSw; obtain ⟨q0, q1, q2⟩ := HKP.out w hSw; go_simp; try with_reducible rfl)
              (try simp only [Act.put, List.setIfInBounds_toArray, List.set_cons_zero, List.set_cons_succ])
              refine wpAnyH_ready (rs := [31]) (by kernel_rfl) (by simp) ?_
              refine AllReadyH.cons (opL rfl) (fun K hK => ?_) ?_
              · skip
                have B13 := box5_of z30_12
                have B13' := Lib.hid B13
                obtain ⟨_, ⟨u0, u1, u2, u3, u4⟩, t0, t1, t2, t3, t4⟩ := B13
                go_simp
                have c13 := B13'.out.all (.int .i64 (IntKind.i64.wrap (IntKind.i64.wrap ((maxI 0 o.x).tdiv sd) * sd))) (.int .i64 (IntKind.i64.wrap (IntKind.i64.wrap ((maxI 0 o.y).tdiv sd) * sd))) (.int .i64 sd) (.int .i64 (maxI 0 (IntKind.i64.wrap (o.tk - v3)))) (.int .i64 (minI 1000000 (IntKind.i64.wrap (o.tk + v4))))
                have e13 : Below wq.heap.size x12 (((((x12.setCell ⟨x2.heap.size, 0, none⟩ (.int .i64 (IntKind.i64.wrap (IntKind.i64.wrap ((maxI 0 o.x).tdiv sd) * sd)))).setCell ⟨x2.heap.size, 1, none⟩ (.int .i64 (IntKind.i64.wrap (IntKind.i64.wrap ((maxI 0 o.y).tdiv sd) * sd)))).setCell ⟨x2.heap.size, 2, none⟩ (.int .i64 sd)).setCell ⟨x2.heap.size, 3, none⟩ (.int .i64 (maxI 0 (IntKind.i64.wrap (o.tk - v3))))).setCell ⟨x2.heap.size, 4, none⟩ (.int .i64 (minI 1000000 (IntKind.i64.wrap (o.tk + v4))))) := Below.setCell (Below.setCell (Below.setCell (Below.setCell (Below.setCell (Below.refl _ _) (p := ⟨x2.heap.size, 0, none⟩) (Nat.le_trans (Nat.le_trans lq (Nat.le_of_lt s1)) l2) _) (p := ⟨x2.heap.size, 1, none⟩) (Nat.le_trans (Nat.le_trans lq (Nat.le_of_lt s1)) l2) _) (p := ⟨x2.heap.size, 2, none⟩) (Nat.le_trans (Nat.le_trans lq (Nat.le_of_lt s1)) l2) _) (p := ⟨x2.heap.size, 3, none⟩) (Nat.le_trans (Nat.le_trans lq (Nat.le_of_lt s1)) l2) _) (p := ⟨x2.heap.size, 4, none⟩) (Nat.le_trans (Nat.le_trans lq (Nat.le_of_lt s1)) l2) _
                have d13 := HD1.out.above d12 e13
                have g13 := only_above g12 e13
                clear u0 u1 u2 u3 u4 t0 t1 t2 t3 t4 B13'
                generalize (((((x12.setCell ⟨x2.heap.size, 0, none⟩ (.int .i64 (IntKind.i64.wrap (IntKind.i64.wrap ((maxI 0 o.x).tdiv sd) * sd)))).setCell ⟨x2.heap.size, 1, none⟩ (.int .i64 (IntKind.i64.wrap (IntKind.i64.wrap ((maxI 0 o.y).tdiv sd) * sd)))).setCell ⟨x2.heap.size, 2, none⟩ (.int .i64 sd)).setCell ⟨x2.heap.size, 3, none⟩ (.int .i64 (maxI 0 (IntKind.i64.wrap (o.tk - v3))))).setCell ⟨x2.heap.size, 4, none⟩ (.int .i64 (minI 1000000 (IntKind.i64.wrap (o.tk + v4))))) = x13 at c13 d13 g13 ⊢
                refine hK.out _ _ g13 (fun hHeld => ?_)
                clear hK K hHeld
                (try simp only [Act.put, List.setIfInBounds_toArray, List.set_cons_zero, List.set_cons_succ])
                refine wpAnyH_done (by kernel_rfl) ?_ _
                go_wp2_with fail
                go_meet
                exact ⟨x2.heap.size, ⟨_, _, _, _, _⟩, rfl, (Nat.le_trans (Nat.le_trans lq (Nat.le_of_lt s1)) l2), Lib.hid c13, Lib.hid ((d13).more (by omega)), Lib.hid g13⟩
              exact AllReadyH.nil
            exact AllReadyH.nil
          exact AllReadyH.nil
        exact AllReadyH.nil
      refine AllReadyH.cons (opL rfl) (fun K hK => ?_) ?_
      · skip
        go_simp
        have d14 := (d1).alloc (.cells #[.int .i64 0, .int .i64 50, .int .i64 2000, .int .i64 100000] 3)
        have g14 := only_alloc g1 (.cells #[.int .i64 0, .int .i64 50, .int .i64 2000, .int .i64 100000] 3)
        have b14 := heap_new1 x1 (.cells #[.int .i64 0, .int .i64 50, .int .i64 2000, .int .i64 100000] 3)
        have r18_14 := blk_alloc b1 (.cells #[.int .i64 0, .int .i64 50, .int .i64 2000, .int .i64 100000] 3)
        have s14 : x1.heap.size < (x1.alloc (.cells #[.int .i64 0, .int .i64 50, .int .i64 2000, .int .i64 100000] 3)).heap.size := by simp
        generalize x1.alloc (.cells #[.int .i64 0, .int .i64 50, .int .i64 2000, .int .i64 100000] 3) = x14 at d14 g14 b14 s14 r18_14 hK ⊢
        refine hK.out _ _ g14 (fun hHeld => ?_)
        clear hK K hHeld
        (try simp only [Act.put, List.setIfInBounds_toArray, List.set_cons_zero, List.set_cons_succ])
        refine wpAnyH_ready (rs := [19, 30]) (by kernel_rfl) (by simp) ?_
        refine AllReadyH.cons (opL rfl) (fun K hK => ?_) ?_
        · skip
          go_simp
          refine (among_dr (w0 := w0) (A := A) (n := n) (c := c) [0, 50, 2000, 100000] 4 _ _ _ d14 (by omega) hn (RowAt.of_block encI_len r18_14 rfl) (by have := lq; omega) rfl (by decide) (by decide)).mono ?_
          rintro e x15 ⟨v3, rfl, hv15, d15, h15⟩
          dsimp only
          have hb15 : 0 ≤ v3 ∧ v3 ≤ 100000 := by simp only [List.mem_cons, List.not_mem_nil, or_false] at hv15; omega
          have g15 := only_two g14 h15
          have l15 := h15.size
          have r18_15 := blk_kept r18_14 h15 (by have := lq; simp; omega)
          have r25_15 := blk_kept b14 h15 (by have := (Nat.le_trans lq (Nat.le_of_lt s1)); simp; omega)
          refine hK.out _ _ g15 (fun hHeld => ?_)
          clear hK K hHeld hv15 h15
          (try simp only [Act.put, List.setIfInBounds_toArray, List.set_cons_zero, List.set_cons_succ])
          refine wpAnyH_take (i := 20) (v := ?v33) (opL rfl) (by kernel_rfl) (by kernel_rfl) (by kernel_rfl) (fun _ _ _ h => h) (Or.inl ⟨by rfl, ?hy33⟩) g15 ?rest33
          case hy33 => (intro w hSw; obtain ⟨q0, q1, q2⟩ := HKP.out w hSw; go_simp; try with_reducible rfl)
          (try simp only [Act.put, List.setIfInBounds_toArray, List.set_cons_zero, List.set_cons_succ])
          refine take_call (i := 21) (v := .int .i64 (maxI 0 (IntKind.i64.wrap (o.tk - v3)))) (opL rfl) (by kernel_rfl) (by kernel_rfl) (by kernel_rfl) (fun _ _ _ h => h) ⟨by rfl, 26, #[.int .i64 0, .int .i64 (IntKind.i64.wrap (o.tk - v3))], ?hr34, ?hc34⟩ g15 ?rest34
          case hr34 => (intro w; go_simp; try with_reducible rfl)
          case hc34 => (intro w hSw; exact l1Most_any _ _ _)
          (try simp only [Act.put, List.setIfInBounds_toArray, List.set_cons_zero, List.set_cons_succ])
          refine wpAnyH_ready (rs := [26, 30]) (by kernel_rfl) (by simp) ?_
          refine AllReadyH.cons (opL rfl) (fun K hK => ?_) ?_
          · skip
            go_simp
            refine (among_dr (w0 := w0) (A := A) (n := n) (c := c) [0, 50, 2000, 100000] 4 _ _ _ d15 (by omega) hn (RowAt.of_block encI_len r25_15 rfl) (by have := (Nat.le_trans lq (Nat.le_of_lt s1)); omega) rfl (by decide) (by decide)).mono ?_
            rintro e x16 ⟨v4, rfl, hv16, d16, h16⟩
            dsimp only
            have hb16 : 0 ≤ v4 ∧ v4 ≤ 100000 := by simp only [List.mem_cons, List.not_mem_nil, or_false] at hv16; omega
            have g16 := only_two g15 h16
            have l16 := h16.size
            have r18_16 := blk_kept r18_15 h16 (by have := lq; simp; omega)
            have r25_16 := blk_kept r25_15 h16 (by have := (Nat.le_trans lq (Nat.le_of_lt s1)); simp; omega)
            refine hK.out _ _ g16 (fun hHeld => ?_)
            clear hK K hHeld hv16 h16
            (try simp only [Act.put, List.setIfInBounds_toArray, List.set_cons_zero, List.set_cons_succ])
            refine wpAnyH_take (i := 27) (v := ?v35) (opL rfl) (by kernel_rfl) (by kernel_rfl) (by kernel_rfl) (fun _ _ _ h => h) (Or.inl ⟨by rfl, ?hy35⟩) g16 ?rest35
            case hy35 => (intro w hSw; obtain ⟨q0, q1, q2⟩ := HKP.out w hSw; go_simp; try with_reducible rfl)
            (try simp only [Act.put, List.setIfInBounds_toArray, List.set_cons_zero, List.set_cons_succ])
            refine take_call (i := 28) (v := .int .i64 (minI 1000000 (IntKind.i64.wrap (o.tk + v4)))) (opL rfl) (by kernel_rfl) (by kernel_rfl) (by kernel_rfl) (fun _ _ _ h => h) ⟨by rfl, 55, #[.int .i64 1000000, .int .i64 (IntKind.i64.wrap (o.tk + v4))], ?hr36, ?hc36⟩ g16 ?rest36
            case hr36 => (intro w; go_simp; try with_reducible rfl)
            case hc36 => (intro w hSw; exact l1Least_any _ _ _)
            (try simp only [Act.put, List.setIfInBounds_toArray, List.set_cons_zero, List.set_cons_succ])
            refine wpAnyH_take (i := 29) (v := ?v37) (opL rfl) (by kernel_rfl) (by kernel_rfl) (by kernel_rfl) (fun _ _ _ h => h) (Or.inl ⟨by rfl, ?hy37⟩) g16 ?rest37
            case hy37 => (intro w hSw; obtain ⟨q0, q1, q2⟩ := HKP.out w hSw; go_simp; try with_reducible rfl)
            (try simp only [Act.put, List.setIfInBounds_toArray, List.set_cons_zero, List.set_cons_succ])
            refine wpAnyH_ready (rs := [30]) (by kernel_rfl) (by simp) ?_
            refine AllReadyH.cons (opL rfl) (fun K hK => ?_) ?_
            · skip
              go_simp
              have d17 := (d16).alloc (.cells #[.int .i64 0, .int .i64 0, .int .i64 0, .int .i64 0, .int .i64 0] 26)
              have g17 := only_alloc g16 (.cells #[.int .i64 0, .int .i64 0, .int .i64 0, .int .i64 0, .int .i64 0] 26)
              have b17 := heap_new1 x16 (.cells #[.int .i64 0, .int .i64 0, .int .i64 0, .int .i64 0, .int .i64 0] 26)
              have r18_17 := blk_alloc r18_16 (.cells #[.int .i64 0, .int .i64 0, .int .i64 0, .int .i64 0, .int .i64 0] 26)
              have r25_17 := blk_alloc r25_16 (.cells #[.int .i64 0, .int .i64 0, .int .i64 0, .int .i64 0, .int .i64 0] 26)
              have s17 : x16.heap.size < (x16.alloc (.cells #[.int .i64 0, .int .i64 0, .int .i64 0, .int .i64 0, .int .i64 0] 26)).heap.size := by simp
              generalize x16.alloc (.cells #[.int .i64 0, .int .i64 0, .int .i64 0, .int .i64 0, .int .i64 0] 26) = x17 at d17 g17 b17 s17 r18_17 r25_17 hK ⊢
              refine hK.out _ _ g17 (fun hHeld => ?_)
              clear hK K hHeld
              (try simp only [Act.put, List.setIfInBounds_toArray, List.set_cons_zero, List.set_cons_succ])
              refine wpAnyH_ready (rs := [31]) (by kernel_rfl) (by simp) ?_
              refine AllReadyH.cons (opL rfl) (fun K hK => ?_) ?_
              · skip
                have B18 := box5_of b17
                have B18' := Lib.hid B18
                obtain ⟨_, ⟨u0, u1, u2, u3, u4⟩, t0, t1, t2, t3, t4⟩ := B18
                go_simp
                have c18 := B18'.out.all (.int .i64 (IntKind.i64.wrap (IntKind.i64.wrap ((maxI 0 o.x).tdiv sd) * sd))) (.int .i64 (IntKind.i64.wrap (IntKind.i64.wrap ((maxI 0 o.y).tdiv sd) * sd))) (.int .i64 sd) (.int .i64 (maxI 0 (IntKind.i64.wrap (o.tk - v3)))) (.int .i64 (minI 1000000 (IntKind.i64.wrap (o.tk + v4))))
                have e18 : Below wq.heap.size x17 (((((x17.setCell ⟨x16.heap.size, 0, none⟩ (.int .i64 (IntKind.i64.wrap (IntKind.i64.wrap ((maxI 0 o.x).tdiv sd) * sd)))).setCell ⟨x16.heap.size, 1, none⟩ (.int .i64 (IntKind.i64.wrap (IntKind.i64.wrap ((maxI 0 o.y).tdiv sd) * sd)))).setCell ⟨x16.heap.size, 2, none⟩ (.int .i64 sd)).setCell ⟨x16.heap.size, 3, none⟩ (.int .i64 (maxI 0 (IntKind.i64.wrap (o.tk - v3))))).setCell ⟨x16.heap.size, 4, none⟩ (.int .i64 (minI 1000000 (IntKind.i64.wrap (o.tk + v4))))) := Below.setCell (Below.setCell (Below.setCell (Below.setCell (Below.setCell (Below.refl _ _) (p := ⟨x16.heap.size, 0, none⟩) (Nat.le_trans (Nat.le_trans (Nat.le_trans (Nat.le_trans lq (Nat.le_of_lt s1)) (Nat.le_of_lt s14)) l15) l16) _) (p := ⟨x16.heap.size, 1, none⟩) (Nat.le_trans (Nat.le_trans (Nat.le_trans (Nat.le_trans lq (Nat.le_of_lt s1)) (Nat.le_of_lt s14)) l15) l16) _) (p := ⟨x16.heap.size, 2, none⟩) (Nat.le_trans (Nat.le_trans (Nat.le_trans (Nat.le_trans lq (Nat.le_of_lt s1)) (Nat.le_of_lt s14)) l15) l16) _) (p := ⟨x16.heap.size, 3, none⟩) (Nat.le_trans (Nat.le_trans (Nat.le_trans (Nat.le_trans lq (Nat.le_of_lt s1)) (Nat.le_of_lt s14)) l15) l16) _) (p := ⟨x16.heap.size, 4, none⟩) (Nat.le_trans (Nat.le_trans (Nat.le_trans (Nat.le_trans lq (Nat.le_of_lt s1)) (Nat.le_of_lt s14)) l15) l16) _
                have d18 := HD1.out.above d17 e18
                have g18 := only_above g17 e18
                clear u0 u1 u2 u3 u4 t0 t1 t2 t3 t4 B18'
                generalize (((((x17.setCell ⟨x16.heap.size, 0, none⟩ (.int .i64 (IntKind.i64.wrap (IntKind.i64.wrap ((maxI 0 o.x).tdiv sd) * sd)))).setCell ⟨x16.heap.size, 1, none⟩ (.int .i64 (IntKind.i64.wrap (IntKind.i64.wrap ((maxI 0 o.y).tdiv sd) * sd)))).setCell ⟨x16.heap.size, 2, none⟩ (.int .i64 sd)).setCell ⟨x16.heap.size, 3, none⟩ (.int .i64 (maxI 0 (IntKind.i64.wrap (o.tk - v3))))).setCell ⟨x16.heap.size, 4, none⟩ (.int .i64 (minI 1000000 (IntKind.i64.wrap (o.tk + v4))))) = x18 at c18 d18 g18 ⊢
                refine hK.out _ _ g18 (fun hHeld => ?_)
                clear hK K hHeld
                (try simp only [Act.put, List.setIfInBounds_toArray, List.set_cons_zero, List.set_cons_succ])
                refine wpAnyH_done (by kernel_rfl) ?_ _
                go_wp2_with fail
                go_meet
                exact ⟨x16.heap.size, ⟨_, _, _, _, _⟩, rfl, (Nat.le_trans (Nat.le_trans (Nat.le_trans (Nat.le_trans lq (Nat.le_of_lt s1)) (Nat.le_of_lt s14)) l15) l16), Lib.hid c18, Lib.hid ((d18).more (by omega)), Lib.hid g18⟩
              exact AllReadyH.nil
            exact AllReadyH.nil
          refine AllReadyH.cons (opL rfl) (fun K hK => ?_) ?_
          · skip
            go_simp
            have d19 := (d15).alloc (.cells #[.int .i64 0, .int .i64 0, .int .i64 0, .int .i64 0, .int .i64 0] 26)
            have g19 := only_alloc g15 (.cells #[.int .i64 0, .int .i64 0, .int .i64 0, .int .i64 0, .int .i64 0] 26)
            have b19 := heap_new1 x15 (.cells #[.int .i64 0, .int .i64 0, .int .i64 0, .int .i64 0, .int .i64 0] 26)
            have r18_19 := blk_alloc r18_15 (.cells #[.int .i64 0, .int .i64 0, .int .i64 0, .int .i64 0, .int .i64 0] 26)
            have r25_19 := blk_alloc r25_15 (.cells #[.int .i64 0, .int .i64 0, .int .i64 0, .int .i64 0, .int .i64 0] 26)
            have s19 : x15.heap.size < (x15.alloc (.cells #[.int .i64 0, .int .i64 0, .int .i64 0, .int .i64 0, .int .i64 0] 26)).heap.size := by simp
            generalize x15.alloc (.cells #[.int .i64 0, .int .i64 0, .int .i64 0, .int .i64 0, .int .i64 0] 26) = x19 at d19 g19 b19 s19 r18_19 r25_19 hK ⊢
            refine hK.out _ _ g19 (fun hHeld => ?_)
            clear hK K hHeld
            (try simp only [Act.put, List.setIfInBounds_toArray, List.set_cons_zero, List.set_cons_succ])
            refine wpAnyH_ready (rs := [26]) (by kernel_rfl) (by simp) ?_
            refine AllReadyH.cons (opL rfl) (fun K hK => ?_) ?_
            · skip
              go_simp
              refine (among_dr (w0 := w0) (A := A) (n := n) (c := c) [0, 50, 2000, 100000] 4 _ _ _ d19 (by omega) hn (RowAt.of_block encI_len r25_19 rfl) (by have := (Nat.le_trans lq (Nat.le_of_lt s1)); omega) rfl (by decide) (by decide)).mono ?_
              rintro e x20 ⟨v4, rfl, hv20, d20, h20⟩
              dsimp only
              have hb20 : 0 ≤ v4 ∧ v4 ≤ 100000 := by simp only [List.mem_cons, List.not_mem_nil, or_false] at hv20; omega
              have g20 := only_two g19 h20
              have l20 := h20.size
              have r18_20 := blk_kept r18_19 h20 (by have := lq; simp; omega)
              have r25_20 := blk_kept r25_19 h20 (by have := (Nat.le_trans lq (Nat.le_of_lt s1)); simp; omega)
              have z30_20 := blk_kept b19 h20 (by have := (Nat.le_trans (Nat.le_trans (Nat.le_trans lq (Nat.le_of_lt s1)) (Nat.le_of_lt s14)) l15); simp; omega)
              refine hK.out _ _ g20 (fun hHeld => ?_)
              clear hK K hHeld hv20 h20
              (try simp only [Act.put, List.setIfInBounds_toArray, List.set_cons_zero, List.set_cons_succ])
              refine wpAnyH_take (i := 27) (v := ?v38) (opL rfl) (by kernel_rfl) (by kernel_rfl) (by kernel_rfl) (fun _ _ _ h => h) (Or.inl ⟨by rfl, ?hy38⟩) g20 ?rest38
              case hy38 => (intro w hSw; obtain ⟨q0, q1, q2⟩ := HKP.out w hSw; go_simp; try with_reducible rfl)
              (try simp only [Act.put, List.setIfInBounds_toArray, List.set_cons_zero, List.set_cons_succ])
              refine take_call (i := 28) (v := .int .i64 (minI 1000000 (IntKind.i64.wrap (o.tk + v4)))) (opL rfl) (by kernel_rfl) (by kernel_rfl) (by kernel_rfl) (fun _ _ _ h => h) ⟨by rfl, 55, #[.int .i64 1000000, .int .i64 (IntKind.i64.wrap (o.tk + v4))], ?hr39, ?hc39⟩ g20 ?rest39
              case hr39 => (intro w; go_simp; try with_reducible rfl)
              case hc39 => (intro w hSw; exact l1Least_any _ _ _)
              (try simp only [Act.put, List.setIfInBounds_toArray, List.set_cons_zero, List.set_cons_succ])
              refine wpAnyH_take (i := 29) (v := ?v40) (opL rfl) (by kernel_rfl) (by kernel_rfl) (by kernel_rfl) (fun _ _ _ h => h) (Or.inl ⟨by rfl, ?hy40⟩) g20 ?rest40
              case hy40 => (intro w hSw; obtain ⟨q0, q1, q2⟩ := HKP.out w hSw; go_simp; try with_reducible rfl)
              (try simp only [Act.put, List.setIfInBounds_toArray, List.set_cons_zero, List.set_cons_succ])
              refine wpAnyH_ready (rs := [31]) (by kernel_rfl) (by simp) ?_
              refine AllReadyH.cons (opL rfl) (fun K hK => ?_) ?_
              · skip
                have B21 := box5_of z30_20
                have B21' := Lib.hid B21
                obtain ⟨_, ⟨u0, u1, u2, u3, u4⟩, t0, t1, t2, t3, t4⟩ := B21
                go_simp
                have c21 := B21'.out.all (.int .i64 (IntKind.i64.wrap (IntKind.i64.wrap ((maxI 0 o.x).tdiv sd) * sd))) (.int .i64 (IntKind.i64.wrap (IntKind.i64.wrap ((maxI 0 o.y).tdiv sd) * sd))) (.int .i64 sd) (.int .i64 (maxI 0 (IntKind.i64.wrap (o.tk - v3)))) (.int .i64 (minI 1000000 (IntKind.i64.wrap (o.tk + v4))))
                have e21 : Below wq.heap.size x20 (((((x20.setCell ⟨x15.heap.size, 0, none⟩ (.int .i64 (IntKind.i64.wrap (IntKind.i64.wrap ((maxI 0 o.x).tdiv sd) * sd)))).setCell ⟨x15.heap.size, 1, none⟩ (.int .i64 (IntKind.i64.wrap (IntKind.i64.wrap ((maxI 0 o.y).tdiv sd) * sd)))).setCell ⟨x15.heap.size, 2, none⟩ (.int .i64 sd)).setCell ⟨x15.heap.size, 3, none⟩ (.int .i64 (maxI 0 (IntKind.i64.wrap (o.tk - v3))))).setCell ⟨x15.heap.size, 4, none⟩ (.int .i64 (minI 1000000 (IntKind.i64.wrap (o.tk + v4))))) := Below.setCell (Below.setCell (Below.setCell (Below.setCell (Below.setCell (Below.refl _ _) (p := ⟨x15.heap.size, 0, none⟩) (Nat.le_trans (Nat.le_trans (Nat.le_trans lq (Nat.le_of_lt s1)) (Nat.le_of_lt s14)) l15) _) (p := ⟨x15.heap.size, 1, none⟩) (Nat.le_trans (Nat.le_trans (Nat.le_trans lq (Nat.le_of_lt s1)) (Nat.le_of_lt s14)) l15) _) (p := ⟨x15.heap.size, 2, none⟩) (Nat.le_trans (Nat.le_trans (Nat.le_trans lq (Nat.le_of_lt s1)) (Nat.le_of_lt s14)) l15) _) (p := ⟨x15.heap.size, 3, none⟩) (Nat.le_trans (Nat.le_trans (Nat.le_trans lq (Nat.le_of_lt s1)) (Nat.le_of_lt s14)) l15) _) (p := ⟨x15.heap.size, 4, none⟩) (Nat.le_trans (Nat.le_trans (Nat.le_trans lq (Nat.le_of_lt s1)) (Nat.le_of_lt s14)) l15) _
                have d21 := HD1.out.above d20 e21
                have g21 := only_above g20 e21
                clear u0 u1 u2 u3 u4 t0 t1 t2 t3 t4 B21'
                generalize (((((x20.setCell ⟨x15.heap.size, 0, none⟩ (.int .i64 (IntKind.i64.wrap (IntKind.i64.wrap ((maxI 0 o.x).tdiv sd) * sd)))).setCell ⟨x15.heap.size, 1, none⟩ (.int .i64 (IntKind.i64.wrap (IntKind.i64.wrap ((maxI 0 o.y).tdiv sd) * sd)))).setCell ⟨x15.heap.size, 2, none⟩ (.int .i64 sd)).setCell ⟨x15.heap.size, 3, none⟩ (.int .i64 (maxI 0 (IntKind.i64.wrap (o.tk - v3))))).setCell ⟨x15.heap.size, 4, none⟩ (.int .i64 (minI 1000000 (IntKind.i64.wrap (o.tk + v4))))) = x21 at c21 d21 g21 ⊢
                refine hK.out _ _ g21 (fun hHeld => ?_)
                clear hK K hHeld
                (try simp only [Act.put, List.setIfInBounds_toArray, List.set_cons_zero, List.set_cons_succ])
                refine wpAnyH_done (by kernel_rfl) ?_ _
                go_wp2_with fail
                go_meet
                exact ⟨x15.heap.size, ⟨_, _, _, _, _⟩, rfl, (Nat.le_trans (Nat.le_trans (Nat.le_trans lq (Nat.le_of_lt s1)) (Nat.le_of_lt s14)) l15), Lib.hid c21, Lib.hid ((d21).more (by omega)), Lib.hid g21⟩
              exact AllReadyH.nil
            exact AllReadyH.nil
          exact AllReadyH.nil
        refine AllReadyH.cons (opL rfl) (fun K hK => ?_) ?_
        · skip
          go_simp
          have d22 := (d14).alloc (.cells #[.int .i64 0, .int .i64 0, .int .i64 0, .int .i64 0, .int .i64 0] 26)
          have g22 := only_alloc g14 (.cells #[.int .i64 0, .int .i64 0, .int .i64 0, .int .i64 0, .int .i64 0] 26)
          have b22 := heap_new1 x14 (.cells #[.int .i64 0, .int .i64 0, .int .i64 0, .int .i64 0, .int .i64 0] 26)
          have r18_22 := blk_alloc r18_14 (.cells #[.int .i64 0, .int .i64 0, .int .i64 0, .int .i64 0, .int .i64 0] 26)
          have r25_22 := blk_alloc b14 (.cells #[.int .i64 0, .int .i64 0, .int .i64 0, .int .i64 0, .int .i64 0] 26)
          have s22 : x14.heap.size < (x14.alloc (.cells #[.int .i64 0, .int .i64 0, .int .i64 0, .int .i64 0, .int .i64 0] 26)).heap.size := by simp
          generalize x14.alloc (.cells #[.int .i64 0, .int .i64 0, .int .i64 0, .int .i64 0, .int .i64 0] 26) = x22 at d22 g22 b22 s22 r18_22 r25_22 hK ⊢
          refine hK.out _ _ g22 (fun hHeld => ?_)
          clear hK K hHeld
          (try simp only [Act.put, List.setIfInBounds_toArray, List.set_cons_zero, List.set_cons_succ])
          refine wpAnyH_ready (rs := [19]) (by kernel_rfl) (by simp) ?_
          refine AllReadyH.cons (opL rfl) (fun K hK => ?_) ?_
          · skip
            go_simp
            refine (among_dr (w0 := w0) (A := A) (n := n) (c := c) [0, 50, 2000, 100000] 4 _ _ _ d22 (by omega) hn (RowAt.of_block encI_len r18_22 rfl) (by have := lq; omega) rfl (by decide) (by decide)).mono ?_
            rintro e x23 ⟨v3, rfl, hv23, d23, h23⟩
            dsimp only
            have hb23 : 0 ≤ v3 ∧ v3 ≤ 100000 := by simp only [List.mem_cons, List.not_mem_nil, or_false] at hv23; omega
            have g23 := only_two g22 h23
            have l23 := h23.size
            have r18_23 := blk_kept r18_22 h23 (by have := lq; simp; omega)
            have r25_23 := blk_kept r25_22 h23 (by have := (Nat.le_trans lq (Nat.le_of_lt s1)); simp; omega)
            have z30_23 := blk_kept b22 h23 (by have := (Nat.le_trans (Nat.le_trans lq (Nat.le_of_lt s1)) (Nat.le_of_lt s14)); simp; omega)
            refine hK.out _ _ g23 (fun hHeld => ?_)
            clear hK K hHeld hv23 h23
            (try simp only [Act.put, List.setIfInBounds_toArray, List.set_cons_zero, List.set_cons_succ])
            refine wpAnyH_take (i := 20) (v := ?v41) (opL rfl) (by kernel_rfl) (by kernel_rfl) (by kernel_rfl) (fun _ _ _ h => h) (Or.inl ⟨by rfl, ?hy41⟩) g23 ?rest41
            case hy41 => (intro w hSw; obtain ⟨q0, q1, q2⟩ := HKP.out w hSw; go_simp; try with_reducible rfl)
            (try simp only [Act.put, List.setIfInBounds_toArray, List.set_cons_zero, List.set_cons_succ])
            refine take_call (i := 21) (v := .int .i64 (maxI 0 (IntKind.i64.wrap (o.tk - v3)))) (opL rfl) (by kernel_rfl) (by kernel_rfl) (by kernel_rfl) (fun _ _ _ h => h) ⟨by rfl, 26, #[.int .i64 0, .int .i64 (IntKind.i64.wrap (o.tk - v3))], ?hr42, ?hc42⟩ g23 ?rest42
            case hr42 => (intro w; go_simp; try with_reducible rfl)
            case hc42 => (intro w hSw; exact l1Most_any _ _ _)
            (try simp only [Act.put, List.setIfInBounds_toArray, List.set_cons_zero, List.set_cons_succ])
            refine wpAnyH_ready (rs := [26]) (by kernel_rfl) (by simp) ?_
            refine AllReadyH.cons (opL rfl) (fun K hK => ?_) ?_
            · skip
              go_simp
              refine (among_dr (w0 := w0) (A := A) (n := n) (c := c) [0, 50, 2000, 100000] 4 _ _ _ d23 (by omega) hn (RowAt.of_block encI_len r25_23 rfl) (by have := (Nat.le_trans lq (Nat.le_of_lt s1)); omega) rfl (by decide) (by decide)).mono ?_
              rintro e x24 ⟨v4, rfl, hv24, d24, h24⟩
              dsimp only
              have hb24 : 0 ≤ v4 ∧ v4 ≤ 100000 := by simp only [List.mem_cons, List.not_mem_nil, or_false] at hv24; omega
              have g24 := only_two g23 h24
              have l24 := h24.size
              have r18_24 := blk_kept r18_23 h24 (by have := lq; simp; omega)
              have r25_24 := blk_kept r25_23 h24 (by have := (Nat.le_trans lq (Nat.le_of_lt s1)); simp; omega)
              have z30_24 := blk_kept z30_23 h24 (by have := (Nat.le_trans (Nat.le_trans lq (Nat.le_of_lt s1)) (Nat.le_of_lt s14)); simp; omega)
              refine hK.out _ _ g24 (fun hHeld => ?_)
              clear hK K hHeld hv24 h24
              (try simp only [Act.put, List.setIfInBounds_toArray, List.set_cons_zero, List.set_cons_succ])
              refine wpAnyH_take (i := 27) (v := ?v43) (opL rfl) (by kernel_rfl) (by kernel_rfl) (by kernel_rfl) (fun _ _ _ h => h) (Or.inl ⟨by rfl, ?hy43⟩) g24 ?rest43
              case hy43 => (intro w hSw; obtain ⟨q0, q1, q2⟩ := HKP.out w hSw; go_simp; try with_reducible rfl)
              (try simp only [Act.put, List.setIfInBounds_toArray, List.set_cons_zero, List.set_cons_succ])
              refine take_call (i := 28) (v := .int .i64 (minI 1000000 (IntKind.i64.wrap (o.tk + v4)))) (opL rfl) (by kernel_rfl) (by kernel_rfl) (by kernel_rfl) (fun _ _ _ h => h) ⟨by rfl, 55, #[.int .i64 1000000, .int .i64 (IntKind.i64.wrap (o.tk + v4))], ?hr44, ?hc44⟩ g24 ?rest44
              case hr44 => (intro w; go_simp; try with_reducible rfl)
              case hc44 => (intro w hSw; exact l1Least_any _ _ _)
              (try simp only [Act.put, List.setIfInBounds_toArray, List.set_cons_zero, List.set_cons_succ])
              refine wpAnyH_take (i := 29) (v := ?v45) (opL rfl) (by kernel_rfl) (by kernel_rfl) (by kernel_rfl) (fun _ _ _ h => h) (Or.inl ⟨by rfl, ?hy45⟩) g24 ?rest45
              case hy45 => (intro w hSw; obtain ⟨q0, q1, q2⟩ := HKP.out w hSw; go_simp; try with_reducible rfl)
              (try simp only [Act.put, List.setIfInBounds_toArray, List.set_cons_zero, List.set_cons_succ])
              refine wpAnyH_ready (rs := [31]) (by kernel_rfl) (by simp) ?_
              refine AllReadyH.cons (opL rfl) (fun K hK => ?_) ?_
              · skip
                have B25 := box5_of z30_24
                have B25' := Lib.hid B25
                obtain ⟨_, ⟨u0, u1, u2, u3, u4⟩, t0, t1, t2, t3, t4⟩ := B25
                go_simp
                have c25 := B25'.out.all (.int .i64 (IntKind.i64.wrap (IntKind.i64.wrap ((maxI 0 o.x).tdiv sd) * sd))) (.int .i64 (IntKind.i64.wrap (IntKind.i64.wrap ((maxI 0 o.y).tdiv sd) * sd))) (.int .i64 sd) (.int .i64 (maxI 0 (IntKind.i64.wrap (o.tk - v3)))) (.int .i64 (minI 1000000 (IntKind.i64.wrap (o.tk + v4))))
                have e25 : Below wq.heap.size x24 (((((x24.setCell ⟨x14.heap.size, 0, none⟩ (.int .i64 (IntKind.i64.wrap (IntKind.i64.wrap ((maxI 0 o.x).tdiv sd) * sd)))).setCell ⟨x14.heap.size, 1, none⟩ (.int .i64 (IntKind.i64.wrap (IntKind.i64.wrap ((maxI 0 o.y).tdiv sd) * sd)))).setCell ⟨x14.heap.size, 2, none⟩ (.int .i64 sd)).setCell ⟨x14.heap.size, 3, none⟩ (.int .i64 (maxI 0 (IntKind.i64.wrap (o.tk - v3))))).setCell ⟨x14.heap.size, 4, none⟩ (.int .i64 (minI 1000000 (IntKind.i64.wrap (o.tk + v4))))) := Below.setCell (Below.setCell (Below.setCell (Below.setCell (Below.setCell (Below.refl _ _) (p := ⟨x14.heap.size, 0, none⟩) (Nat.le_trans (Nat.le_trans lq (Nat.le_of_lt s1)) (Nat.le_of_lt s14)) _) (p := ⟨x14.heap.size, 1, none⟩) (Nat.le_trans (Nat.le_trans lq (Nat.le_of_lt s1)) (Nat.le_of_lt s14)) _) (p := ⟨x14.heap.size, 2, none⟩) (Nat.le_trans (Nat.le_trans lq (Nat.le_of_lt s1)) (Nat.le_of_lt s14)) _) (p := ⟨x14.heap.size, 3, none⟩) (Nat.le_trans (Nat.le_trans lq (Nat.le_of_lt s1)) (Nat.le_of_lt s14)) _) (p := ⟨x14.heap.size, 4, none⟩) (Nat.le_trans (Nat.le_trans lq (Nat.le_of_lt s1)) (Nat.le_of_lt s14)) _
                have d25 := HD1.out.above d24 e25
                have g25 := only_above g24 e25
                clear u0 u1 u2 u3 u4 t0 t1 t2 t3 t4 B25'
                generalize (((((x24.setCell ⟨x14.heap.size, 0, none⟩ (.int .i64 (IntKind.i64.wrap (IntKind.i64.wrap ((maxI 0 o.x).tdiv sd) * sd)))).setCell ⟨x14.heap.size, 1, none⟩ (.int .i64 (IntKind.i64.wrap (IntKind.i64.wrap ((maxI 0 o.y).tdiv sd) * sd)))).setCell ⟨x14.heap.size, 2, none⟩ (.int .i64 sd)).setCell ⟨x14.heap.size, 3, none⟩ (.int .i64 (maxI 0 (IntKind.i64.wrap (o.tk - v3))))).setCell ⟨x14.heap.size, 4, none⟩ (.int .i64 (minI 1000000 (IntKind.i64.wrap (o.tk + v4))))) = x25 at c25 d25 g25 ⊢
                refine hK.out _ _ g25 (fun hHeld => ?_)
                clear hK K hHeld
                (try simp only [Act.put, List.setIfInBounds_toArray, List.set_cons_zero, List.set_cons_succ])
                refine wpAnyH_done (by kernel_rfl) ?_ _
                go_wp2_with fail
                go_meet
                exact ⟨x14.heap.size, ⟨_, _, _, _, _⟩, rfl, (Nat.le_trans (Nat.le_trans lq (Nat.le_of_lt s1)) (Nat.le_of_lt s14)), Lib.hid c25, Lib.hid ((d25).more (by omega)), Lib.hid g25⟩
              exact AllReadyH.nil
            exact AllReadyH.nil
          exact AllReadyH.nil
        exact AllReadyH.nil
      refine AllReadyH.cons (opL rfl) (fun K hK => ?_) ?_
      · skip
        go_simp
        have d26 := (d1).alloc (.cells #[.int .i64 0, .int .i64 0, .int .i64 0, .int .i64 0, .int .i64 0] 26)
        have g26 := only_alloc g1 (.cells #[.int .i64 0, .int .i64 0, .int .i64 0, .int .i64 0, .int .i64 0] 26)
        have b26 := heap_new1 x1 (.cells #[.int .i64 0, .int .i64 0, .int .i64 0, .int .i64 0, .int .i64 0] 26)
        have r18_26 := blk_alloc b1 (.cells #[.int .i64 0, .int .i64 0, .int .i64 0, .int .i64 0, .int .i64 0] 26)
        have s26 : x1.heap.size < (x1.alloc (.cells #[.int .i64 0, .int .i64 0, .int .i64 0, .int .i64 0, .int .i64 0] 26)).heap.size := by simp
        generalize x1.alloc (.cells #[.int .i64 0, .int .i64 0, .int .i64 0, .int .i64 0, .int .i64 0] 26) = x26 at d26 g26 b26 s26 r18_26 hK ⊢
        refine hK.out _ _ g26 (fun hHeld => ?_)
        clear hK K hHeld
        (try simp only [Act.put, List.setIfInBounds_toArray, List.set_cons_zero, List.set_cons_succ])
        refine wpAnyH_ready (rs := [19, 25]) (by kernel_rfl) (by simp) ?_
        refine AllReadyH.cons (opL rfl) (fun K hK => ?_) ?_
        · skip
          go_simp
          refine (among_dr (w0 := w0) (A := A) (n := n) (c := c) [0, 50, 2000, 100000] 4 _ _ _ d26 (by omega) hn (RowAt.of_block encI_len r18_26 rfl) (by have := lq; omega) rfl (by decide) (by decide)).mono ?_
          rintro e x27 ⟨v3, rfl, hv27, d27, h27⟩
          dsimp only
          have hb27 : 0 ≤ v3 ∧ v3 ≤ 100000 := by simp only [List.mem_cons, List.not_mem_nil, or_false] at hv27; omega
          have g27 := only_two g26 h27
          have l27 := h27.size
          have r18_27 := blk_kept r18_26 h27 (by have := lq; simp; omega)
          have z30_27 := blk_kept b26 h27 (by have := (Nat.le_trans lq (Nat.le_of_lt s1)); simp; omega)
          refine hK.out _ _ g27 (fun hHeld => ?_)
          clear hK K hHeld hv27 h27
          (try simp only [Act.put, List.setIfInBounds_toArray, List.set_cons_zero, List.set_cons_succ])
          refine wpAnyH_take (i := 20) (v := ?v46) (opL rfl) (by kernel_rfl) (by kernel_rfl) (by kernel_rfl) (fun _ _ _ h => h) (Or.inl ⟨by rfl, ?hy46⟩) g27 ?rest46
          case hy46 => (intro w hSw; obtain ⟨q0, q1, q2⟩ := HKP.out w hSw; go_simp; try with_reducible rfl)
          (try simp only [Act.put, List.setIfInBounds_toArray, List.set_cons_zero, List.set_cons_succ])
          refine take_call (i := 21) (v := .int .i64 (maxI 0 (IntKind.i64.wrap (o.tk - v3)))) (opL rfl) (by kernel_rfl) (by kernel_rfl) (by kernel_rfl) (fun _ _ _ h => h) ⟨by rfl, 26, #[.int .i64 0, .int .i64 (IntKind.i64.wrap (o.tk - v3))], ?hr47, ?hc47⟩ g27 ?rest47
          case hr47 => (intro w; go_simp; try with_reducible rfl)
          case hc47 => (intro w hSw; exact l1Most_any _ _ _)
          (try simp only [Act.put, List.setIfInBounds_toArray, List.set_cons_zero, List.set_cons_succ])
          refine wpAnyH_ready (rs := [25]) (by kernel_rfl) (by simp) ?_
          refine AllReadyH.cons (opL rfl) (fun K hK => ?_) ?_
          · skip
            go_simp
            have d28 := (d27).alloc (.cells #[.int .i64 0, .int .i64 50, .int .i64 2000, .int .i64 100000] 3)
            have g28 := only_alloc g27 (.cells #[.int .i64 0, .int .i64 50, .int .i64 2000, .int .i64 100000] 3)
            have b28 := heap_new1 x27 (.cells #[.int .i64 0, .int .i64 50, .int .i64 2000, .int .i64 100000] 3)
            have r18_28 := blk_alloc r18_27 (.cells #[.int .i64 0, .int .i64 50, .int .i64 2000, .int .i64 100000] 3)
            have z30_28 := blk_alloc z30_27 (.cells #[.int .i64 0, .int .i64 50, .int .i64 2000, .int .i64 100000] 3)
            have s28 : x27.heap.size < (x27.alloc (.cells #[.int .i64 0, .int .i64 50, .int .i64 2000, .int .i64 100000] 3)).heap.size := by simp
            generalize x27.alloc (.cells #[.int .i64 0, .int .i64 50, .int .i64 2000, .int .i64 100000] 3) = x28 at d28 g28 b28 s28 r18_28 z30_28 hK ⊢
            refine hK.out _ _ g28 (fun hHeld => ?_)
            clear hK K hHeld
            (try simp only [Act.put, List.setIfInBounds_toArray, List.set_cons_zero, List.set_cons_succ])
            refine wpAnyH_ready (rs := [26]) (by kernel_rfl) (by simp) ?_
            refine AllReadyH.cons (opL rfl) (fun K hK => ?_) ?_
            · skip
              go_simp
              refine (among_dr (w0 := w0) (A := A) (n := n) (c := c) [0, 50, 2000, 100000] 4 _ _ _ d28 (by omega) hn (RowAt.of_block encI_len b28 rfl) (by have := (Nat.le_trans (Nat.le_trans (Nat.le_trans lq (Nat.le_of_lt s1)) (Nat.le_of_lt s26)) l27); omega) rfl (by decide) (by decide)).mono ?_
              rintro e x29 ⟨v4, rfl, hv29, d29, h29⟩
              dsimp only
              have hb29 : 0 ≤ v4 ∧ v4 ≤ 100000 := by simp only [List.mem_cons, List.not_mem_nil, or_false] at hv29; omega
              have g29 := only_two g28 h29
              have l29 := h29.size
              have r18_29 := blk_kept r18_28 h29 (by have := lq; simp; omega)
              have r25_29 := blk_kept b28 h29 (by have := (Nat.le_trans (Nat.le_trans (Nat.le_trans lq (Nat.le_of_lt s1)) (Nat.le_of_lt s26)) l27); simp; omega)
              have z30_29 := blk_kept z30_28 h29 (by have := (Nat.le_trans lq (Nat.le_of_lt s1)); simp; omega)
              refine hK.out _ _ g29 (fun hHeld => ?_)
              clear hK K hHeld hv29 h29
              (try simp only [Act.put, List.setIfInBounds_toArray, List.set_cons_zero, List.set_cons_succ])
              refine wpAnyH_take (i := 27) (v := ?v48) (opL rfl) (by kernel_rfl) (by kernel_rfl) (by kernel_rfl) (fun _ _ _ h => h) (Or.inl ⟨by rfl, ?hy48⟩) g29 ?rest48
              case hy48 => (intro w hSw; obtain ⟨q0, q1, q2⟩ := HKP.out w hSw; go_simp; try with_reducible rfl)
              (try simp only [Act.put, List.setIfInBounds_toArray, List.set_cons_zero, List.set_cons_succ])
              refine take_call (i := 28) (v := .int .i64 (minI 1000000 (IntKind.i64.wrap (o.tk + v4)))) (opL rfl) (by kernel_rfl) (by kernel_rfl) (by kernel_rfl) (fun _ _ _ h => h) ⟨by rfl, 55, #[.int .i64 1000000, .int .i64 (IntKind.i64.wrap (o.tk + v4))], ?hr49, ?hc49⟩ g29 ?rest49
              case hr49 => (intro w; go_simp; try with_reducible rfl)
              case hc49 => (intro w hSw; exact l1Least_any _ _ _)
              (try simp only [Act.put, List.setIfInBounds_toArray, List.set_cons_zero, List.set_cons_succ])
              refine wpAnyH_take (i := 29) (v := ?v50) (opL rfl) (by kernel_rfl) (by kernel_rfl) (by kernel_rfl) (fun _ _ _ h => h) (Or.inl ⟨by rfl, ?hy50⟩) g29 ?rest50
              case hy50 => (intro w hSw; obtain ⟨q0, q1, q2⟩ := HKP.out w hSw; go_simp; try with_reducible rfl)
              (try simp only [Act.put, List.setIfInBounds_toArray, List.set_cons_zero, List.set_cons_succ])
              refine wpAnyH_ready (rs := [31]) (by kernel_rfl) (by simp) ?_
              refine AllReadyH.cons (opL rfl) (fun K hK => ?_) ?_
              · skip
                have B30 := box5_of z30_29
                have B30' := Lib.hid B30
                obtain ⟨_, ⟨u0, u1, u2, u3, u4⟩, t0, t1, t2, t3, t4⟩ := B30
                go_simp
                have c30 := B30'.out.all (.int .i64 (IntKind.i64.wrap (IntKind.i64.wrap ((maxI 0 o.x).tdiv sd) * sd))) (.int .i64 (IntKind.i64.wrap (IntKind.i64.wrap ((maxI 0 o.y).tdiv sd) * sd))) (.int .i64 sd) (.int .i64 (maxI 0 (IntKind.i64.wrap (o.tk - v3)))) (.int .i64 (minI 1000000 (IntKind.i64.wrap (o.tk + v4))))
                have e30 : Below wq.heap.size x29 (((((x29.setCell ⟨x1.heap.size, 0, none⟩ (.int .i64 (IntKind.i64.wrap (IntKind.i64.wrap ((maxI 0 o.x).tdiv sd) * sd)))).setCell ⟨x1.heap.size, 1, none⟩ (.int .i64 (IntKind.i64.wrap (IntKind.i64.wrap ((maxI 0 o.y).tdiv sd) * sd)))).setCell ⟨x1.heap.size, 2, none⟩ (.int .i64 sd)).setCell ⟨x1.heap.size, 3, none⟩ (.int .i64 (maxI 0 (IntKind.i64.wrap (o.tk - v3))))).setCell ⟨x1.heap.size, 4, none⟩ (.int .i64 (minI 1000000 (IntKind.i64.wrap (o.tk + v4))))) := Below.setCell (Below.setCell (Below.setCell (Below.setCell (Below.setCell (Below.refl _ _) (p := ⟨x1.heap.size, 0, none⟩) (Nat.le_trans lq (Nat.le_of_lt s1)) _) (p := ⟨x1.heap.size, 1, none⟩) (Nat.le_trans lq (Nat.le_of_lt s1)) _) (p := ⟨x1.heap.size, 2, none⟩) (Nat.le_trans lq (Nat.le_of_lt s1)) _) (p := ⟨x1.heap.size, 3, none⟩) (Nat.le_trans lq (Nat.le_of_lt s1)) _) (p := ⟨x1.heap.size, 4, none⟩) (Nat.le_trans lq (Nat.le_of_lt s1)) _
                have d30 := HD1.out.above d29 e30
                have g30 := only_above g29 e30
                clear u0 u1 u2 u3 u4 t0 t1 t2 t3 t4 B30'
                generalize (((((x29.setCell ⟨x1.heap.size, 0, none⟩ (.int .i64 (IntKind.i64.wrap (IntKind.i64.wrap ((maxI 0 o.x).tdiv sd) * sd)))).setCell ⟨x1.heap.size, 1, none⟩ (.int .i64 (IntKind.i64.wrap (IntKind.i64.wrap ((maxI 0 o.y).tdiv sd) * sd)))).setCell ⟨x1.heap.size, 2, none⟩ (.int .i64 sd)).setCell ⟨x1.heap.size, 3, none⟩ (.int .i64 (maxI 0 (IntKind.i64.wrap (o.tk - v3))))).setCell ⟨x1.heap.size, 4, none⟩ (.int .i64 (minI 1000000 (IntKind.i64.wrap (o.tk + v4))))) = x30 at c30 d30 g30 ⊢
                refine hK.out _ _ g30 (fun hHeld => ?_)
                clear hK K hHeld
                (try simp only [Act.put, List.setIfInBounds_toArray, List.set_cons_zero, List.set_cons_succ])
                refine wpAnyH_done (by kernel_rfl) ?_ _
                go_wp2_with fail
                go_meet
                exact ⟨x1.heap.size, ⟨_, _, _, _, _⟩, rfl, (Nat.le_trans lq (Nat.le_of_lt s1)), Lib.hid c30, Lib.hid ((d30).more (by omega)), Lib.hid g30⟩
              exact AllReadyH.nil
            exact AllReadyH.nil
          exact AllReadyH.nil
        refine AllReadyH.cons (opL rfl) (fun K hK => ?_) ?_
        · skip
          go_simp
          have d31 := (d26).alloc (.cells #[.int .i64 0, .int .i64 50, .int .i64 2000, .int .i64 100000] 3)
          have g31 := only_alloc g26 (.cells #[.int .i64 0, .int .i64 50, .int .i64 2000, .int .i64 100000] 3)
          have b31 := heap_new1 x26 (.cells #[.int .i64 0, .int .i64 50, .int .i64 2000, .int .i64 100000] 3)
          have r18_31 := blk_alloc r18_26 (.cells #[.int .i64 0, .int .i64 50, .int .i64 2000, .int .i64 100000] 3)
          have z30_31 := blk_alloc b26 (.cells #[.int .i64 0, .int .i64 50, .int .i64 2000, .int .i64 100000] 3)
          have s31 : x26.heap.size < (x26.alloc (.cells #[.int .i64 0, .int .i64 50, .int .i64 2000, .int .i64 100000] 3)).heap.size := by simp
          generalize x26.alloc (.cells #[.int .i64 0, .int .i64 50, .int .i64 2000, .int .i64 100000] 3) = x31 at d31 g31 b31 s31 r18_31 z30_31 hK ⊢
          refine hK.out _ _ g31 (fun hHeld => ?_)
          clear hK K hHeld
          (try simp only [Act.put, List.setIfInBounds_toArray, List.set_cons_zero, List.set_cons_succ])
          refine wpAnyH_ready (rs := [19]) (by kernel_rfl) (by simp) ?_
          refine AllReadyH.cons (opL rfl) (fun K hK => ?_) ?_
          · skip
            go_simp
            refine (among_dr (w0 := w0) (A := A) (n := n) (c := c) [0, 50, 2000, 100000] 4 _ _ _ d31 (by omega) hn (RowAt.of_block encI_len r18_31 rfl) (by have := lq; omega) rfl (by decide) (by decide)).mono ?_
            rintro e x32 ⟨v3, rfl, hv32, d32, h32⟩
            dsimp only
            have hb32 : 0 ≤ v3 ∧ v3 ≤ 100000 := by simp only [List.mem_cons, List.not_mem_nil, or_false] at hv32; omega
            have g32 := only_two g31 h32
            have l32 := h32.size
            have r18_32 := blk_kept r18_31 h32 (by have := lq; simp; omega)
            have r25_32 := blk_kept b31 h32 (by have := (Nat.le_trans (Nat.le_trans lq (Nat.le_of_lt s1)) (Nat.le_of_lt s26)); simp; omega)
            have z30_32 := blk_kept z30_31 h32 (by have := (Nat.le_trans lq (Nat.le_of_lt s1)); simp; omega)
            refine hK.out _ _ g32 (fun hHeld => ?_)
            clear hK K hHeld hv32 h32
            (try simp only [Act.put, List.setIfInBounds_toArray, List.set_cons_zero, List.set_cons_succ])
            refine wpAnyH_take (i := 20) (v := ?v51) (opL rfl) (by kernel_rfl) (by kernel_rfl) (by kernel_rfl) (fun _ _ _ h => h) (Or.inl ⟨by rfl, ?hy51⟩) g32 ?rest51
            case hy51 => (intro w hSw; obtain ⟨q0, q1, q2⟩ := HKP.out w hSw; go_simp; try with_reducible rfl)
            (try simp only [Act.put, List.setIfInBounds_toArray, List.set_cons_zero, List.set_cons_succ])
            refine take_call (i := 21) (v := .int .i64 (maxI 0 (IntKind.i64.wrap (o.tk - v3)))) (opL rfl) (by kernel_rfl) (by kernel_rfl) (by kernel_rfl) (fun _ _ _ h => h) ⟨by rfl, 26, #[.int .i64 0, .int .i64 (IntKind.i64.wrap (o.tk - v3))], ?hr52, ?hc52⟩ g32 ?rest52
            case hr52 => (intro w; go_simp; try with_reducible rfl)
            case hc52 => (intro w hSw; exact l1Most_any _ _ _)
            (try simp only [Act.put, List.setIfInBounds_toArray, List.set_cons_zero, List.set_cons_succ])
            refine wpAnyH_ready (rs := [26]) (by kernel_rfl) (by simp) ?_
            refine AllReadyH.cons (opL rfl) (fun K hK => ?_) ?_
            · skip
              go_simp
              refine (among_dr (w0 := w0) (A := A) (n := n) (c := c) [0, 50, 2000, 100000] 4 _ _ _ d32 (by omega) hn (RowAt.of_block encI_len r25_32 rfl) (by have := (Nat.le_trans (Nat.le_trans lq (Nat.le_of_lt s1)) (Nat.le_of_lt s26)); omega) rfl (by decide) (by decide)).mono ?_
              rintro e x33 ⟨v4, rfl, hv33, d33, h33⟩
              dsimp only
              have hb33 : 0 ≤ v4 ∧ v4 ≤ 100000 := by simp only [List.mem_cons, List.not_mem_nil, or_false] at hv33; omega
              have g33 := only_two g32 h33
              have l33 := h33.size
              have r18_33 := blk_kept r18_32 h33 (by have := lq; simp; omega)
              have r25_33 := blk_kept r25_32 h33 (by have := (Nat.le_trans (Nat.le_trans lq (Nat.le_of_lt s1)) (Nat.le_of_lt s26)); simp; omega)
              have z30_33 := blk_kept z30_32 h33 (by have := (Nat.le_trans lq (Nat.le_of_lt s1)); simp; omega)
              refine hK.out _ _ g33 (fun hHeld => ?_)
              clear hK K hHeld hv33 h33
              (try simp only [Act.put, List.setIfInBounds_toArray, List.set_cons_zero, List.set_cons_succ])
              refine wpAnyH_take (i := 27) (v := ?v53) (opL rfl) (by kernel_rfl) (by kernel_rfl) (by kernel_rfl) (fun _ _ _ h => h) (Or.inl ⟨by rfl, ?hy53⟩) g33 ?rest53
              case hy53 => (intro w hSw; obtain ⟨q0, q1, q2⟩ := HKP.out w hSw; go_simp; try with_reducible rfl)
              (try simp only [Act.put, List.setIfInBounds_toArray, List.set_cons_zero, List.set_cons_succ])
              refine take_call (i := 28) (v := .int .i64 (minI 1000000 (IntKind.i64.wrap (o.tk + v4)))) (opL rfl) (by kernel_rfl) (by kernel_rfl) (by kernel_rfl) (fun _ _ _ h => h) ⟨by rfl, 55, #[.int .i64 1000000, .int .i64 (IntKind.i64.wrap (o.tk + v4))], ?hr54, ?hc54⟩ g33 ?rest54
              case hr54 => (intro w; go_simp; try with_reducible rfl)
              case hc54 => (intro w hSw; exact l1Least_any _ _ _)
              (try simp only [Act.put, List.setIfInBounds_toArray, List.set_cons_zero, List.set_cons_succ])
              refine wpAnyH_take (i := 29) (v := ?v55) (opL rfl) (by kernel_rfl) (by kernel_rfl) (by kernel_rfl) (fun _ _ _ h => h) (Or.inl ⟨by rfl, ?hy55⟩) g33 ?rest55
              case hy55 => (intro w hSw; obtain ⟨q0, q1, q2⟩ := HKP.out w hSw; go_simp; try with_reducible rfl)
              (try simp only [Act.put, List.setIfInBounds_toArray, List.set_cons_zero, List.set_cons_succ])
              refine wpAnyH_ready (rs := [31]) (by kernel_rfl) (by simp) ?_
              refine AllReadyH.cons (opL rfl) (fun K hK => ?_) ?_
              · skip
                have B34 := box5_of z30_33
                have B34' := Lib.hid B34
                obtain ⟨_, ⟨u0, u1, u2, u3, u4⟩, t0, t1, t2, t3, t4⟩ := B34
                go_simp
                have c34 := B34'.out.all (.int .i64 (IntKind.i64.wrap (IntKind.i64.wrap ((maxI 0 o.x).tdiv sd) * sd))) (.int .i64 (IntKind.i64.wrap (IntKind.i64.wrap ((maxI 0 o.y).tdiv sd) * sd))) (.int .i64 sd) (.int .i64 (maxI 0 (IntKind.i64.wrap (o.tk - v3)))) (.int .i64 (minI 1000000 (IntKind.i64.wrap (o.tk + v4))))
                have e34 : Below wq.heap.size x33 (((((x33.setCell ⟨x1.heap.size, 0, none⟩ (.int .i64 (IntKind.i64.wrap (IntKind.i64.wrap ((maxI 0 o.x).tdiv sd) * sd)))).setCell ⟨x1.heap.size, 1, none⟩ (.int .i64 (IntKind.i64.wrap (IntKind.i64.wrap ((maxI 0 o.y).tdiv sd) * sd)))).setCell ⟨x1.heap.size, 2, none⟩ (.int .i64 sd)).setCell ⟨x1.heap.size, 3, none⟩ (.int .i64 (maxI 0 (IntKind.i64.wrap (o.tk - v3))))).setCell ⟨x1.heap.size, 4, none⟩ (.int .i64 (minI 1000000 (IntKind.i64.wrap (o.tk + v4))))) := Below.setCell (Below.setCell (Below.setCell (Below.setCell (Below.setCell (Below.refl _ _) (p := ⟨x1.heap.size, 0, none⟩) (Nat.le_trans lq (Nat.le_of_lt s1)) _) (p := ⟨x1.heap.size, 1, none⟩) (Nat.le_trans lq (Nat.le_of_lt s1)) _) (p := ⟨x1.heap.size, 2, none⟩) (Nat.le_trans lq (Nat.le_of_lt s1)) _) (p := ⟨x1.heap.size, 3, none⟩) (Nat.le_trans lq (Nat.le_of_lt s1)) _) (p := ⟨x1.heap.size, 4, none⟩) (Nat.le_trans lq (Nat.le_of_lt s1)) _
                have d34 := HD1.out.above d33 e34
                have g34 := only_above g33 e34
                clear u0 u1 u2 u3 u4 t0 t1 t2 t3 t4 B34'
                generalize (((((x33.setCell ⟨x1.heap.size, 0, none⟩ (.int .i64 (IntKind.i64.wrap (IntKind.i64.wrap ((maxI 0 o.x).tdiv sd) * sd)))).setCell ⟨x1.heap.size, 1, none⟩ (.int .i64 (IntKind.i64.wrap (IntKind.i64.wrap ((maxI 0 o.y).tdiv sd) * sd)))).setCell ⟨x1.heap.size, 2, none⟩ (.int .i64 sd)).setCell ⟨x1.heap.size, 3, none⟩ (.int .i64 (maxI 0 (IntKind.i64.wrap (o.tk - v3))))).setCell ⟨x1.heap.size, 4, none⟩ (.int .i64 (minI 1000000 (IntKind.i64.wrap (o.tk + v4))))) = x34 at c34 d34 g34 ⊢
                refine hK.out _ _ g34 (fun hHeld => ?_)
                clear hK K hHeld
                (try simp only [Act.put, List.setIfInBounds_toArray, List.set_cons_zero, List.set_cons_succ])
                refine wpAnyH_done (by kernel_rfl) ?_ _
                go_wp2_with fail
                go_meet
                exact ⟨x1.heap.size, ⟨_, _, _, _, _⟩, rfl, (Nat.le_trans lq (Nat.le_of_lt s1)), Lib.hid c34, Lib.hid ((d34).more (by omega)), Lib.hid g34⟩
              exact AllReadyH.nil
            exact AllReadyH.nil
          exact AllReadyH.nil
        exact AllReadyH.nil
      exact AllReadyH.nil
    refine AllReadyH.cons (opL rfl) (fun K hK => ?_) ?_
    · skip
      go_simp
      have d35 := (dq).alloc (.cells #[.int .i64 0, .int .i64 50, .int .i64 2000, .int .i64 100000] 3)
      have g35 := only_alloc hHeld (.cells #[.int .i64 0, .int .i64 50, .int .i64 2000, .int .i64 100000] 3)
      have b35 := heap_new1 x0 (.cells #[.int .i64 0, .int .i64 50, .int .i64 2000, .int .i64 100000] 3)
      have s35 : x0.heap.size < (x0.alloc (.cells #[.int .i64 0, .int .i64 50, .int .i64 2000, .int .i64 100000] 3)).heap.size := by simp
      generalize x0.alloc (.cells #[.int .i64 0, .int .i64 50, .int .i64 2000, .int .i64 100000] 3) = x35 at d35 g35 b35 s35  hK ⊢
      refine hK.out _ _ g35 (fun hHeld => ?_)
      clear hK K hHeld
      (try simp only [Act.put, List.setIfInBounds_toArray, List.set_cons_zero, List.set_cons_succ])
      refine wpAnyH_ready (rs := [18, 30]) (by kernel_rfl) (by simp) ?_
      refine AllReadyH.cons (opL rfl) (fun K hK => ?_) ?_
      · skip
        go_simp
        have d36 := (d35).alloc (.cells #[.int .i64 0, .int .i64 50, .int .i64 2000, .int .i64 100000] 3)
        have g36 := only_alloc g35 (.cells #[.int .i64 0, .int .i64 50, .int .i64 2000, .int .i64 100000] 3)
        have b36 := heap_new1 x35 (.cells #[.int .i64 0, .int .i64 50, .int .i64 2000, .int .i64 100000] 3)
        have r25_36 := blk_alloc b35 (.cells #[.int .i64 0, .int .i64 50, .int .i64 2000, .int .i64 100000] 3)
        have s36 : x35.heap.size < (x35.alloc (.cells #[.int .i64 0, .int .i64 50, .int .i64 2000, .int .i64 100000] 3)).heap.size := by simp
        generalize x35.alloc (.cells #[.int .i64 0, .int .i64 50, .int .i64 2000, .int .i64 100000] 3) = x36 at d36 g36 b36 s36 r25_36 hK ⊢
        refine hK.out _ _ g36 (fun hHeld => ?_)
        clear hK K hHeld
        (try simp only [Act.put, List.setIfInBounds_toArray, List.set_cons_zero, List.set_cons_succ])
        refine wpAnyH_ready (rs := [19, 30]) (by kernel_rfl) (by simp) ?_
        refine AllReadyH.cons (opL rfl) (fun K hK => ?_) ?_
        · skip
          go_simp
          refine (among_dr (w0 := w0) (A := A) (n := n) (c := c) [0, 50, 2000, 100000] 4 _ _ _ d36 (by omega) hn (RowAt.of_block encI_len b36 rfl) (by have := (Nat.le_trans lq (Nat.le_of_lt s35)); omega) rfl (by decide) (by decide)).mono ?_
          rintro e x37 ⟨v3, rfl, hv37, d37, h37⟩
          dsimp only
          have hb37 : 0 ≤ v3 ∧ v3 ≤ 100000 := by simp only [List.mem_cons, List.not_mem_nil, or_false] at hv37; omega
          have g37 := only_two g36 h37
          have l37 := h37.size
          have r18_37 := blk_kept b36 h37 (by have := (Nat.le_trans lq (Nat.le_of_lt s35)); simp; omega)
          have r25_37 := blk_kept r25_36 h37 (by have := lq; simp; omega)
          refine hK.out _ _ g37 (fun hHeld => ?_)
          clear hK K hHeld hv37 h37
          (try simp only [Act.put, List.setIfInBounds_toArray, List.set_cons_zero, List.set_cons_succ])
          refine wpAnyH_take (i := 20) (v := ?v56) (opL rfl) (by kernel_rfl) (by kernel_rfl) (by kernel_rfl) (fun _ _ _ h => h) (Or.inl ⟨by rfl, ?hy56⟩) g37 ?rest56
          case hy56 => (intro w hSw; obtain ⟨q0, q1, q2⟩ := HKP.out w hSw; go_simp; try with_reducible rfl)
          (try simp only [Act.put, List.setIfInBounds_toArray, List.set_cons_zero, List.set_cons_succ])
          refine take_call (i := 21) (v := .int .i64 (maxI 0 (IntKind.i64.wrap (o.tk - v3)))) (opL rfl) (by kernel_rfl) (by kernel_rfl) (by kernel_rfl) (fun _ _ _ h => h) ⟨by rfl, 26, #[.int .i64 0, .int .i64 (IntKind.i64.wrap (o.tk - v3))], ?hr57, ?hc57⟩ g37 ?rest57
          case hr57 => (intro w; go_simp; try with_reducible rfl)
          case hc57 => (intro w hSw; exact l1Most_any _ _ _)
          (try simp only [Act.put, List.setIfInBounds_toArray, List.set_cons_zero, List.set_cons_succ])
          refine wpAnyH_ready (rs := [26, 30]) (by kernel_rfl) (by simp) ?_
          refine AllReadyH.cons (opL rfl) (fun K hK => ?_) ?_
          · skip
            go_simp
            refine (among_dr (w0 := w0) (A := A) (n := n) (c := c) [0, 50, 2000, 100000] 4 _ _ _ d37 (by omega) hn (RowAt.of_block encI_len r25_37 rfl) (by have := lq; omega) rfl (by decide) (by decide)).mono ?_
            rintro e x38 ⟨v4, rfl, hv38, d38, h38⟩
            dsimp only
            have hb38 : 0 ≤ v4 ∧ v4 ≤ 100000 := by simp only [List.mem_cons, List.not_mem_nil, or_false] at hv38; omega
            have g38 := only_two g37 h38
            have l38 := h38.size
            have r18_38 := blk_kept r18_37 h38 (by have := (Nat.le_trans lq (Nat.le_of_lt s35)); simp; omega)
            have r25_38 := blk_kept r25_37 h38 (by have := lq; simp; omega)
            refine hK.out _ _ g38 (fun hHeld => ?_)
            clear hK K hHeld hv38 h38
            (try simp only [Act.put, List.setIfInBounds_toArray, List.set_cons_zero, List.set_cons_succ])
            refine wpAnyH_take (i := 27) (v := ?v58) (opL rfl) (by kernel_rfl) (by kernel_rfl) (by kernel_rfl) (fun _ _ _ h => h) (Or.inl ⟨by rfl, ?hy58⟩) g38 ?rest58
            case hy58 => (intro w hSw; obtain ⟨q0, q1, q2⟩ := HKP.out w hSw; go_simp; try with_reducible rfl)
            (try simp only [Act.put, List.setIfInBounds_toArray, List.set_cons_zero, List.set_cons_succ])
            refine take_call (i := 28) (v := .int .i64 (minI 1000000 (IntKind.i64.wrap (o.tk + v4)))) (opL rfl) (by kernel_rfl) (by kernel_rfl) (by kernel_rfl) (fun _ _ _ h => h) ⟨by rfl, 55, #[.int .i64 1000000, .int .i64 (IntKind.i64.wrap (o.tk + v4))], ?hr59, ?hc59⟩ g38 ?rest59
            case hr59 => (intro w; go_simp; try with_reducible rfl)
            case hc59 => (intro w hSw; exact l1Least_any _ _ _)
            (try simp only [Act.put, List.setIfInBounds_toArray, List.set_cons_zero, List.set_cons_succ])
            refine wpAnyH_take (i := 29) (v := ?v60) (opL rfl) (by kernel_rfl) (by kernel_rfl) (by kernel_rfl) (fun _ _ _ h => h) (Or.inl ⟨by rfl, ?hy60⟩) g38 ?rest60
            case hy60 => (intro w hSw; obtain ⟨q0, q1, q2⟩ := HKP.out w hSw; go_simp; try with_reducible rfl)
            (try simp only [Act.put, List.setIfInBounds_toArray, List.set_cons_zero, List.set_cons_succ])
            refine wpAnyH_ready (rs := [30]) (by kernel_rfl) (by simp) ?_
            refine AllReadyH.cons (opL rfl) (fun K hK => ?_) ?_
            · skip
              go_simp
              have d39 := (d38).alloc (.cells #[.int .i64 0, .int .i64 0, .int .i64 0, .int .i64 0, .int .i64 0] 26)
              have g39 := only_alloc g38 (.cells #[.int .i64 0, .int .i64 0, .int .i64 0, .int .i64 0, .int .i64 0] 26)
              have b39 := heap_new1 x38 (.cells #[.int .i64 0, .int .i64 0, .int .i64 0, .int .i64 0, .int .i64 0] 26)
              have r18_39 := blk_alloc r18_38 (.cells #[.int .i64 0, .int .i64 0, .int .i64 0, .int .i64 0, .int .i64 0] 26)
              have r25_39 := blk_alloc r25_38 (.cells #[.int .i64 0, .int .i64 0, .int .i64 0, .int .i64 0, .int .i64 0] 26)
              have s39 : x38.heap.size < (x38.alloc (.cells #[.int .i64 0, .int .i64 0, .int .i64 0, .int .i64 0, .int .i64 0] 26)).heap.size := by simp
              generalize x38.alloc (.cells #[.int .i64 0, .int .i64 0, .int .i64 0, .int .i64 0, .int .i64 0] 26) = x39 at d39 g39 b39 s39 r18_39 r25_39 hK ⊢
              refine hK.out _ _ g39 (fun hHeld => ?_)
              clear hK K hHeld
              (try simp only [Act.put, List.setIfInBounds_toArray, List.set_cons_zero, List.set_cons_succ])
              refine wpAnyH_ready (rs := [31]) (by kernel_rfl) (by simp) ?_
              refine AllReadyH.cons (opL rfl) (fun K hK => ?_) ?_
              · skip
                have B40 := box5_of b39
                have B40' := Lib.hid B40
                obtain ⟨_, ⟨u0, u1, u2, u3, u4⟩, t0, t1, t2, t3, t4⟩ := B40
                go_simp
                have c40 := B40'.out.all (.int .i64 (IntKind.i64.wrap (IntKind.i64.wrap ((maxI 0 o.x).tdiv sd) * sd))) (.int .i64 (IntKind.i64.wrap (IntKind.i64.wrap ((maxI 0 o.y).tdiv sd) * sd))) (.int .i64 sd) (.int .i64 (maxI 0 (IntKind.i64.wrap (o.tk - v3)))) (.int .i64 (minI 1000000 (IntKind.i64.wrap (o.tk + v4))))
                have e40 : Below wq.heap.size x39 (((((x39.setCell ⟨x38.heap.size, 0, none⟩ (.int .i64 (IntKind.i64.wrap (IntKind.i64.wrap ((maxI 0 o.x).tdiv sd) * sd)))).setCell ⟨x38.heap.size, 1, none⟩ (.int .i64 (IntKind.i64.wrap (IntKind.i64.wrap ((maxI 0 o.y).tdiv sd) * sd)))).setCell ⟨x38.heap.size, 2, none⟩ (.int .i64 sd)).setCell ⟨x38.heap.size, 3, none⟩ (.int .i64 (maxI 0 (IntKind.i64.wrap (o.tk - v3))))).setCell ⟨x38.heap.size, 4, none⟩ (.int .i64 (minI 1000000 (IntKind.i64.wrap (o.tk + v4))))) := Below.setCell (Below.setCell (Below.setCell (Below.setCell (Below.setCell (Below.refl _ _) (p := ⟨x38.heap.size, 0, none⟩) (Nat.le_trans (Nat.le_trans (Nat.le_trans (Nat.le_trans lq (Nat.le_of_lt s35)) (Nat.le_of_lt s36)) l37) l38) _) (p := ⟨x38.heap.size, 1, none⟩) (Nat.le_trans (Nat.le_trans (Nat.le_trans (Nat.le_trans lq (Nat.le_of_lt s35)) (Nat.le_of_lt s36)) l37) l38) _) (p := ⟨x38.heap.size, 2, none⟩) (Nat.le_trans (Nat.le_trans (Nat.le_trans (Nat.le_trans lq (Nat.le_of_lt s35)) (Nat.le_of_lt s36)) l37) l38) _) (p := ⟨x38.heap.size, 3, none⟩) (Nat.le_trans (Nat.le_trans (Nat.le_trans (Nat.le_trans lq (Nat.le_of_lt s35)) (Nat.le_of_lt s36)) l37) l38) _) (p := ⟨x38.heap.size, 4, none⟩) (Nat.le_trans (Nat.le_trans (Nat.le_trans (Nat.le_trans lq (Nat.le_of_lt s35)) (Nat.le_of_lt s36)) l37) l38) _
                have d40 := HD1.out.above d39 e40
                have g40 := only_above g39 e40
                clear u0 u1 u2 u3 u4 t0 t1 t2 t3 t4 B40'
                generalize (((((x39.setCell ⟨x38.heap.size, 0, none⟩ (.int .i64 (IntKind.i64.wrap (IntKind.i64.wrap ((maxI 0 o.x).tdiv sd) * sd)))).setCell ⟨x38.heap.size, 1, none⟩ (.int .i64 (IntKind.i64.wrap (IntKind.i64.wrap ((maxI 0 o.y).tdiv sd) * sd)))).setCell ⟨x38.heap.size, 2, none⟩ (.int .i64 sd)).setCell ⟨x38.heap.size, 3, none⟩ (.int .i64 (maxI 0 (IntKind.i64.wrap (o.tk - v3))))).setCell ⟨x38.heap.size, 4, none⟩ (.int .i64 (minI 1000000 (IntKind.i64.wrap (o.tk + v4))))) = x40 at c40 d40 g40 ⊢
                refine hK.out _ _ g40 (fun hHeld => ?_)
                clear hK K hHeld
                (try simp only [Act.put, List.setIfInBounds_toArray, List.set_cons_zero, List.set_cons_succ])
                refine wpAnyH_done (by kernel_rfl) ?_ _
                go_wp2_with fail
                go_meet
                exact ⟨x38.heap.size, ⟨_, _, _, _, _⟩, rfl, (Nat.le_trans (Nat.le_trans (Nat.le_trans (Nat.le_trans lq (Nat.le_of_lt s35)) (Nat.le_of_lt s36)) l37) l38), Lib.hid c40, Lib.hid ((d40).more (by omega)), Lib.hid g40⟩
              exact AllReadyH.nil
            exact AllReadyH.nil
          refine AllReadyH.cons (opL rfl) (fun K hK => ?_) ?_
          · skip
            go_simp
            have d41 := (d37).alloc (.cells #[.int .i64 0, .int .i64 0, .int .i64 0, .int .i64 0, .int .i64 0] 26)
            have g41 := only_alloc g37 (.cells #[.int .i64 0, .int .i64 0, .int .i64 0, .int .i64 0, .int .i64 0] 26)
            have b41 := heap_new1 x37 (.cells #[.int .i64 0, .int .i64 0, .int .i64 0, .int .i64 0, .int .i64 0] 26)
            have r18_41 := blk_alloc r18_37 (.cells #[.int .i64 0, .int .i64 0, .int .i64 0, .int .i64 0, .int .i64 0] 26)
            have r25_41 := blk_alloc r25_37 (.cells #[.int .i64 0, .int .i64 0, .int .i64 0, .int .i64 0, .int .i64 0] 26)
            have s41 : x37.heap.size < (x37.alloc (.cells #[.int .i64 0, .int .i64 0, .int .i64 0, .int .i64 0, .int .i64 0] 26)).heap.size := by simp
            generalize x37.alloc (.cells #[.int .i64 0, .int .i64 0, .int .i64 0, .int .i64 0, .int .i64 0] 26) = x41 at d41 g41 b41 s41 r18_41 r25_41 hK ⊢
            refine hK.out _ _ g41 (fun hHeld => ?_)
            clear hK K hHeld
            (try simp only [Act.put, List.setIfInBounds_toArray, List.set_cons_zero, List.set_cons_succ])
            refine wpAnyH_ready (rs := [26]) (by kernel_rfl) (by simp) ?_
            refine AllReadyH.cons (opL rfl) (fun K hK => ?_) ?_
            · skip
              go_simp
              refine (among_dr (w0 := w0) (A := A) (n := n) (c := c) [0, 50, 2000, 100000] 4 _ _ _ d41 (by omega) hn (RowAt.of_block encI_len r25_41 rfl) (by have := lq; omega) rfl (by decide) (by decide)).mono ?_
              rintro e x42 ⟨v4, rfl, hv42, d42, h42⟩
              dsimp only
              have hb42 : 0 ≤ v4 ∧ v4 ≤ 100000 := by simp only [List.mem_cons, List.not_mem_nil, or_false] at hv42; omega
              have g42 := only_two g41 h42
              have l42 := h42.size
              have r18_42 := blk_kept r18_41 h42 (by have := (Nat.le_trans lq (Nat.le_of_lt s35)); simp; omega)
              have r25_42 := blk_kept r25_41 h42 (by have := lq; simp; omega)
              have z30_42 := blk_kept b41 h42 (by have := (Nat.le_trans (Nat.le_trans (Nat.le_trans lq (Nat.le_of_lt s35)) (Nat.le_of_lt s36)) l37); simp; omega)
              refine hK.out _ _ g42 (fun hHeld => ?_)
              clear hK K hHeld hv42 h42
              (try simp only [Act.put, List.setIfInBounds_toArray, List.set_cons_zero, List.set_cons_succ])
              refine wpAnyH_take (i := 27) (v := ?v61) (opL rfl) (by kernel_rfl) (by kernel_rfl) (by kernel_rfl) (fun _ _ _ h => h) (Or.inl ⟨by rfl, ?hy61⟩) g42 ?rest61
              case hy61 => (intro w hSw; obtain ⟨q0, q1, q2⟩ := HKP.out w hSw; go_simp; try with_reducible rfl)
              (try simp only [Act.put, List.setIfInBounds_toArray, List.set_cons_zero, List.set_cons_succ])
              refine take_call (i := 28) (v := .int .i64 (minI 1000000 (IntKind.i64.wrap (o.tk + v4)))) (opL rfl) (by kernel_rfl) (by kernel_rfl) (by kernel_rfl) (fun _ _ _ h => h) ⟨by rfl, 55, #[.int .i64 1000000, .int .i64 (IntKind.i64.wrap (o.tk + v4))], ?hr62, ?hc62⟩ g42 ?rest62
              case hr62 => (intro w; go_simp; try with_reducible rfl)
              case hc62 => (intro w hSw; exact l1Least_any _ _ _)
              (try simp only [Act.put, List.setIfInBounds_toArray, List.set_cons_zero, List.set_cons_succ])
              refine wpAnyH_take (i := 29) (v := ?v63) (opL rfl) (by kernel_rfl) (by kernel_rfl) (by kernel_rfl) (fun _ _ _ h => h) (Or.inl ⟨by rfl, ?hy63⟩) g42 ?rest63
              case hy63 => (intro w hSw; obtain ⟨q0, q1, q2⟩ := HKP.out w hSw; go_simp; try with_reducible rfl)
              (try simp only [Act.put, List.setIfInBounds_toArray, List.set_cons_zero, List.set_cons_succ])
              refine wpAnyH_ready (rs := [31]) (by kernel_rfl) (by simp) ?_
              refine AllReadyH.cons (opL rfl) (fun K hK => ?_) ?_
              · skip
                have B43 := box5_of z30_42
                have B43' := Lib.hid B43
                obtain ⟨_, ⟨u0, u1, u2, u3, u4⟩, t0, t1, t2, t3, t4⟩ := B43
                go_simp
                have c43 := B43'.out.all (.int .i64 (IntKind.i64.wrap (IntKind.i64.wrap ((maxI 0 o.x).tdiv sd) * sd))) (.int .i64 (IntKind.i64.wrap (IntKind.i64.wrap ((maxI 0 o.y).tdiv sd) * sd))) (.int .i64 sd) (.int .i64 (maxI 0 (IntKind.i64.wrap (o.tk - v3)))) (.int .i64 (minI 1000000 (IntKind.i64.wrap (o.tk + v4))))
                have e43 : Below wq.heap.size x42 (((((x42.setCell ⟨x37.heap.size, 0, none⟩ (.int .i64 (IntKind.i64.wrap (IntKind.i64.wrap ((maxI 0 o.x).tdiv sd) * sd)))).setCell ⟨x37.heap.size, 1, none⟩ (.int .i64 (IntKind.i64.wrap (IntKind.i64.wrap ((maxI 0 o.y).tdiv sd) * sd)))).setCell ⟨x37.heap.size, 2, none⟩ (.int .i64 sd)).setCell ⟨x37.heap.size, 3, none⟩ (.int .i64 (maxI 0 (IntKind.i64.wrap (o.tk - v3))))).setCell ⟨x37.heap.size, 4, none⟩ (.int .i64 (minI 1000000 (IntKind.i64.wrap (o.tk + v4))))) := Below.setCell (Below.setCell (Below.setCell (Below.setCell (Below.setCell (Below.refl _ _) (p := ⟨x37.heap.size, 0, none⟩) (Nat.le_trans (Nat.le_trans (Nat.le_trans lq (Nat.le_of_lt s35)) (Nat.le_of_lt s36)) l37) _) (p := ⟨x37.heap.size, 1, none⟩) (Nat.le_trans (Nat.le_trans (Nat.le_trans lq (Nat.le_of_lt s35)) (Nat.le_of_lt s36)) l37) _) (p := ⟨x37.heap.size, 2, none⟩) (Nat.le_trans (Nat.le_trans (Nat.le_trans lq (Nat.le_of_lt s35)) (Nat.le_of_lt s36)) l37) _) (p := ⟨x37.heap.size, 3, none⟩) (Nat.le_trans (Nat.le_trans (Nat.le_trans lq (Nat.le_of_lt s35)) (Nat.le_of_lt s36)) l37) _) (p := ⟨x37.heap.size, 4, none⟩) (Nat.le_trans (Nat.le_trans (Nat.le_trans lq (Nat.le_of_lt s35)) (Nat.le_of_lt s36)) l37) _
                have d43 := HD1.out.above d42 e43
                have g43 := only_above g42 e43
                clear u0 u1 u2 u3 u4 t0 t1 t2 t3 t4 B43'
                generalize (((((x42.setCell ⟨x37.heap.size, 0, none⟩ (.int .i64 (IntKind.i64.wrap (IntKind.i64.wrap ((maxI 0 o.x).tdiv sd) * sd)))).setCell ⟨x37.heap.size, 1, none⟩ (.int .i64 (IntKind.i64.wrap (IntKind.i64.wrap ((maxI 0 o.y).tdiv sd) * sd)))).setCell ⟨x37.heap.size, 2, none⟩ (.int .i64 sd)).setCell ⟨x37.heap.size, 3, none⟩ (.int .i64 (maxI 0 (IntKind.i64.wrap (o.tk - v3))))).setCell ⟨x37.heap.size, 4, none⟩ (.int .i64 (minI 1000000 (IntKind.i64.wrap (o.tk + v4))))) = x43 at c43 d43 g43 ⊢
                refine hK.out _ _ g43 (fun hHeld => ?_)
                clear hK K hHeld
                (try simp only [Act.put, List.setIfInBounds_toArray, List.set_cons_zero, List.set_cons_succ])
                refine wpAnyH_done (by kernel_rfl) ?_ _
                go_wp2_with fail
                go_meet
                exact ⟨x37.heap.size, ⟨_, _, _, _, _⟩, rfl, (Nat.le_trans (Nat.le_trans (Nat.le_trans lq (Nat.le_of_lt s35)) (Nat.le_of_lt s36)) l37), Lib.hid c43, Lib.hid ((d43).more (by omega)), Lib.hid g43⟩
              exact AllReadyH.nil
            exact AllReadyH.nil
          exact AllReadyH.nil
        refine AllReadyH.cons (opL rfl) (fun K hK => ?_) ?_
        · skip
          go_simp
          have d44 := (d36).alloc (.cells #[.int .i64 0, .int .i64 0, .int .i64 0, .int .i64 0, .int .i64 0] 26)
          have g44 := only_alloc g36 (.cells #[.int .i64 0, .int .i64 0, .int .i64 0, .int .i64 0, .int .i64 0] 26)
          have b44 := heap_new1 x36 (.cells #[.int .i64 0, .int .i64 0, .int .i64 0, .int .i64 0, .int .i64 0] 26)
          have r18_44 := blk_alloc b36 (.cells #[.int .i64 0, .int .i64 0, .int .i64 0, .int .i64 0, .int .i64 0] 26)
          have r25_44 := blk_alloc r25_36 (.cells #[.int .i64 0, .int .i64 0, .int .i64 0, .int .i64 0, .int .i64 0] 26)
          have s44 : x36.heap.size < (x36.alloc (.cells #[.int .i64 0, .int .i64 0, .int .i64 0, .int .i64 0, .int .i64 0] 26)).heap.size := by simp
          generalize x36.alloc (.cells #[.int .i64 0, .int .i64 0, .int .i64 0, .int .i64 0, .int .i64 0] 26) = x44 at d44 g44 b44 s44 r18_44 r25_44 hK ⊢
          refine hK.out _ _ g44 (fun hHeld => ?_)
          clear hK K hHeld
          (try simp only [Act.put, List.setIfInBounds_toArray, List.set_cons_zero, List.set_cons_succ])
          refine wpAnyH_ready (rs := [19]) (by kernel_rfl) (by simp) ?_
          refine AllReadyH.cons (opL rfl) (fun K hK => ?_) ?_
          · skip
            go_simp
            refine (among_dr (w0 := w0) (A := A) (n := n) (c := c) [0, 50, 2000, 100000] 4 _ _ _ d44 (by omega) hn (RowAt.of_block encI_len r18_44 rfl) (by have := (Nat.le_trans lq (Nat.le_of_lt s35)); omega) rfl (by decide) (by decide)).mono ?_
            rintro e x45 ⟨v3, rfl, hv45, d45, h45⟩
            dsimp only
            have hb45 : 0 ≤ v3 ∧ v3 ≤ 100000 := by simp only [List.mem_cons, List.not_mem_nil, or_false] at hv45; omega
            have g45 := only_two g44 h45
            have l45 := h45.size
            have r18_45 := blk_kept r18_44 h45 (by have := (Nat.le_trans lq (Nat.le_of_lt s35)); simp; omega)
            have r25_45 := blk_kept r25_44 h45 (by have := lq; simp; omega)
            have z30_45 := blk_kept b44 h45 (by have := (Nat.le_trans (Nat.le_trans lq (Nat.le_of_lt s35)) (Nat.le_of_lt s36)); simp; omega)
            refine hK.out _ _ g45 (fun hHeld => ?_)
            clear hK K hHeld hv45 h45
            (try simp only [Act.put, List.setIfInBounds_toArray, List.set_cons_zero, List.set_cons_succ])
            refine wpAnyH_take (i := 20) (v := ?v64) (opL rfl) (by kernel_rfl) (by kernel_rfl) (by kernel_rfl) (fun _ _ _ h => h) (Or.inl ⟨by rfl, ?hy64⟩) g45 ?rest64
            case hy64 => (intro w hSw; obtain ⟨q0, q1, q2⟩ := HKP.out w hSw; go_simp; try with_reducible rfl)
            (try simp only [Act.put, List.setIfInBounds_toArray, List.set_cons_zero, List.set_cons_succ])
            refine take_call (i := 21) (v := .int .i64 (maxI 0 (IntKind.i64.wrap (o.tk - v3)))) (opL rfl) (by kernel_rfl) (by kernel_rfl) (by kernel_rfl) (fun _ _ _ h => h) ⟨by rfl, 26, #[.int .i64 0, .int .i64 (IntKind.i64.wrap (o.tk - v3))], ?hr65, ?hc65⟩ g45 ?rest65
            case hr65 => (intro w; go_simp; try with_reducible rfl)
            case hc65 => (intro w hSw; exact l1Most_any _ _ _)
            (try simp only [Act.put, List.setIfInBounds_toArray, List.set_cons_zero, List.set_cons_succ])
            refine wpAnyH_ready (rs := [26]) (by kernel_rfl) (by simp) ?_
            refine AllReadyH.cons (opL rfl) (fun K hK => ?_) ?_
            · skip
              go_simp
              refine (among_dr (w0 := w0) (A := A) (n := n) (c := c) [0, 50, 2000, 100000] 4 _ _ _ d45 (by omega) hn (RowAt.of_block encI_len r25_45 rfl) (by have := lq; omega) rfl (by decide) (by decide)).mono ?_
              rintro e x46 ⟨v4, rfl, hv46, d46, h46⟩
              dsimp only
              have hb46 : 0 ≤ v4 ∧ v4 ≤ 100000 := by simp only [List.mem_cons, List.not_mem_nil, or_false] at hv46; omega
              have g46 := only_two g45 h46
              have l46 := h46.size
              have r18_46 := blk_kept r18_45 h46 (by have := (Nat.le_trans lq (Nat.le_of_lt s35)); simp; omega)
              have r25_46 := blk_kept r25_45 h46 (by have := lq; simp; omega)
              have z30_46 := blk_kept z30_45 h46 (by have := (Nat.le_trans (Nat.le_trans lq (Nat.le_of_lt s35)) (Nat.le_of_lt s36)); simp; omega)
              refine hK.out _ _ g46 (fun hHeld => ?_)
              clear hK K hHeld hv46 h46
              (try simp only [Act.put, List.setIfInBounds_toArray, List.set_cons_zero, List.set_cons_succ])
              refine wpAnyH_take (i := 27) (v := ?v66) (opL rfl) (by kernel_rfl) (by kernel_rfl) (by kernel_rfl) (fun _ _ _ h => h) (Or.inl ⟨by rfl, ?hy66⟩) g46 ?rest66
              case hy66 => (intro w hSw; obtain ⟨q0, q1, q2⟩ := HKP.out w hSw; go_simp; try with_reducible rfl)
              (try simp only [Act.put, List.setIfInBounds_toArray, List.set_cons_zero, List.set_cons_succ])
              refine take_call (i := 28) (v := .int .i64 (minI 1000000 (IntKind.i64.wrap (o.tk + v4)))) (opL rfl) (by kernel_rfl) (by kernel_rfl) (by kernel_rfl) (fun _ _ _ h => h) ⟨by rfl, 55, #[.int .i64 1000000, .int .i64 (IntKind.i64.wrap (o.tk + v4))], ?hr67, ?hc67⟩ g46 ?rest67
              case hr67 => (intro w; go_simp; try with_reducible rfl)
              case hc67 => (intro w hSw; exact l1Least_any _ _ _)
              (try simp only [Act.put, List.setIfInBounds_toArray, List.set_cons_zero, List.set_cons_succ])
              refine wpAnyH_take (i := 29) (v := ?v68) (opL rfl) (by kernel_rfl) (by kernel_rfl) (by kernel_rfl) (fun _ _ _ h => h) (Or.inl ⟨by rfl, ?hy68⟩) g46 ?rest68
              case hy68 => (intro w hSw; obtain ⟨q0, q1, q2⟩ := HKP.out w hSw; go_simp; try with_reducible rfl)
              (try simp only [Act.put, List.setIfInBounds_toArray, List.set_cons_zero, List.set_cons_succ])
              refine wpAnyH_ready (rs := [31]) (by kernel_rfl) (by simp) ?_
              refine AllReadyH.cons (opL rfl) (fun K hK => ?_) ?_
              · skip
                have B47 := box5_of z30_46
                have B47' := Lib.hid B47
                obtain ⟨_, ⟨u0, u1, u2, u3, u4⟩, t0, t1, t2, t3, t4⟩ := B47
                go_simp
                have c47 := B47'.out.all (.int .i64 (IntKind.i64.wrap (IntKind.i64.wrap ((maxI 0 o.x).tdiv sd) * sd))) (.int .i64 (IntKind.i64.wrap (IntKind.i64.wrap ((maxI 0 o.y).tdiv sd) * sd))) (.int .i64 sd) (.int .i64 (maxI 0 (IntKind.i64.wrap (o.tk - v3)))) (.int .i64 (minI 1000000 (IntKind.i64.wrap (o.tk + v4))))
                have e47 : Below wq.heap.size x46 (((((x46.setCell ⟨x36.heap.size, 0, none⟩ (.int .i64 (IntKind.i64.wrap (IntKind.i64.wrap ((maxI 0 o.x).tdiv sd) * sd)))).setCell ⟨x36.heap.size, 1, none⟩ (.int .i64 (IntKind.i64.wrap (IntKind.i64.wrap ((maxI 0 o.y).tdiv sd) * sd)))).setCell ⟨x36.heap.size, 2, none⟩ (.int .i64 sd)).setCell ⟨x36.heap.size, 3, none⟩ (.int .i64 (maxI 0 (IntKind.i64.wrap (o.tk - v3))))).setCell ⟨x36.heap.size, 4, none⟩ (.int .i64 (minI 1000000 (IntKind.i64.wrap (o.tk + v4))))) := Below.setCell (Below.setCell (Below.setCell (Below.setCell (Below.setCell (Below.refl _ _) (p := ⟨x36.heap.size, 0, none⟩) (Nat.le_trans (Nat.le_trans lq (Nat.le_of_lt s35)) (Nat.le_of_lt s36)) _) (p := ⟨x36.heap.size, 1, none⟩) (Nat.le_trans (Nat.le_trans lq (Nat.le_of_lt s35)) (Nat.le_of_lt s36)) _) (p := ⟨x36.heap.size, 2, none⟩) (Nat.le_trans (Nat.le_trans lq (Nat.le_of_lt s35)) (Nat.le_of_lt s36)) _) (p := ⟨x36.heap.size, 3, none⟩) (Nat.le_trans (Nat.le_trans lq (Nat.le_of_lt s35)) (Nat.le_of_lt s36)) _) (p := ⟨x36.heap.size, 4, none⟩) (Nat.le_trans (Nat.le_trans lq (Nat.le_of_lt s35)) (Nat.le_of_lt s36)) _
                have d47 := HD1.out.above d46 e47
                have g47 := only_above g46 e47
                clear u0 u1 u2 u3 u4 t0 t1 t2 t3 t4 B47'
                generalize (((((x46.setCell ⟨x36.heap.size, 0, none⟩ (.int .i64 (IntKind.i64.wrap (IntKind.i64.wrap ((maxI 0 o.x).tdiv sd) * sd)))).setCell ⟨x36.heap.size, 1, none⟩ (.int .i64 (IntKind.i64.wrap (IntKind.i64.wrap ((maxI 0 o.y).tdiv sd) * sd)))).setCell ⟨x36.heap.size, 2, none⟩ (.int .i64 sd)).setCell ⟨x36.heap.size, 3, none⟩ (.int .i64 (maxI 0 (IntKind.i64.wrap (o.tk - v3))))).setCell ⟨x36.heap.size, 4, none⟩ (.int .i64 (minI 1000000 (IntKind.i64.wrap (o.tk + v4))))) = x47 at c47 d47 g47 ⊢
                refine hK.out _ _ g47 (fun hHeld => ?_)
                clear hK K hHeld
                (try simp only [Act.put, List.setIfInBounds_toArray, List.set_cons_zero, List.set_cons_succ])
                refine wpAnyH_done (by kernel_rfl) ?_ _
                go_wp2_with fail
                go_meet
                exact ⟨x36.heap.size, ⟨_, _, _, _, _⟩, rfl, (Nat.le_trans (Nat.le_trans lq (Nat.le_of_lt s35)) (Nat.le_of_lt s36)), Lib.hid c47, Lib.hid ((d47).more (by omega)), Lib.hid g47⟩
              exact AllReadyH.nil
            exact AllReadyH.nil
          exact AllReadyH.nil
        exact AllReadyH.nil
      refine AllReadyH.cons (opL rfl) (fun K hK => ?_) ?_
      · skip
        go_simp
        have d48 := (d35).alloc (.cells #[.int .i64 0, .int .i64 0, .int .i64 0, .int .i64 0, .int .i64 0] 26)
        have g48 := only_alloc g35 (.cells #[.int .i64 0, .int .i64 0, .int .i64 0, .int .i64 0, .int .i64 0] 26)
        have b48 := heap_new1 x35 (.cells #[.int .i64 0, .int .i64 0, .int .i64 0, .int .i64 0, .int .i64 0] 26)
        have r25_48 := blk_alloc b35 (.cells #[.int .i64 0, .int .i64 0, .int .i64 0, .int .i64 0, .int .i64 0] 26)
        have s48 : x35.heap.size < (x35.alloc (.cells #[.int .i64 0, .int .i64 0, .int .i64 0, .int .i64 0, .int .i64 0] 26)).heap.size := by simp
        generalize x35.alloc (.cells #[.int .i64 0, .int .i64 0, .int .i64 0, .int .i64 0, .int .i64 0] 26) = x48 at d48 g48 b48 s48 r25_48 hK ⊢
        refine hK.out _ _ g48 (fun hHeld => ?_)
        clear hK K hHeld
        (try simp only [Act.put, List.setIfInBounds_toArray, List.set_cons_zero, List.set_cons_succ])
        refine wpAnyH_ready (rs := [18]) (by kernel_rfl) (by simp) ?_
        refine AllReadyH.cons (opL rfl) (fun K hK => ?_) ?_
        · skip
          go_simp
          have d49 := (d48).alloc (.cells #[.int .i64 0, .int .i64 50, .int .i64 2000, .int .i64 100000] 3)
          have g49 := only_alloc g48 (.cells #[.int .i64 0, .int .i64 50, .int .i64 2000, .int .i64 100000] 3)
          have b49 := heap_new1 x48 (.cells #[.int .i64 0, .int .i64 50, .int .i64 2000, .int .i64 100000] 3)
          have r25_49 := blk_alloc r25_48 (.cells #[.int .i64 0, .int .i64 50, .int .i64 2000, .int .i64 100000] 3)
          have z30_49 := blk_alloc b48 (.cells #[.int .i64 0, .int .i64 50, .int .i64 2000, .int .i64 100000] 3)
          have s49 : x48.heap.size < (x48.alloc (.cells #[.int .i64 0, .int .i64 50, .int .i64 2000, .int .i64 100000] 3)).heap.size := by simp
          generalize x48.alloc (.cells #[.int .i64 0, .int .i64 50, .int .i64 2000, .int .i64 100000] 3) = x49 at d49 g49 b49 s49 r25_49 z30_49 hK ⊢
          refine hK.out _ _ g49 (fun hHeld => ?_)
          clear hK K hHeld
          (try simp only [Act.put, List.setIfInBounds_toArray, List.set_cons_zero, List.set_cons_succ])
          refine wpAnyH_ready (rs := [19]) (by kernel_rfl) (by simp) ?_
          refine AllReadyH.cons (opL rfl) (fun K hK => ?_) ?_
          · skip
            go_simp
            refine (among_dr (w0 := w0) (A := A) (n := n) (c := c) [0, 50, 2000, 100000] 4 _ _ _ d49 (by omega) hn (RowAt.of_block encI_len b49 rfl) (by have := (Nat.le_trans (Nat.le_trans lq (Nat.le_of_lt s35)) (Nat.le_of_lt s48)); omega) rfl (by decide) (by decide)).mono ?_
            rintro e x50 ⟨v3, rfl, hv50, d50, h50⟩
            dsimp only
            have hb50 : 0 ≤ v3 ∧ v3 ≤ 100000 := by simp only [List.mem_cons, List.not_mem_nil, or_false] at hv50; omega
            have g50 := only_two g49 h50
            have l50 := h50.size
            have r18_50 := blk_kept b49 h50 (by have := (Nat.le_trans (Nat.le_trans lq (Nat.le_of_lt s35)) (Nat.le_of_lt s48)); simp; omega)
            have r25_50 := blk_kept r25_49 h50 (by have := lq; simp; omega)
            have z30_50 := blk_kept z30_49 h50 (by have := (Nat.le_trans lq (Nat.le_of_lt s35)); simp; omega)
            refine hK.out _ _ g50 (fun hHeld => ?_)
            clear hK K hHeld hv50 h50
            (try simp only [Act.put, List.setIfInBounds_toArray, List.set_cons_zero, List.set_cons_succ])
            refine wpAnyH_take (i := 20) (v := ?v69) (opL rfl) (by kernel_rfl) (by kernel_rfl) (by kernel_rfl) (fun _ _ _ h => h) (Or.inl ⟨by rfl, ?hy69⟩) g50 ?rest69
            case hy69 => (intro w hSw; obtain ⟨q0, q1, q2⟩ := HKP.out w hSw; go_simp; try with_reducible rfl)
            (try simp only [Act.put, List.setIfInBounds_toArray, List.set_cons_zero, List.set_cons_succ])
            refine take_call (i := 21) (v := .int .i64 (maxI 0 (IntKind.i64.wrap (o.tk - v3)))) (opL rfl) (by kernel_rfl) (by kernel_rfl) (by kernel_rfl) (fun _ _ _ h => h) ⟨by rfl, 26, #[.int .i64 0, .int .i64 (IntKind.i64.wrap (o.tk - v3))], ?hr70, ?hc70⟩ g50 ?rest70
            case hr70 => (intro w; go_simp; try with_reducible rfl)
            case hc70 => (intro w hSw; exact l1Most_any _ _ _)
            (try simp only [Act.put, List.setIfInBounds_toArray, List.set_cons_zero, List.set_cons_succ])
            refine wpAnyH_ready (rs := [26]) (by kernel_rfl) (by simp) ?_
            refine AllReadyH.cons (opL rfl) (fun K hK => ?_) ?_
            · skip
              go_simp
              refine (among_dr (w0 := w0) (A := A) (n := n) (c := c) [0, 50, 2000, 100000] 4 _ _ _ d50 (by omega) hn (RowAt.of_block encI_len r25_50 rfl) (by have := lq; omega) rfl (by decide) (by decide)).mono ?_
              rintro e x51 ⟨v4, rfl, hv51, d51, h51⟩
              dsimp only
              have hb51 : 0 ≤ v4 ∧ v4 ≤ 100000 := by simp only [List.mem_cons, List.not_mem_nil, or_false] at hv51; omega
              have g51 := only_two g50 h51
              have l51 := h51.size
              have r18_51 := blk_kept r18_50 h51 (by have := (Nat.le_trans (Nat.le_trans lq (Nat.le_of_lt s35)) (Nat.le_of_lt s48)); simp; omega)
              have r25_51 := blk_kept r25_50 h51 (by have := lq; simp; omega)
              have z30_51 := blk_kept z30_50 h51 (by have := (Nat.le_trans lq (Nat.le_of_lt s35)); simp; omega)
              refine hK.out _ _ g51 (fun hHeld => ?_)
              clear hK K hHeld hv51 h51
              (try simp only [Act.put, List.setIfInBounds_toArray, List.set_cons_zero, List.set_cons_succ])
              refine wpAnyH_take (i := 27) (v := ?v71) (opL rfl) (by kernel_rfl) (by kernel_rfl) (by kernel_rfl) (fun _ _ _ h => h) (Or.inl ⟨by rfl, ?hy71⟩) g51 ?rest71
              case hy71 => (intro w hSw; obtain ⟨q0, q1, q2⟩ := HKP.out w hSw; go_simp; try with_reducible rfl)
              (try simp only [Act.put, List.setIfInBounds_toArray, List.set_cons_zero, List.set_cons_succ])
              refine take_call (i := 28) (v := .int .i64 (minI 1000000 (IntKind.i64.wrap (o.tk + v4)))) (opL rfl) (by kernel_rfl) (by kernel_rfl) (by kernel_rfl) (fun _ _ _ h => h) ⟨by rfl, 55, #[.int .i64 1000000, .int .i64 (IntKind.i64.wrap (o.tk + v4))], ?hr72, ?hc72⟩ g51 ?rest72
              case hr72 => (intro w; go_simp; try with_reducible rfl)
              case hc72 => (intro w hSw; exact l1Least_any _ _ _)
              (try simp only [Act.put, List.setIfInBounds_toArray, List.set_cons_zero, List.set_cons_succ])
              refine wpAnyH_take (i := 29) (v := ?v73) (opL rfl) (by kernel_rfl) (by kernel_rfl) (by kernel_rfl) (fun _ _ _ h => h) (Or.inl ⟨by rfl, ?hy73⟩) g51 ?rest73
              case hy73 => (intro w hSw; obtain ⟨q0, q1, q2⟩ := HKP.out w hSw; go_simp; try with_reducible rfl)
              (try simp only [Act.put, List.setIfInBounds_toArray, List.set_cons_zero, List.set_cons_succ])
              refine wpAnyH_ready (rs := [31]) (by kernel_rfl) (by simp) ?_
              refine AllReadyH.cons (opL rfl) (fun K hK => ?_) ?_
              · skip
                have B52 := box5_of z30_51
                have B52' := Lib.hid B52
                obtain ⟨_, ⟨u0, u1, u2, u3, u4⟩, t0, t1, t2, t3, t4⟩ := B52
                go_simp
                have c52 := B52'.out.all (.int .i64 (IntKind.i64.wrap (IntKind.i64.wrap ((maxI 0 o.x).tdiv sd) * sd))) (.int .i64 (IntKind.i64.wrap (IntKind.i64.wrap ((maxI 0 o.y).tdiv sd) * sd))) (.int .i64 sd) (.int .i64 (maxI 0 (IntKind.i64.wrap (o.tk - v3)))) (.int .i64 (minI 1000000 (IntKind.i64.wrap (o.tk + v4))))
                have e52 : Below wq.heap.size x51 (((((x51.setCell ⟨x35.heap.size, 0, none⟩ (.int .i64 (IntKind.i64.wrap (IntKind.i64.wrap ((maxI 0 o.x).tdiv sd) * sd)))).setCell ⟨x35.heap.size, 1, none⟩ (.int .i64 (IntKind.i64.wrap (IntKind.i64.wrap ((maxI 0 o.y).tdiv sd) * sd)))).setCell ⟨x35.heap.size, 2, none⟩ (.int .i64 sd)).setCell ⟨x35.heap.size, 3, none⟩ (.int .i64 (maxI 0 (IntKind.i64.wrap (o.tk - v3))))).setCell ⟨x35.heap.size, 4, none⟩ (.int .i64 (minI 1000000 (IntKind.i64.wrap (o.tk + v4))))) := Below.setCell (Below.setCell (Below.setCell (Below.setCell (Below.setCell (Below.refl _ _) (p := ⟨x35.heap.size, 0, none⟩) (Nat.le_trans lq (Nat.le_of_lt s35)) _) (p := ⟨x35.heap.size, 1, none⟩) (Nat.le_trans lq (Nat.le_of_lt s35)) _) (p := ⟨x35.heap.size, 2, none⟩) (Nat.le_trans lq (Nat.le_of_lt s35)) _) (p := ⟨x35.heap.size, 3, none⟩) (Nat.le_trans lq (Nat.le_of_lt s35)) _) (p := ⟨x35.heap.size, 4, none⟩) (Nat.le_trans lq (Nat.le_of_lt s35)) _
                have d52 := HD1.out.above d51 e52
                have g52 := only_above g51 e52
                clear u0 u1 u2 u3 u4 t0 t1 t2 t3 t4 B52'
                generalize (((((x51.setCell ⟨x35.heap.size, 0, none⟩ (.int .i64 (IntKind.i64.wrap (IntKind.i64.wrap ((maxI 0 o.x).tdiv sd) * sd)))).setCell ⟨x35.heap.size, 1, none⟩ (.int .i64 (IntKind.i64.wrap (IntKind.i64.wrap ((maxI 0 o.y).tdiv sd) * sd)))).setCell ⟨x35.heap.size, 2, none⟩ (.int .i64 sd)).setCell ⟨x35.heap.size, 3, none⟩ (.int .i64 (maxI 0 (IntKind.i64.wrap (o.tk - v3))))).setCell ⟨x35.heap.size, 4, none⟩ (.int .i64 (minI 1000000 (IntKind.i64.wrap (o.tk + v4))))) = x52 at c52 d52 g52 ⊢
                refine hK.out _ _ g52 (fun hHeld => ?_)
                clear hK K hHeld
                (try simp only [Act.put, List.setIfInBounds_toArray, List.set_cons_zero, List.set_cons_succ])
                refine wpAnyH_done (by kernel_rfl) ?_ _
                go_wp2_with fail
                go_meet
                exact ⟨x35.heap.size, ⟨_, _, _, _, _⟩, rfl, (Nat.le_trans lq (Nat.le_of_lt s35)), Lib.hid c52, Lib.hid ((d52).more (by omega)), Lib.hid g52⟩
              exact AllReadyH.nil
            exact AllReadyH.nil
          exact AllReadyH.nil
        exact AllReadyH.nil
      exact AllReadyH.nil
    refine AllReadyH.cons (opL rfl) (fun K hK => ?_) ?_
    · skip
      go_simp
      have d53 := (dq).alloc (.cells #[.int .i64 0, .int .i64 0, .int .i64 0, .int .i64 0, .int .i64 0] 26)
      have g53 := only_alloc hHeld (.cells #[.int .i64 0, .int .i64 0, .int .i64 0, .int .i64 0, .int .i64 0] 26)
      have b53 := heap_new1 x0 (.cells #[.int .i64 0, .int .i64 0, .int .i64 0, .int .i64 0, .int .i64 0] 26)
      have s53 : x0.heap.size < (x0.alloc (.cells #[.int .i64 0, .int .i64 0, .int .i64 0, .int .i64 0, .int .i64 0] 26)).heap.size := by simp
      generalize x0.alloc (.cells #[.int .i64 0, .int .i64 0, .int .i64 0, .int .i64 0, .int .i64 0] 26) = x53 at d53 g53 b53 s53  hK ⊢
      refine hK.out _ _ g53 (fun hHeld => ?_)
      clear hK K hHeld
      (try simp only [Act.put, List.setIfInBounds_toArray, List.set_cons_zero, List.set_cons_succ])
      refine wpAnyH_ready (rs := [18, 25]) (by kernel_rfl) (by simp) ?_
      refine AllReadyH.cons (opL rfl) (fun K hK => ?_) ?_
      · skip
        go_simp
        have d54 := (d53).alloc (.cells #[.int .i64 0, .int .i64 50, .int .i64 2000, .int .i64 100000] 3)
        have g54 := only_alloc g53 (.cells #[.int .i64 0, .int .i64 50, .int .i64 2000, .int .i64 100000] 3)
        have b54 := heap_new1 x53 (.cells #[.int .i64 0, .int .i64 50, .int .i64 2000, .int .i64 100000] 3)
        have z30_54 := blk_alloc b53 (.cells #[.int .i64 0, .int .i64 50, .int .i64 2000, .int .i64 100000] 3)
        have s54 : x53.heap.size < (x53.alloc (.cells #[.int .i64 0, .int .i64 50, .int .i64 2000, .int .i64 100000] 3)).heap.size := by simp
        generalize x53.alloc (.cells #[.int .i64 0, .int .i64 50, .int .i64 2000, .int .i64 100000] 3) = x54 at d54 g54 b54 s54 z30_54 hK ⊢
        refine hK.out _ _ g54 (fun hHeld => ?_)
        clear hK K hHeld
        (try simp only [Act.put, List.setIfInBounds_toArray, List.set_cons_zero, List.set_cons_succ])
        refine wpAnyH_ready (rs := [19, 25]) (by kernel_rfl) (by simp) ?_
        refine AllReadyH.cons (opL rfl) (fun K hK => ?_) ?_
        · skip
          go_simp
          refine (among_dr (w0 := w0) (A := A) (n := n) (c := c) [0, 50, 2000, 100000] 4 _ _ _ d54 (by omega) hn (RowAt.of_block encI_len b54 rfl) (by have := (Nat.le_trans lq (Nat.le_of_lt s53)); omega) rfl (by decide) (by decide)).mono ?_
          rintro e x55 ⟨v3, rfl, hv55, d55, h55⟩
          dsimp only
          have hb55 : 0 ≤ v3 ∧ v3 ≤ 100000 := by simp only [List.mem_cons, List.not_mem_nil, or_false] at hv55; omega
          have g55 := only_two g54 h55
          have l55 := h55.size
          have r18_55 := blk_kept b54 h55 (by have := (Nat.le_trans lq (Nat.le_of_lt s53)); simp; omega)
          have z30_55 := blk_kept z30_54 h55 (by have := lq; simp; omega)
          refine hK.out _ _ g55 (fun hHeld => ?_)
          clear hK K hHeld hv55 h55
          (try simp only [Act.put, List.setIfInBounds_toArray, List.set_cons_zero, List.set_cons_succ])
          refine wpAnyH_take (i := 20) (v := ?v74) (opL rfl) (by kernel_rfl) (by kernel_rfl) (by kernel_rfl) (fun _ _ _ h => h) (Or.inl ⟨by rfl, ?hy74⟩) g55 ?rest74
          case hy74 => (intro w hSw; obtain ⟨q0, q1, q2⟩ := HKP.out w hSw; go_simp; try with_reducible rfl)
          (try simp only [Act.put, List.setIfInBounds_toArray, List.set_cons_zero, List.set_cons_succ])
          refine take_call (i := 21) (v := .int .i64 (maxI 0 (IntKind.i64.wrap (o.tk - v3)))) (opL rfl) (by kernel_rfl) (by kernel_rfl) (by kernel_rfl) (fun _ _ _ h => h) ⟨by rfl, 26, #[.int .i64 0, .int .i64 (IntKind.i64.wrap (o.tk - v3))], ?hr75, ?hc75⟩ g55 ?rest75
          case hr75 => (intro w; go_simp; try with_reducible rfl)
          case hc75 => (intro w hSw; exact l1Most_any _ _ _)
          (try simp only [Act.put, List.setIfInBounds_toArray, List.set_cons_zero, List.set_cons_succ])
          refine wpAnyH_ready (rs := [25]) (by kernel_rfl) (by simp) ?_
          refine AllReadyH.cons (opL rfl) (fun K hK => ?_) ?_
          · skip
            go_simp
            have d56 := (d55).alloc (.cells #[.int .i64 0, .int .i64 50, .int .i64 2000, .int .i64 100000] 3)
            have g56 := only_alloc g55 (.cells #[.int .i64 0, .int .i64 50, .int .i64 2000, .int .i64 100000] 3)
            have b56 := heap_new1 x55 (.cells #[.int .i64 0, .int .i64 50, .int .i64 2000, .int .i64 100000] 3)
            have r18_56 := blk_alloc r18_55 (.cells #[.int .i64 0, .int .i64 50, .int .i64 2000, .int .i64 100000] 3)
            have z30_56 := blk_alloc z30_55 (.cells #[.int .i64 0, .int .i64 50, .int .i64 2000, .int .i64 100000] 3)
            have s56 : x55.heap.size < (x55.alloc (.cells #[.int .i64 0, .int .i64 50, .int .i64 2000, .int .i64 100000] 3)).heap.size := by simp
            generalize x55.alloc (.cells #[.int .i64 0, .int .i64 50, .int .i64 2000, .int .i64 100000] 3) = x56 at d56 g56 b56 s56 r18_56 z30_56 hK ⊢
            refine hK.out _ _ g56 (fun hHeld => ?_)
            clear hK K hHeld
            (try simp only [Act.put, List.setIfInBounds_toArray, List.set_cons_zero, List.set_cons_succ])
            refine wpAnyH_ready (rs := [26]) (by kernel_rfl) (by simp) ?_
            refine AllReadyH.cons (opL rfl) (fun K hK => ?_) ?_
            · skip
              go_simp
              refine (among_dr (w0 := w0) (A := A) (n := n) (c := c) [0, 50, 2000, 100000] 4 _ _ _ d56 (by omega) hn (RowAt.of_block encI_len b56 rfl) (by have := (Nat.le_trans (Nat.le_trans (Nat.le_trans lq (Nat.le_of_lt s53)) (Nat.le_of_lt s54)) l55); omega) rfl (by decide) (by decide)).mono ?_
              rintro e x57 ⟨v4, rfl, hv57, d57, h57⟩
              dsimp only
              have hb57 : 0 ≤ v4 ∧ v4 ≤ 100000 := by simp only [List.mem_cons, List.not_mem_nil, or_false] at hv57; omega
              have g57 := only_two g56 h57
              have l57 := h57.size
              have r18_57 := blk_kept r18_56 h57 (by have := (Nat.le_trans lq (Nat.le_of_lt s53)); simp; omega)
              have r25_57 := blk_kept b56 h57 (by have := (Nat.le_trans (Nat.le_trans (Nat.le_trans lq (Nat.le_of_lt s53)) (Nat.le_of_lt s54)) l55); simp; omega)
              have z30_57 := blk_kept z30_56 h57 (by have := lq; simp; omega)
              refine hK.out _ _ g57 (fun hHeld => ?_)
              clear hK K hHeld hv57 h57
              (try simp only [Act.put, List.setIfInBounds_toArray, List.set_cons_zero, List.set_cons_succ])
              refine wpAnyH_take (i := 27) (v := ?v76) (opL rfl) (by kernel_rfl) (by kernel_rfl) (by kernel_rfl) (fun _ _ _ h => h) (Or.inl ⟨by rfl, ?hy76⟩) g57 ?rest76
              case hy76 => (intro w hSw; obtain ⟨q0, q1, q2⟩ := HKP.out w hSw; go_simp; try with_reducible rfl)
              (try simp only [Act.put, List.setIfInBounds_toArray, List.set_cons_zero, List.set_cons_succ])
              refine take_call (i := 28) (v := .int .i64 (minI 1000000 (IntKind.i64.wrap (o.tk + v4)))) (opL rfl) (by kernel_rfl) (by kernel_rfl) (by kernel_rfl) (fun _ _ _ h => h) ⟨by rfl, 55, #[.int .i64 1000000, .int .i64 (IntKind.i64.wrap (o.tk + v4))], ?hr77, ?hc77⟩ g57 ?rest77
              case hr77 => (intro w; go_simp; try with_reducible rfl)
              case hc77 => (intro w hSw; exact l1Least_any _ _ _)
              (try simp only [Act.put, List.setIfInBounds_toArray, List.set_cons_zero, List.set_cons_succ])
              refine wpAnyH_take (i := 29) (v := ?v78) (opL rfl) (by kernel_rfl) (by kernel_rfl) (by kernel_rfl) (fun _ _ _ h => h) (Or.inl ⟨by rfl, ?hy78⟩) g57 ?rest78
              case hy78 => (intro w hSw; obtain ⟨q0, q1, q2⟩ := HKP.out w hSw; go_simp; try with_reducible rfl)
              (try simp only [Act.put, List.setIfInBounds_toArray, List.set_cons_zero, List.set_cons_succ])
              refine wpAnyH_ready (rs := [31]) (by kernel_rfl) (by simp) ?_
              refine AllReadyH.cons (opL rfl) (fun K hK => ?_) ?_
              · skip
                have B58 := box5_of z30_57
                have B58' := Lib.hid B58
                obtain ⟨_, ⟨u0, u1, u2, u3, u4⟩, t0, t1, t2, t3, t4⟩ := B58
                go_simp
                have c58 := B58'.out.all (.int .i64 (IntKind.i64.wrap (IntKind.i64.wrap ((maxI 0 o.x).tdiv sd) * sd))) (.int .i64 (IntKind.i64.wrap (IntKind.i64.wrap ((maxI 0 o.y).tdiv sd) * sd))) (.int .i64 sd) (.int .i64 (maxI 0 (IntKind.i64.wrap (o.tk - v3)))) (.int .i64 (minI 1000000 (IntKind.i64.wrap (o.tk + v4))))
                have e58 : Below wq.heap.size x57 (((((x57.setCell ⟨x0.heap.size, 0, none⟩ (.int .i64 (IntKind.i64.wrap (IntKind.i64.wrap ((maxI 0 o.x).tdiv sd) * sd)))).setCell ⟨x0.heap.size, 1, none⟩ (.int .i64 (IntKind.i64.wrap (IntKind.i64.wrap ((maxI 0 o.y).tdiv sd) * sd)))).setCell ⟨x0.heap.size, 2, none⟩ (.int .i64 sd)).setCell ⟨x0.heap.size, 3, none⟩ (.int .i64 (maxI 0 (IntKind.i64.wrap (o.tk - v3))))).setCell ⟨x0.heap.size, 4, none⟩ (.int .i64 (minI 1000000 (IntKind.i64.wrap (o.tk + v4))))) := Below.setCell (Below.setCell (Below.setCell (Below.setCell (Below.setCell (Below.refl _ _) (p := ⟨x0.heap.size, 0, none⟩) lq _) (p := ⟨x0.heap.size, 1, none⟩) lq _) (p := ⟨x0.heap.size, 2, none⟩) lq _) (p := ⟨x0.heap.size, 3, none⟩) lq _) (p := ⟨x0.heap.size, 4, none⟩) lq _
                have d58 := HD1.out.above d57 e58
                have g58 := only_above g57 e58
                clear u0 u1 u2 u3 u4 t0 t1 t2 t3 t4 B58'
                generalize (((((x57.setCell ⟨x0.heap.size, 0, none⟩ (.int .i64 (IntKind.i64.wrap (IntKind.i64.wrap ((maxI 0 o.x).tdiv sd) * sd)))).setCell ⟨x0.heap.size, 1, none⟩ (.int .i64 (IntKind.i64.wrap (IntKind.i64.wrap ((maxI 0 o.y).tdiv sd) * sd)))).setCell ⟨x0.heap.size, 2, none⟩ (.int .i64 sd)).setCell ⟨x0.heap.size, 3, none⟩ (.int .i64 (maxI 0 (IntKind.i64.wrap (o.tk - v3))))).setCell ⟨x0.heap.size, 4, none⟩ (.int .i64 (minI 1000000 (IntKind.i64.wrap (o.tk + v4))))) = x58 at c58 d58 g58 ⊢
                refine hK.out _ _ g58 (fun hHeld => ?_)
                clear hK K hHeld
                (try simp only [Act.put, List.setIfInBounds_toArray, List.set_cons_zero, List.set_cons_succ])
                refine wpAnyH_done (by kernel_rfl) ?_ _
                go_wp2_with fail
                go_meet
                exact ⟨x0.heap.size, ⟨_, _, _, _, _⟩, rfl, lq, Lib.hid c58, Lib.hid ((d58).more (by omega)), Lib.hid g58⟩
              exact AllReadyH.nil
            exact AllReadyH.nil
          exact AllReadyH.nil
        refine AllReadyH.cons (opL rfl) (fun K hK => ?_) ?_
        · skip
          go_simp
          have d59 := (d54).alloc (.cells #[.int .i64 0, .int .i64 50, .int .i64 2000, .int .i64 100000] 3)
          have g59 := only_alloc g54 (.cells #[.int .i64 0, .int .i64 50, .int .i64 2000, .int .i64 100000] 3)
          have b59 := heap_new1 x54 (.cells #[.int .i64 0, .int .i64 50, .int .i64 2000, .int .i64 100000] 3)
          have r18_59 := blk_alloc b54 (.cells #[.int .i64 0, .int .i64 50, .int .i64 2000, .int .i64 100000] 3)
          have z30_59 := blk_alloc z30_54 (.cells #[.int .i64 0, .int .i64 50, .int .i64 2000, .int .i64 100000] 3)
          have s59 : x54.heap.size < (x54.alloc (.cells #[.int .i64 0, .int .i64 50, .int .i64 2000, .int .i64 100000] 3)).heap.size := by simp
          generalize x54.alloc (.cells #[.int .i64 0, .int .i64 50, .int .i64 2000, .int .i64 100000] 3) = x59 at d59 g59 b59 s59 r18_59 z30_59 hK ⊢
          refine hK.out _ _ g59 (fun hHeld => ?_)
          clear hK K hHeld
          (try simp only [Act.put, List.setIfInBounds_toArray, List.set_cons_zero, List.set_cons_succ])
          refine wpAnyH_ready (rs := [19]) (by kernel_rfl) (by simp) ?_
          refine AllReadyH.cons (opL rfl) (fun K hK => ?_) ?_
          · skip
            go_simp
            refine (among_dr (w0 := w0) (A := A) (n := n) (c := c) [0, 50, 2000, 100000] 4 _ _ _ d59 (by omega) hn (RowAt.of_block encI_len r18_59 rfl) (by have := (Nat.le_trans lq (Nat.le_of_lt s53)); omega) rfl (by decide) (by decide)).mono ?_
            rintro e x60 ⟨v3, rfl, hv60, d60, h60⟩
            dsimp only
            have hb60 : 0 ≤ v3 ∧ v3 ≤ 100000 := by simp only [List.mem_cons, List.not_mem_nil, or_false] at hv60; omega
            have g60 := only_two g59 h60
            have l60 := h60.size
            have r18_60 := blk_kept r18_59 h60 (by have := (Nat.le_trans lq (Nat.le_of_lt s53)); simp; omega)
            have r25_60 := blk_kept b59 h60 (by have := (Nat.le_trans (Nat.le_trans lq (Nat.le_of_lt s53)) (Nat.le_of_lt s54)); simp; omega)
            have z30_60 := blk_kept z30_59 h60 (by have := lq; simp; omega)
            refine hK.out _ _ g60 (fun hHeld => ?_)
            clear hK K hHeld hv60 h60
            (try simp only [Act.put, List.setIfInBounds_toArray, List.set_cons_zero, List.set_cons_succ])
            refine wpAnyH_take (i := 20) (v := ?v79) (opL rfl) (by kernel_rfl) (by kernel_rfl) (by kernel_rfl) (fun _ _ _ h => h) (Or.inl ⟨by rfl, ?hy79⟩) g60 ?rest79
            case hy79 => (intro w hSw; obtain ⟨q0, q1, q2⟩ := HKP.out w hSw; go_simp; try with_reducible rfl)
            (try simp only [Act.put, List.setIfInBounds_toArray, List.set_cons_zero, List.set_cons_succ])
            refine take_call (i := 21) (v := .int .i64 (maxI 0 (IntKind.i64.wrap (o.tk - v3)))) (opL rfl) (by kernel_rfl) (by kernel_rfl) (by kernel_rfl) (fun _ _ _ h => h) ⟨by rfl, 26, #[.int .i64 0, .int .i64 (IntKind.i64.wrap (o.tk - v3))], ?hr80, ?hc80⟩ g60 ?rest80
            case hr80 => (intro w; go_simp; try with_reducible rfl)
            case hc80 => (intro w hSw; exact l1Most_any _ _ _)
            (try simp only [Act.put, List.setIfInBounds_toArray, List.set_cons_zero, List.set_cons_succ])
            refine wpAnyH_ready (rs := [26]) (by kernel_rfl) (by simp) ?_
            refine AllReadyH.cons (opL rfl) (fun K hK => ?_) ?_
            · skip
              go_simp
              refine (among_dr (w0 := w0) (A := A) (n := n) (c := c) [0, 50, 2000, 100000] 4 _ _ _ d60 (by omega) hn (RowAt.of_block encI_len r25_60 rfl) (by have := (Nat.le_trans (Nat.le_trans lq (Nat.le_of_lt s53)) (Nat.le_of_lt s54)); omega) rfl (by decide) (by decide)).mono ?_
              rintro e x61 ⟨v4, rfl, hv61, d61, h61⟩
              dsimp only
              have hb61 : 0 ≤ v4 ∧ v4 ≤ 100000 := by simp only [List.mem_cons, List.not_mem_nil, or_false] at hv61; omega
              have g61 := only_two g60 h61
              have l61 := h61.size
              have r18_61 := blk_kept r18_60 h61 (by have := (Nat.le_trans lq (Nat.le_of_lt s53)); simp; omega)
              have r25_61 := blk_kept r25_60 h61 (by have := (Nat.le_trans (Nat.le_trans lq (Nat.le_of_lt s53)) (Nat.le_of_lt s54)); simp; omega)
              have z30_61 := blk_kept z30_60 h61 (by have := lq; simp; omega)
              refine hK.out _ _ g61 (fun hHeld => ?_)
              clear hK K hHeld hv61 h61
              (try simp only [Act.put, List.setIfInBounds_toArray, List.set_cons_zero, List.set_cons_succ])
              refine wpAnyH_take (i := 27) (v := ?v81) (opL rfl) (by kernel_rfl) (by kernel_rfl) (by kernel_rfl) (fun _ _ _ h => h) (Or.inl ⟨by rfl, ?hy81⟩) g61 ?rest81
              case hy81 => (intro w hSw; obtain ⟨q0, q1, q2⟩ := HKP.out w hSw; go_simp; try with_reducible rfl)
              (try simp only [Act.put, List.setIfInBounds_toArray, List.set_cons_zero, List.set_cons_succ])
              refine take_call (i := 28) (v := .int .i64 (minI 1000000 (IntKind.i64.wrap (o.tk + v4)))) (opL rfl) (by kernel_rfl) (by kernel_rfl) (by kernel_rfl) (fun _ _ _ h => h) ⟨by rfl, 55, #[.int .i64 1000000, .int .i64 (IntKind.i64.wrap (o.tk + v4))], ?hr82, ?hc82⟩ g61 ?rest82
              case hr82 => (intro w; go_simp; try with_reducible rfl)
              case hc82 => (intro w hSw; exact l1Least_any _ _ _)
              (try simp only [Act.put, List.setIfInBounds_toArray, List.set_cons_zero, List.set_cons_succ])
              refine wpAnyH_take (i := 29) (v := ?v83) (opL rfl) (by kernel_rfl) (by kernel_rfl) (by kernel_rfl) (fun _ _ _ h => h) (Or.inl ⟨by rfl, ?hy83⟩) g61 ?rest83
              case hy83 => (intro w hSw; obtain ⟨q0, q1, q2⟩ := HKP.out w hSw; go_simp; try with_reducible rfl)
              (try simp only [Act.put, List.setIfInBounds_toArray, List.set_cons_zero, List.set_cons_succ])
              refine wpAnyH_ready (rs := [31]) (by kernel_rfl) (by simp) ?_
              refine AllReadyH.cons (opL rfl) (fun K hK => ?_) ?_
              · skip
                have B62 := box5_of z30_61
                have B62' := Lib.hid B62
                obtain ⟨_, ⟨u0, u1, u2, u3, u4⟩, t0, t1, t2, t3, t4⟩ := B62
                go_simp
                have c62 := B62'.out.all (.int .i64 (IntKind.i64.wrap (IntKind.i64.wrap ((maxI 0 o.x).tdiv sd) * sd))) (.int .i64 (IntKind.i64.wrap (IntKind.i64.wrap ((maxI 0 o.y).tdiv sd) * sd))) (.int .i64 sd) (.int .i64 (maxI 0 (IntKind.i64.wrap (o.tk - v3)))) (.int .i64 (minI 1000000 (IntKind.i64.wrap (o.tk + v4))))
                have e62 : Below wq.heap.size x61 (((((x61.setCell ⟨x0.heap.size, 0, none⟩ (.int .i64 (IntKind.i64.wrap (IntKind.i64.wrap ((maxI 0 o.x).tdiv sd) * sd)))).setCell ⟨x0.heap.size, 1, none⟩ (.int .i64 (IntKind.i64.wrap (IntKind.i64.wrap ((maxI 0 o.y).tdiv sd) * sd)))).setCell ⟨x0.heap.size, 2, none⟩ (.int .i64 sd)).setCell ⟨x0.heap.size, 3, none⟩ (.int .i64 (maxI 0 (IntKind.i64.wrap (o.tk - v3))))).setCell ⟨x0.heap.size, 4, none⟩ (.int .i64 (minI 1000000 (IntKind.i64.wrap (o.tk + v4))))) := Below.setCell (Below.setCell (Below.setCell (Below.setCell (Below.setCell (Below.refl _ _) (p := ⟨x0.heap.size, 0, none⟩) lq _) (p := ⟨x0.heap.size, 1, none⟩) lq _) (p := ⟨x0.heap.size, 2, none⟩) lq _) (p := ⟨x0.heap.size, 3, none⟩) lq _) (p := ⟨x0.heap.size, 4, none⟩) lq _
                have d62 := HD1.out.above d61 e62
                have g62 := only_above g61 e62
                clear u0 u1 u2 u3 u4 t0 t1 t2 t3 t4 B62'
                generalize (((((x61.setCell ⟨x0.heap.size, 0, none⟩ (.int .i64 (IntKind.i64.wrap (IntKind.i64.wrap ((maxI 0 o.x).tdiv sd) * sd)))).setCell ⟨x0.heap.size, 1, none⟩ (.int .i64 (IntKind.i64.wrap (IntKind.i64.wrap ((maxI 0 o.y).tdiv sd) * sd)))).setCell ⟨x0.heap.size, 2, none⟩ (.int .i64 sd)).setCell ⟨x0.heap.size, 3, none⟩ (.int .i64 (maxI 0 (IntKind.i64.wrap (o.tk - v3))))).setCell ⟨x0.heap.size, 4, none⟩ (.int .i64 (minI 1000000 (IntKind.i64.wrap (o.tk + v4))))) = x62 at c62 d62 g62 ⊢
                refine hK.out _ _ g62 (fun hHeld => ?_)
                clear hK K hHeld
                (try simp only [Act.put, List.setIfInBounds_toArray, List.set_cons_zero, List.set_cons_succ])
                refine wpAnyH_done (by kernel_rfl) ?_ _
                go_wp2_with fail
                go_meet
                exact ⟨x0.heap.size, ⟨_, _, _, _, _⟩, rfl, lq, Lib.hid c62, Lib.hid ((d62).more (by omega)), Lib.hid g62⟩
              exact AllReadyH.nil
            exact AllReadyH.nil
          exact AllReadyH.nil
        exact AllReadyH.nil
      refine AllReadyH.cons (opL rfl) (fun K hK => ?_) ?_
      · skip
        go_simp
        have d63 := (d53).alloc (.cells #[.int .i64 0, .int .i64 50, .int .i64 2000, .int .i64 100000] 3)
        have g63 := only_alloc g53 (.cells #[.int .i64 0, .int .i64 50, .int .i64 2000, .int .i64 100000] 3)
        have b63 := heap_new1 x53 (.cells #[.int .i64 0, .int .i64 50, .int .i64 2000, .int .i64 100000] 3)
        have z30_63 := blk_alloc b53 (.cells #[.int .i64 0, .int .i64 50, .int .i64 2000, .int .i64 100000] 3)
        have s63 : x53.heap.size < (x53.alloc (.cells #[.int .i64 0, .int .i64 50, .int .i64 2000, .int .i64 100000] 3)).heap.size := by simp
        generalize x53.alloc (.cells #[.int .i64 0, .int .i64 50, .int .i64 2000, .int .i64 100000] 3) = x63 at d63 g63 b63 s63 z30_63 hK ⊢
        refine hK.out _ _ g63 (fun hHeld => ?_)
        clear hK K hHeld
        (try simp only [Act.put, List.setIfInBounds_toArray, List.set_cons_zero, List.set_cons_succ])
        refine wpAnyH_ready (rs := [18]) (by kernel_rfl) (by simp) ?_
        refine AllReadyH.cons (opL rfl) (fun K hK => ?_) ?_
        · skip
          go_simp
          have d64 := (d63).alloc (.cells #[.int .i64 0, .int .i64 50, .int .i64 2000, .int .i64 100000] 3)
          have g64 := only_alloc g63 (.cells #[.int .i64 0, .int .i64 50, .int .i64 2000, .int .i64 100000] 3)
          have b64 := heap_new1 x63 (.cells #[.int .i64 0, .int .i64 50, .int .i64 2000, .int .i64 100000] 3)
          have r25_64 := blk_alloc b63 (.cells #[.int .i64 0, .int .i64 50, .int .i64 2000, .int .i64 100000] 3)
          have z30_64 := blk_alloc z30_63 (.cells #[.int .i64 0, .int .i64 50, .int .i64 2000, .int .i64 100000] 3)
          have s64 : x63.heap.size < (x63.alloc (.cells #[.int .i64 0, .int .i64 50, .int .i64 2000, .int .i64 100000] 3)).heap.size := by simp
          generalize x63.alloc (.cells #[.int .i64 0, .int .i64 50, .int .i64 2000, .int .i64 100000] 3) = x64 at d64 g64 b64 s64 r25_64 z30_64 hK ⊢
          refine hK.out _ _ g64 (fun hHeld => ?_)
          clear hK K hHeld
          (try simp only [Act.put, List.setIfInBounds_toArray, List.set_cons_zero, List.set_cons_succ])
          refine wpAnyH_ready (rs := [19]) (by kernel_rfl) (by simp) ?_
          refine AllReadyH.cons (opL rfl) (fun K hK => ?_) ?_
          · skip
            go_simp
            refine (among_dr (w0 := w0) (A := A) (n := n) (c := c) [0, 50, 2000, 100000] 4 _ _ _ d64 (by omega) hn (RowAt.of_block encI_len b64 rfl) (by have := (Nat.le_trans (Nat.le_trans lq (Nat.le_of_lt s53)) (Nat.le_of_lt s63)); omega) rfl (by decide) (by decide)).mono ?_
            rintro e x65 ⟨v3, rfl, hv65, d65, h65⟩
            dsimp only
            have hb65 : 0 ≤ v3 ∧ v3 ≤ 100000 := by simp only [List.mem_cons, List.not_mem_nil, or_false] at hv65; omega
            have g65 := only_two g64 h65
            have l65 := h65.size
            have r18_65 := blk_kept b64 h65 (by have := (Nat.le_trans (Nat.le_trans lq (Nat.le_of_lt s53)) (Nat.le_of_lt s63)); simp; omega)
            have r25_65 := blk_kept r25_64 h65 (by have := (Nat.le_trans lq (Nat.le_of_lt s53)); simp; omega)
            have z30_65 := blk_kept z30_64 h65 (by have := lq; simp; omega)
            refine hK.out _ _ g65 (fun hHeld => ?_)
            clear hK K hHeld hv65 h65
            (try simp only [Act.put, List.setIfInBounds_toArray, List.set_cons_zero, List.set_cons_succ])
            refine wpAnyH_take (i := 20) (v := ?v84) (opL rfl) (by kernel_rfl) (by kernel_rfl) (by kernel_rfl) (fun _ _ _ h => h) (Or.inl ⟨by rfl, ?hy84⟩) g65 ?rest84
            case hy84 => (intro w hSw; obtain ⟨q0, q1, q2⟩ := HKP.out w hSw; go_simp; try with_reducible rfl)
            (try simp only [Act.put, List.setIfInBounds_toArray, List.set_cons_zero, List.set_cons_succ])
            refine take_call (i := 21) (v := .int .i64 (maxI 0 (IntKind.i64.wrap (o.tk - v3)))) (opL rfl) (by kernel_rfl) (by kernel_rfl) (by kernel_rfl) (fun _ _ _ h => h) ⟨by rfl, 26, #[.int .i64 0, .int .i64 (IntKind.i64.wrap (o.tk - v3))], ?hr85, ?hc85⟩ g65 ?rest85
            case hr85 => (intro w; go_simp; try with_reducible rfl)
            case hc85 => (intro w hSw; exact l1Most_any _ _ _)
            (try simp only [Act.put, List.setIfInBounds_toArray, List.set_cons_zero, List.set_cons_succ])
            refine wpAnyH_ready (rs := [26]) (by kernel_rfl) (by simp) ?_
            refine AllReadyH.cons (opL rfl) (fun K hK => ?_) ?_
            · skip
              go_simp
              refine (among_dr (w0 := w0) (A := A) (n := n) (c := c) [0, 50, 2000, 100000] 4 _ _ _ d65 (by omega) hn (RowAt.of_block encI_len r25_65 rfl) (by have := (Nat.le_trans lq (Nat.le_of_lt s53)); omega) rfl (by decide) (by decide)).mono ?_
              rintro e x66 ⟨v4, rfl, hv66, d66, h66⟩
              dsimp only
              have hb66 : 0 ≤ v4 ∧ v4 ≤ 100000 := by simp only [List.mem_cons, List.not_mem_nil, or_false] at hv66; omega
              have g66 := only_two g65 h66
              have l66 := h66.size
              have r18_66 := blk_kept r18_65 h66 (by have := (Nat.le_trans (Nat.le_trans lq (Nat.le_of_lt s53)) (Nat.le_of_lt s63)); simp; omega)
              have r25_66 := blk_kept r25_65 h66 (by have := (Nat.le_trans lq (Nat.le_of_lt s53)); simp; omega)
              have z30_66 := blk_kept z30_65 h66 (by have := lq; simp; omega)
              refine hK.out _ _ g66 (fun hHeld => ?_)
              clear hK K hHeld hv66 h66
              (try simp only [Act.put, List.setIfInBounds_toArray, List.set_cons_zero, List.set_cons_succ])
              refine wpAnyH_take (i := 27) (v := ?v86) (opL rfl) (by kernel_rfl) (by kernel_rfl) (by kernel_rfl) (fun _ _ _ h => h) (Or.inl ⟨by rfl, ?hy86⟩) g66 ?rest86
              case hy86 => (intro w hSw; obtain ⟨q0, q1, q2⟩ := HKP.out w hSw; go_simp; try with_reducible rfl)
              (try simp only [Act.put, List.setIfInBounds_toArray, List.set_cons_zero, List.set_cons_succ])
              refine take_call (i := 28) (v := .int .i64 (minI 1000000 (IntKind.i64.wrap (o.tk + v4)))) (opL rfl) (by kernel_rfl) (by kernel_rfl) (by kernel_rfl) (fun _ _ _ h => h) ⟨by rfl, 55, #[.int .i64 1000000, .int .i64 (IntKind.i64.wrap (o.tk + v4))], ?hr87, ?hc87⟩ g66 ?rest87
              case hr87 => (intro w; go_simp; try with_reducible rfl)
              case hc87 => (intro w hSw; exact l1Least_any _ _ _)
              (try simp only [Act.put, List.setIfInBounds_toArray, List.set_cons_zero, List.set_cons_succ])
              refine wpAnyH_take (i := 29) (v := ?v88) (opL rfl) (by kernel_rfl) (by kernel_rfl) (by kernel_rfl) (fun _ _ _ h => h) (Or.inl ⟨by rfl, ?hy88⟩) g66 ?rest88
              case hy88 => (intro w hSw; obtain ⟨q0, q1, q2⟩ := HKP.out w hSw; go_simp; try with_reducible rfl)
              (try simp only [Act.put, List.setIfInBounds_toArray, List.set_cons_zero, List.set_cons_succ])
              refine wpAnyH_ready (rs := [31]) (by kernel_rfl) (by simp) ?_
              refine AllReadyH.cons (opL rfl) (fun K hK => ?_) ?_
              · skip
                have B67 := box5_of z30_66
                have B67' := Lib.hid B67
                obtain ⟨_, ⟨u0, u1, u2, u3, u4⟩, t0, t1, t2, t3, t4⟩ := B67
                go_simp
                have c67 := B67'.out.all (.int .i64 (IntKind.i64.wrap (IntKind.i64.wrap ((maxI 0 o.x).tdiv sd) * sd))) (.int .i64 (IntKind.i64.wrap (IntKind.i64.wrap ((maxI 0 o.y).tdiv sd) * sd))) (.int .i64 sd) (.int .i64 (maxI 0 (IntKind.i64.wrap (o.tk - v3)))) (.int .i64 (minI 1000000 (IntKind.i64.wrap (o.tk + v4))))
                have e67 : Below wq.heap.size x66 (((((x66.setCell ⟨x0.heap.size, 0, none⟩ (.int .i64 (IntKind.i64.wrap (IntKind.i64.wrap ((maxI 0 o.x).tdiv sd) * sd)))).setCell ⟨x0.heap.size, 1, none⟩ (.int .i64 (IntKind.i64.wrap (IntKind.i64.wrap ((maxI 0 o.y).tdiv sd) * sd)))).setCell ⟨x0.heap.size, 2, none⟩ (.int .i64 sd)).setCell ⟨x0.heap.size, 3, none⟩ (.int .i64 (maxI 0 (IntKind.i64.wrap (o.tk - v3))))).setCell ⟨x0.heap.size, 4, none⟩ (.int .i64 (minI 1000000 (IntKind.i64.wrap (o.tk + v4))))) := Below.setCell (Below.setCell (Below.setCell (Below.setCell (Below.setCell (Below.refl _ _) (p := ⟨x0.heap.size, 0, none⟩) lq _) (p := ⟨x0.heap.size, 1, none⟩) lq _) (p := ⟨x0.heap.size, 2, none⟩) lq _) (p := ⟨x0.heap.size, 3, none⟩) lq _) (p := ⟨x0.heap.size, 4, none⟩) lq _
                have d67 := HD1.out.above d66 e67
                have g67 := only_above g66 e67
                clear u0 u1 u2 u3 u4 t0 t1 t2 t3 t4 B67'
                generalize (((((x66.setCell ⟨x0.heap.size, 0, none⟩ (.int .i64 (IntKind.i64.wrap (IntKind.i64.wrap ((maxI 0 o.x).tdiv sd) * sd)))).setCell ⟨x0.heap.size, 1, none⟩ (.int .i64 (IntKind.i64.wrap (IntKind.i64.wrap ((maxI 0 o.y).tdiv sd) * sd)))).setCell ⟨x0.heap.size, 2, none⟩ (.int .i64 sd)).setCell ⟨x0.heap.size, 3, none⟩ (.int .i64 (maxI 0 (IntKind.i64.wrap (o.tk - v3))))).setCell ⟨x0.heap.size, 4, none⟩ (.int .i64 (minI 1000000 (IntKind.i64.wrap (o.tk + v4))))) = x67 at c67 d67 g67 ⊢
                refine hK.out _ _ g67 (fun hHeld => ?_)
                clear hK K hHeld
                (try simp only [Act.put, List.setIfInBounds_toArray, List.set_cons_zero, List.set_cons_succ])
                refine wpAnyH_done (by kernel_rfl) ?_ _
                go_wp2_with fail
                go_meet
                exact ⟨x0.heap.size, ⟨_, _, _, _, _⟩, rfl, lq, Lib.hid c67, Lib.hid ((d67).more (by omega)), Lib.hid g67⟩
              exact AllReadyH.nil
            exact AllReadyH.nil
          exact AllReadyH.nil
        exact AllReadyH.nil
      exact AllReadyH.nil
    exact AllReadyH.nil
  case rest =>
    obtain ⟨g, m, rfl, hgs, HQ, HDc, hGc⟩ := hcut
    have HZc := Lib.hid (HZ1.out.moved hGc.out neZ)
    have HGc := Lib.hid (only_two HG1.out hGc.out)
    have hgp : g ≠ p := by omega
    have ne1 : w.heap.size + 1 ≠ g := by omega
    clear HB HZ1 HG1 HD1 hGc
    go_wp2_with fail
    refine (pick_dr 24 _ HDc.out (by omega) hn (by decide)).mono ?_; rintro e w5 ⟨r5, rfl, hr5, hd5, hg5⟩
    have HD5 := Lib.hid hd5
    have hlt5 := hd5.lt
    have HG5 := Lib.hid (only_two HGc.out hg5)
    have HQ5 := Lib.hid (HQ.out.moved hg5 hgp)
    have HZ5 := Lib.hid (HZc.out.moved hg5 neZ)
    have hs5 := HG5.out.size
    obtain ⟨hqz, ⟨q0, q1, q2, q3, q4⟩, f0, f1, f2, f3, f4⟩ := HQ5.out
    obtain ⟨hzz, ⟨z0, z1, z2, z3, z4⟩, y0, y1, y2, y3, y4⟩ := HZ5.out
    clear hd5 hg5
    have hr : r5 = 0 ∨ r5 = 1 ∨ r5 = 2 ∨ (¬ r5 = 0 ∧ ¬ r5 = 1 ∧ ¬ r5 = 2) := by omega
    clear hr5
    rcases hr with rfl | rfl | rfl | ⟨hr0, hr1, hr2⟩
    · go_wp2_with fail
      refine (among_dr [0, 3, 1024] 3 _ _ _ (HD5.out.alloc _) (by omega) hn ?_ ?_ ?_ (by decide) (by decide)).mono ?_
      · exact RowAt.of_block encI_len (heap_new1 _ _) rfl
      · omega
      · rfl
      rintro e w6 ⟨v6, rfl, hv6, hd6, hg6⟩
      have hgC := only_two (only_alloc (World.grownBy.refl w5 (some p)) _) hg6
      have HQ6 := Lib.hid (HQ5.out.moved hgC hgp)
      have HZ6 := Lib.hid (HZ5.out.moved hgC neZ)
      have HG6 := Lib.hid (only_two HG5.out hgC)
      have HD6 := Lib.hid hd6
      clear hd6 hg6 hgC hv6 q0 q1 q2 q3 q4 f0 f1 f2 f3 f4 z0 z1 z2 z3 z4 y0 y1 y2 y3 y4
      obtain ⟨_, ⟨q0, q1, q2, q3, q4⟩, f0, f1, f2, f3, f4⟩ := HQ6.out
      obtain ⟨_, ⟨z0, z1, z2, z3, z4⟩, y0, y1, y2, y3, y4⟩ := HZ6.out
      go_wp2_with fail
      have HB : Hid (Below w.heap.size w6 (w6.setCell ⟨g, 2, none⟩ (.int .i64 v6))) := Lib.hid ((Below.refl _ _).setCell (p := ⟨g, 2, none⟩) (by simp; omega) _)
      have HZ7 := Lib.hid (HZ6.out.far ne1 (o := 2) (.int .i64 v6))
      have HD7 := Lib.hid (HD.out.above HD6.out HB.out)
      have HG7 := Lib.hid (only_above HG6.out HB.out)
      generalize w6.setCell ⟨g, 2, none⟩ (.int .i64 v6) = w7 at HZ7 HD7 HG7 ⊢
      obtain ⟨hbx, hdx, hgx⟩ := FIN.out w7 _ HD7.out HG7.out HZ7.out ⟨m.ws, m.so, v6, m.fr, m.to_⟩
      obtain ⟨_, ⟨s0, s1, s2, s3, s4⟩, _⟩ := hbx
      generalize (((((w7.setCell ⟨w.heap.size + 1, 0, none⟩ (.int .i64 m.ws)).setCell ⟨w.heap.size + 1, 1, none⟩ (.int .i64 m.so)).setCell ⟨w.heap.size + 1, 2, none⟩ (.int .i64 v6)).setCell ⟨w.heap.size + 1, 3, none⟩ (.int .i64 m.fr)).setCell ⟨w.heap.size + 1, 4, none⟩ (.int .i64 m.to_)) = WW at s0 s1 s2 s3 s4 hdx hgx ⊢
      exact bodyPost_ret (v := .agg #[.int .i64 m.ws, .int .i64 m.so, .int .i64 v6, .int .i64 m.fr, .int .i64 m.to_]) (by simp [results, Tryz.results24, go_sem, s0, s1, s2, s3, s4]) rfl ⟨⟨m.ws, m.so, v6, m.fr, m.to_⟩, rfl, hdx.more (by omega), hgx⟩
    · go_wp2_with fail
      have HB : Hid (Below w.heap.size w5 (w5.setCell ⟨g, 0, none⟩ (.int .i64 (wrap64 (m.ws + 1))))) := Lib.hid ((Below.refl _ _).setCell (p := ⟨g, 0, none⟩) (by simp; omega) _)
      have HZ7 := Lib.hid (HZ5.out.far ne1 (o := 0) (.int .i64 (wrap64 (m.ws + 1))))
      have HD7 := Lib.hid (HD.out.above HD5.out HB.out)
      have HG7 := Lib.hid (only_above HG5.out HB.out)
      generalize w5.setCell ⟨g, 0, none⟩ (.int .i64 (wrap64 (m.ws + 1))) = w7 at HZ7 HD7 HG7 ⊢
      obtain ⟨hbx, hdx, hgx⟩ := FIN.out w7 _ HD7.out HG7.out HZ7.out ⟨(wrap64 (m.ws + 1)), m.so, m.sd, m.fr, m.to_⟩
      obtain ⟨_, ⟨s0, s1, s2, s3, s4⟩, _⟩ := hbx
      generalize (((((w7.setCell ⟨w.heap.size + 1, 0, none⟩ (.int .i64 (wrap64 (m.ws + 1)))).setCell ⟨w.heap.size + 1, 1, none⟩ (.int .i64 m.so)).setCell ⟨w.heap.size + 1, 2, none⟩ (.int .i64 m.sd)).setCell ⟨w.heap.size + 1, 3, none⟩ (.int .i64 m.fr)).setCell ⟨w.heap.size + 1, 4, none⟩ (.int .i64 m.to_)) = WW at s0 s1 s2 s3 s4 hdx hgx ⊢
      exact bodyPost_ret (v := .agg #[.int .i64 (wrap64 (m.ws + 1)), .int .i64 m.so, .int .i64 m.sd, .int .i64 m.fr, .int .i64 m.to_]) (by simp [results, Tryz.results24, go_sem, s0, s1, s2, s3, s4]) rfl ⟨⟨(wrap64 (m.ws + 1)), m.so, m.sd, m.fr, m.to_⟩, rfl, hdx.more (by omega), hgx⟩
    · go_wp2_with fail
      have HB : Hid (Below w.heap.size w5 (w5.setCell ⟨g, 3, none⟩ (.int .i64 (wrap64 (m.to_ + 1))))) := Lib.hid ((Below.refl _ _).setCell (p := ⟨g, 3, none⟩) (by simp; omega) _)
      have HZ7 := Lib.hid (HZ5.out.far ne1 (o := 3) (.int .i64 (wrap64 (m.to_ + 1))))
      have HD7 := Lib.hid (HD.out.above HD5.out HB.out)
      have HG7 := Lib.hid (only_above HG5.out HB.out)
      generalize w5.setCell ⟨g, 3, none⟩ (.int .i64 (wrap64 (m.to_ + 1))) = w7 at HZ7 HD7 HG7 ⊢
      obtain ⟨hbx, hdx, hgx⟩ := FIN.out w7 _ HD7.out HG7.out HZ7.out ⟨m.ws, m.so, m.sd, (wrap64 (m.to_ + 1)), m.to_⟩
      obtain ⟨_, ⟨s0, s1, s2, s3, s4⟩, _⟩ := hbx
      generalize (((((w7.setCell ⟨w.heap.size + 1, 0, none⟩ (.int .i64 m.ws)).setCell ⟨w.heap.size + 1, 1, none⟩ (.int .i64 m.so)).setCell ⟨w.heap.size + 1, 2, none⟩ (.int .i64 m.sd)).setCell ⟨w.heap.size + 1, 3, none⟩ (.int .i64 (wrap64 (m.to_ + 1)))).setCell ⟨w.heap.size + 1, 4, none⟩ (.int .i64 m.to_)) = WW at s0 s1 s2 s3 s4 hdx hgx ⊢
      exact bodyPost_ret (v := .agg #[.int .i64 m.ws, .int .i64 m.so, .int .i64 m.sd, .int .i64 (wrap64 (m.to_ + 1)), .int .i64 m.to_]) (by simp [results, Tryz.results24, go_sem, s0, s1, s2, s3, s4]) rfl ⟨⟨m.ws, m.so, m.sd, (wrap64 (m.to_ + 1)), m.to_⟩, rfl, hdx.more (by omega), hgx⟩
    · go_wp2_with fail
      obtain ⟨hbx, hdx, hgx⟩ := FIN.out w5 _ HD5.out HG5.out HZ5.out ⟨m.ws, m.so, m.sd, m.fr, m.to_⟩
      obtain ⟨_, ⟨s0, s1, s2, s3, s4⟩, _⟩ := hbx
      generalize (((((w5.setCell ⟨w.heap.size + 1, 0, none⟩ (.int .i64 m.ws)).setCell ⟨w.heap.size + 1, 1, none⟩ (.int .i64 m.so)).setCell ⟨w.heap.size + 1, 2, none⟩ (.int .i64 m.sd)).setCell ⟨w.heap.size + 1, 3, none⟩ (.int .i64 m.fr)).setCell ⟨w.heap.size + 1, 4, none⟩ (.int .i64 m.to_)) = WW at s0 s1 s2 s3 s4 hdx hgx ⊢
      exact bodyPost_ret (v := .agg #[.int .i64 m.ws, .int .i64 m.so, .int .i64 m.sd, .int .i64 m.fr, .int .i64 m.to_]) (by simp [results, Tryz.results24, go_sem, s0, s1, s2, s3, s4]) rfl ⟨⟨m.ws, m.so, m.sd, m.fr, m.to_⟩, rfl, hdx.more (by omega), hgx⟩
end Go.Proofs.YtaobbkiepggafaaGreat
