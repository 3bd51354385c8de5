/-
  The draws of module motions: lists of motions.
-/
import Derived.Test.YtefofllkeghfnaaMoDr1
import Derived.Test.YtefofllkeghfnaaBox4
namespace Go.Proofs.Ytefofllkeghfnaa
open Go.RowKit
attribute [local go_sem] ext_cell ext_frozen

theorem own_set {w : World} {base E K n c g o : Nat} {A : Option Addr} {xs : List Value} (h : w.ownsRow base E K (.slice A n c) n xs) (hf : ∀ q, (Value.slice A n c).ownBlock = some q → q < g) (u : Value) : (w.setCell ⟨g, o, none⟩ u).ownsRow base E K (.slice A n c) n xs := by
  refine h.kept (only_setCell (World.grownBy.refl w (some g)) (.inl rfl) u) ?_
  cases e : (Value.slice A n c).ownBlock with
  | none => exact .inl rfl
  | some q =>
    right
    intro e2
    have h1 := hf q e
    cases e2
    omega
theorem heap_newS (w : World) (p : Addr) (u : Value) (o : Obj) : ((w.setCell p u).alloc o).heap[w.heap.size]? = some o := by
  have h := heap_new1 (w.setCell p u) o
  have e : (w.setCell p u).heap.size = w.heap.size := by simp
  rwa [e] at h
set_option maxRecDepth 100000 in
set_option maxHeartbeats 8000000 in
theorem motions_any {w0 : World} {p : Nat} {A : Option Addr} {n c K : Nat} (w : World) (h : Dr w0 w p A n c K) (hk : K ≤ 700000) (hn : n ≤ 9223372036854775807) :
    Calls Try.prog 72 #[.pointer (some ⟨p, 0, none⟩)] w fun e w' => ∃ (l : List Mo) (B : Option Addr) (cb : Nat), e = .returned (.slice B l.length cb) ∧ l.length ≤ 13 ∧ w'.ownsRow w.heap.size 33 4 (.slice B l.length cb) l.length (l.flatMap encMo) ∧ Dr w0 w' p A n c (K + 200) ∧ w.grownBy w' (some p) := by
  have hlt := h.lt
  have HD := Lib.hid h
  clear h
  go_enter Try.func72, Try.ntmps72
  go_wp2_with (go_at_call 74; first | ((with_reducible refine (pick_dr 16 _ (HD.out.alloc _) (by omega) hn (by decide)).mono ?_); rintro e w1 ⟨r1, rfl, hr1, hd1, hg1⟩; have HD1 := Lib.hid hd1; clear hd1; have hs1 : w.heap.size + 1 ≤ w1.heap.size := (by simpa using hg1.size)) | ((with_reducible refine (pick_dr 2 _ HD1.out (by omega) hn (by decide)).mono ?_); rintro e w2 ⟨r2, rfl, hr2, hd2, hg2⟩; have HD2 := Lib.hid hd2; clear hd2; have hs2 := hg2.size))
  have HO1 := Lib.hid (own_dr (own_dr (own_made (E := 33) (K := 4) (n := 0) (cur := #[]) (w := w) rfl (Nat.zero_le _)) hg1 hlt) hg2 hlt)
  have HG1 := Lib.hid (only_two (only_two (only_alloc (World.grownBy.refl w (some p)) _) hg1) hg2)
  clear hg1 hg2 HD1
  have hpl : 0 ≤ r1 ∧ r1 ≤ 15 := by omega
  have hpo : -1 ≤ 1 - 2 * r2 ∧ 1 - 2 * r2 ≤ 1 := by omega
  have hr2' : r2 = 0 ∨ r2 = 1 := by omega
  clear hr1 hr2
  go_loopw [3, 6, 7, 8] (fun v i x y wr => ∃ (j : Nat) (L : List Mo) (A1 : Option Addr) (c1 : Nat), 1 ≤ j ∧ j ≤ 9 ∧ L.length + 1 ≤ j ∧ i = .int .i64 j ∧ v = .slice A1 L.length c1 ∧ Hid (wr.ownsRow w.heap.size 33 4 (.slice A1 L.length c1) L.length (L.flatMap encMo)) ∧ Hid (Dr w0 wr p A n c (K + 4 + 14 * (j - 1))) ∧ Hid (w.grownBy wr (some p))) (fun _ i _ _ _ => 9 - (intOf i).toNat)
  case atStart => exact ⟨1, [], some ⟨w.heap.size, 0, none⟩, 0, by omega, by omega, by simp, rfl, rfl, HO1, HD2, HG1⟩
  case round =>
    clear HO1 HD2 HG1
    obtain ⟨j, L, A1, c1, hj1, hj9, hLj, rfl, rfl, HO, HDr, HG⟩ := hrel
    have hcap := own_cap HO.out
    have hltr := HDr.out.lt
    have hsr := HG.out.size
    have hrow := HO.out.lt
    by_cases hj0 : j < 9
    · have hj0' : (j : Int) < 9 := by omega
      go_wp2_with first
        | (go_at_call 79; first
          | ((with_reducible refine (one_dr 3 _ HDr.out (by omega) hn (by decide)).mono ?_); rintro e w3 ⟨b3, rfl, hd3, hg3⟩; have HD3 := Lib.hid hd3; have HO3 := Lib.hid (own_dr HO.out hg3 hlt); have HG3 := Lib.hid (only_two HG.out hg3); have hs3 := hg3.size; clear hd3 hg3)
          | ((with_reducible refine (one_dr 4 _ HD5.out (by omega) hn (by decide)).mono ?_); rintro e w6 ⟨b6, rfl, hd6, hg6⟩; have HD6 := Lib.hid hd6; have HO6 := Lib.hid (own_dr HO5.out hg6 hlt); have HG6 := Lib.hid (only_two HG5.out hg6); have hs6 := hg6.size; have HQ6 := Lib.hid (HQ5.out.moved hg6 (by omega)); clear hd6 hg6; obtain ⟨_, ⟨z0, z1, z2, z3⟩, y0, y1, y2, y3⟩ := HQ6.out))
        | (go_at_call 75; ((with_reducible refine (motion_any _ _ HD3.out (by omega) hn).mono ?_); rintro e w4 ⟨m, rfl, hd4, hg4⟩; have HD4 := Lib.hid hd4; have HO4 := Lib.hid (own_dr HO3.out hg4 hlt); have HG4 := Lib.hid (only_two HG3.out hg4); have hs4 := hg4.size; clear hd4 hg4; have HQ4 := Lib.hid (box4_new w4 (.int .i64 m.st) (.int .i64 m.x) (.int .i64 m.y) (.int .i64 m.sg) 33); have hp4 := HD4.out.lt))
        | (go_at_call 60; ((with_reducible refine (l13Quad_some _ _ _ _ _ _).mono ?_); rintro e w5 ⟨r5, rfl, hr5, hb5⟩; have hq1 : -1 ≤ r5 * (1 - 2 * r2) ∧ r5 * (1 - 2 * r2) ≤ 1 := (by rcases hr2' with rfl | rfl <;> omega); have HD5 := Lib.hid ((HD4.out.alloc _).below hb5); have HO5 := Lib.hid (own_below (HO4.out.alloc _) hb5); have HG5 := Lib.hid (only_two (only_two HG4.out (only_alloc (World.grownBy.refl _ _) _)) (only_of_below hb5 _)); have hs5 : w4.heap.size + 1 ≤ w5.heap.size := (by have := hb5.size; simpa using this); have HQ5 := Lib.hid (HQ4.out.moved (only_of_below hb5 (some p)) (by omega)); clear hb5; obtain ⟨_, ⟨z0, z1, z2, z3⟩, y0, y1, y2, y3⟩ := HQ5.out))
        | (at_builtin; first
          | (refine wpList_app rfl _ _ 25 33 4 32 _ rfl Try.underlying25 infoMo rfl (by decide) w.heap.size _ L.length _ (by rfl) (HO6.out.alloc _) _ _ (by rfl) (heap_new1 _ _) rfl (encMo_one m) (by omega) (by decide) (by simp; omega) ?_; intro g7 c7 w7 ho7 hg7 hl7; have B7 : Below w.heap.size w6 w7 := ((Below.refl _ _).alloc (by first | omega | (simp; omega)) _).grown hg7 (by simp; omega) (row_mine HO6.out); have HX7 : Hid (∃ L' : List Mo, L'.length = L.length + 1 ∧ w7.ownsRow w.heap.size 33 4 (.slice (some ⟨g7, 0, none⟩) (L.length + 1) c7) (L.length + 1) (L'.flatMap encMo)) := Lib.hid ⟨L ++ [m], by simp, by simpa [encMo] using ho7⟩; have HD7 : Hid (Dr w0 w7 p A n c (K + 4 + 14 * j)) := Lib.hid ((HD.out.above HD6.out B7).more (by omega)); have HG7 := Lib.hid (only_above HG6.out B7))
          | (refine wpList_app rfl _ _ 25 33 4 32 _ rfl Try.underlying25 infoMo rfl (by decide) w.heap.size _ L.length _ (by rfl) ((own_set (g := w4.heap.size) HO6.out (fun q hq => by have := (hrow q hq).2; omega) _).alloc _) _ _ (by rfl) (heap_newS _ _ _ _) rfl (encMo_one ⟨m.st, m.x, m.y, r5 * (1 - 2 * r2)⟩) (by omega) (by decide) (by simp; omega) ?_; intro g7 c7 w7 ho7 hg7 hl7; have B7 : Below w.heap.size w6 w7 := (((Below.refl _ _).setCell (p := ⟨w4.heap.size, 3, none⟩) (by simp; omega) _).alloc (by first | omega | (simp; omega)) _).grown hg7 (by simp; omega) (row_mine HO6.out); have HX7 : Hid (∃ L' : List Mo, L'.length = L.length + 1 ∧ w7.ownsRow w.heap.size 33 4 (.slice (some ⟨g7, 0, none⟩) (L.length + 1) c7) (L.length + 1) (L'.flatMap encMo)) := Lib.hid ⟨L ++ [⟨m.st, m.x, m.y, r5 * (1 - 2 * r2)⟩], by simp, by simpa [encMo] using ho7⟩; have HD7 : Hid (Dr w0 w7 p A n c (K + 4 + 14 * j)) := Lib.hid ((HD.out.above HD6.out B7).more (by omega)); have HG7 := Lib.hid (only_above HG6.out B7))
          | (refine wpList_app rfl _ _ 25 33 4 32 _ rfl Try.underlying25 infoMo rfl (by decide) w.heap.size _ L.length _ (by rfl) (HO5.out.alloc _) _ _ (by rfl) (heap_new1 _ _) rfl (encMo_one m) (by omega) (by decide) (by simp; omega) ?_; intro g7 c7 w7 ho7 hg7 hl7; have B7 : Below w.heap.size w5 w7 := ((Below.refl _ _).alloc (by first | omega | (simp; omega)) _).grown hg7 (by simp; omega) (row_mine HO5.out); have HX7 : Hid (∃ L' : List Mo, L'.length = L.length + 1 ∧ w7.ownsRow w.heap.size 33 4 (.slice (some ⟨g7, 0, none⟩) (L.length + 1) c7) (L.length + 1) (L'.flatMap encMo)) := Lib.hid ⟨L ++ [m], by simp, by simpa [encMo] using ho7⟩; have HD7 : Hid (Dr w0 w7 p A n c (K + 4 + 14 * j)) := Lib.hid ((HD.out.above HD5.out B7).more (by omega)); have HG7 := Lib.hid (only_above HG5.out B7)))
        | fail
      · exact ⟨⟨j + 1, L, A1, c1, by omega, by omega, by omega, by simp, rfl, HO3, Lib.hid (HD3.out.more (by omega)), HG3⟩, by simp [intOf]; omega⟩
      all_goals
        obtain ⟨L', hL', ho⟩ := HX7.out
        exact ⟨⟨j + 1, L', some ⟨g7, 0, none⟩, c7, by omega, by omega, by omega, by simp, by rw [hL'], Lib.hid (by rw [hL']; exact ho), Lib.hid (HD7.out.more (by omega)), HG7⟩, by simp [intOf]; omega⟩
    · obtain rfl : j = 9 := by omega
      have HD3 := Lib.hid (HDr.out.more (show K + 4 + 14 * (9 - 1) ≤ K + 116 by omega))
      clear HDr
      go_wp2_with first
        | (go_at_call 74; ((with_reducible refine (pick_dr 32 _ HD3.out (by omega) hn (by decide)).mono ?_); rintro e w4 ⟨r4, rfl, hr4, hd4, hg4⟩; have HD4 := Lib.hid hd4; clear hd4; have hlt4 := HD4.out.lt; have hs4 := hg4.size; have HO4 := Lib.hid (own_dr HO.out hg4 hlt); have HG4 := Lib.hid (only_two HG.out hg4)))
        | (go_at_call 73; ((with_reducible refine (among_dr [0, 5, 99, 100] 4 _ _ _ (HD4.out.alloc _) (by omega) hn ?_ ?_ ?_ (by decide) (by decide)).mono ?_); exact RowAt.of_block encI_len (heap_new1 _ _) rfl; omega; rfl; rintro e w5 ⟨v5, rfl, hv5, hd5, hg5⟩; have HD5 := Lib.hid hd5; clear hd5; have hlt5 := HD5.out.lt; have hs5 : w4.heap.size + 1 ≤ w5.heap.size := (by simpa using hg5.size); have HO5 := Lib.hid (own_dr (HO4.out.alloc _) hg5 hlt); have HG5 := Lib.hid (only_two HG4.out (only_two (only_alloc (World.grownBy.refl _ _) _) hg5))))
        | (go_at_call 75; ((with_reducible refine (motion_any _ _ HD5.out (by omega) hn).mono ?_); rintro e w6 ⟨m, rfl, hd6, hg6⟩; have HD6 := Lib.hid hd6; clear hd6; have hs6 := hg6.size; have HO6 := Lib.hid (own_dr HO5.out hg6 hlt); have HG6 := Lib.hid (only_two HG5.out hg6)))
        | (at_builtin; (refine wpList_app rfl _ _ 25 33 4 32 _ rfl Try.underlying25 infoMo rfl (by decide) w.heap.size _ L.length _ (by rfl) (HO6.out.alloc _) _ _ (by rfl) (heap_new1 _ _) rfl (encMo_one m) (by omega) (by decide) (by simp; omega) ?_; intro g7 c7 w7 ho7 hg7 hl7; skip))
        | fail
      case _ =>
        have B6 : Below w.heap.size w6 w7 := ((Below.refl _ _).alloc (by omega) _).grown hg7 (by simp; omega) (row_mine HO6.out)
        go_ret
        exact ⟨L ++ [m], some ⟨g7, 0, none⟩, c7, by simp, by simp; omega, by simpa [encMo] using ho7, (HD.out.above HD6.out B6).more (by omega), only_above HG6.out B6⟩
      case _ =>
        have HD5 := Lib.hid (HD4.out.more (show K + 116 + 2 ≤ K + 120 by omega))
        have hL13 : L.length ≤ 13 := by omega
        clear HD3 HD4
        go_loopw [3] (fun v wr => ∃ (L : List Mo) (A1 : Option Addr) (c1 : Nat), L.length ≤ 13 ∧ v = .slice A1 L.length c1 ∧ Hid (wr.ownsRow w.heap.size 33 4 (.slice A1 L.length c1) L.length (L.flatMap encMo)) ∧ Hid (Dr w0 wr p A n c (K + 120 + 2 * L.length)) ∧ Hid (w.grownBy wr (some p))) (fun v _ => 20 - slLen v)
        case atStart => exact ⟨L, A1, c1, hL13, rfl, HO4, Lib.hid (HD5.out.more (by omega)), HG4⟩
        case round =>
          clear HO HO4 HD5 HG HG4 hrow hcap hsr
          obtain ⟨L, A1, c1, hL, rfl, HO, HDr, HG⟩ := hrel
          have hcap := own_cap HO.out
          go_wp2_with first | (go_at_call 74; ((with_reducible refine (pick_dr 2 _ HDr.out (by omega) hn (by decide)).mono ?_); rintro e w6 ⟨r6, rfl, hr6, hd6, hg6⟩; have HD6 := Lib.hid hd6; clear hd6; have hs6 := hg6.size; have HO6 := Lib.hid (own_dr HO.out hg6 hlt); have HG6 := Lib.hid (only_two HG.out hg6); have hsw := HG6.out.size)) | (at_builtin; (refine wpList_app rfl _ _ 25 33 4 32 _ rfl Try.underlying25 infoMo rfl (by decide) w.heap.size _ L.length _ (by rfl) (HO6.out.alloc _) _ _ (by rfl) (heap_new1 _ _) rfl (encMo_one ⟨60 + (L.length : Int), 3, 1, 1⟩) (by omega) (by decide) (by simp; omega) ?_; intro g7 c7 w7 ho7 hg7 hl7; skip)) | fail
          · have B7 : Below w.heap.size w6 w7 := ((Below.refl _ _).alloc (by omega) _).grown hg7 (by simp; omega) (row_mine HO6.out)
            refine ⟨⟨L ++ [⟨60 + (L.length : Int), 3, 1, 1⟩], by simp; omega, some ⟨g7, 0, none⟩, c7, ⟨rfl, by simp, rfl⟩, Lib.hid (by simpa [encMo] using ho7), Lib.hid ((HD.out.above HD6.out B7).more (by simp; omega)), Lib.hid (only_above HG6.out B7)⟩, by simp [slLen]; omega⟩
          · go_ret
            exact ⟨L, A1, c1, rfl, hL, HO6.out, HD6.out.more (by omega), HG6.out⟩
      case _ =>
        go_ret
        exact ⟨L, A1, c1, rfl, by omega, HO4.out, HD4.out.more (by omega), HG4.out⟩
end Go.Proofs.Ytefofllkeghfnaa
