/-
  spec.CellsOf: each report's cell is put where it belongs, unless it lies there.
-/
import Derived.Test.YtjjinblahmcplaaFeCelI
import Derived.Deep.RegionHeld3
import Derived.Deep.CutBlock
import Derived.Deep.CutRange
namespace Go.Proofs.Ytjjinblahmcplaa
open Go.RowKit
attribute [local go_sem] ext_cell ext_frozen

theorem blkA {w : World} {g : Nat} {o : Obj} (h : w.heap[g]? = some o) (o2 : Obj) : (w.alloc o2).heap[g]? = some o :=
  (Below.heap_alloc w o2 g (Array.getElem?_eq_some_iff.1 h).1).trans h
theorem cellsRw_one (l : List Rw) : ∀ v ∈ l.flatMap encRw, v.oneCell' = true := by
  intro v hv
  obtain ⟨m, _, h⟩ := List.mem_flatMap.1 hv
  exact encRw_one m v h
theorem put_len (L : List Rw) (k : Nat) (x : Rw) : (L.take k ++ [x] ++ L.drop k).length = L.length + 1 := by
  simp only [List.length_append, List.length_take, List.length_drop, List.length_singleton]
  omega
theorem map_put {L : List Rw} {D : List (Int × Int)} {f : Int × Int → List Int} {k : Nat} {n : Rw} {q : Int × Int} (h : L.map Rw.l = D.map f) (hn : n.l = f q) : (L.take k ++ [n] ++ L.drop k).map Rw.l = (D.take k ++ [q] ++ D.drop k).map f := by
  simp only [List.map_append, List.map_take, List.map_drop, h, List.map_cons, List.map_nil, hn]
theorem putP_end2 {p : Int × Int} {l : List (Int × Int)} {k : Nat} (hk : k = l.length) (h : ∀ i, i < k → ∀ y, l[i]? = some y → ltP y p = true) : putP p l = l.take k ++ [p] ++ l.drop k := by
  subst hk
  rw [putP_end h]
  simp
theorem row_of_map {L : List Rw} {D : List (Int × Int)} {f : Int × Int → List Int} (h : L.map Rw.l = D.map f) {k : Nat} {r : Rw} (hr : L[k]? = some r) : ∃ p, D[k]? = some p ∧ r.l = f p := by
  have h2 := congrArg (fun t => t[k]?) h
  simp only [List.getElem?_map, hr, Option.map_some] at h2
  cases e : D[k]? with
  | none => rw [e] at h2; cases h2
  | some p =>
    rw [e] at h2
    simp only [Option.map_some, Option.some.injEq] at h2
    exact ⟨p, rfl, h2⟩
theorem SsRes.put {base c c3 g cs k : Nat} {w0 w3 : World} {A A3 : Option Addr} {L : List Rw} {l : List Int} (h : SsRes base w0 A c L) (hb : Below w0.heap.size w0 w3) (h0 : w0.heap.size ≤ g) (hb0 : base ≤ w0.heap.size)
    (hs : w3.ownsRow base 3 1 (.slice (some ⟨g, 0, none⟩) l.length cs) l.length (l.flatMap encI)) (hn : some g ≠ (Value.slice A3 (L.length + 1) c3).ownBlock)
    (ho3 : w3.ownsRow w0.heap.size 42 1 (.slice A3 (L.length + 1) c3) (L.length + 1) ((L.take k ++ [(⟨l, some ⟨g, 0, none⟩, cs⟩ : Rw)] ++ L.drop k).flatMap encRw)) : SsRes base w3 A3 c3 (L.take k ++ [(⟨l, some ⟨g, 0, none⟩, cs⟩ : Rw)] ++ L.drop k) := by
  refine ⟨by rw [put_len]; exact own_base ho3 hb0, fun p hp => ?_, ?_⟩
  · rw [put_len]
    have hp2 : p ∈ L ∨ p = (⟨l, some ⟨g, 0, none⟩, cs⟩ : Rw) := by
      rcases List.mem_append.1 hp with hp | hp
      · rcases List.mem_append.1 hp with hp | hp
        · exact .inl (List.mem_of_mem_take hp)
        · exact .inr (List.mem_singleton.1 hp)
      · exact .inl (List.mem_of_mem_drop hp)
    rcases hp2 with hp | rfl
    · obtain ⟨b, e, e2, ho⟩ := h.ins p hp
      have hbl := (ho.lt b (by rw [e]; rfl)).2
      refine ⟨b, e, fun e3 => ?_, own_below ho hb⟩
      have := (ho3.lt b e3.symm).1
      omega
    · exact ⟨g, rfl, hn, hs⟩
  · have hperm : (L.take k ++ [(⟨l, some ⟨g, 0, none⟩, cs⟩ : Rw)] ++ L.drop k).Perm ((⟨l, some ⟨g, 0, none⟩, cs⟩ : Rw) :: L) := by
      have := @List.perm_middle Rw ⟨l, some ⟨g, 0, none⟩, cs⟩ (L.take k) (L.drop k)
      rw [List.take_append_drop] at this
      simpa using this
    refine (hperm.pairwise_iff (fun h => Ne.symm h)).2 (List.pairwise_cons.2 ⟨fun q hq => ?_, h.far⟩)
    obtain ⟨b, e1, _, ho⟩ := h.ins q hq
    have := (ho.lt b (by rw [e1]; rfl)).2
    rw [e1]
    intro e
    simp only [Option.some.injEq, Addr.mk.injEq, and_true] at e
    omega
theorem lev_same {s : Int} {l : List Fe} {m : Fe} (hg : goodFe l = true) (hs : inB s 1 500 = true) (hm : m ∈ l) : (spB (cntL (cellsW s (m.x / s) (m.y / s) l)) 12).1 = levelL (cellsW s (m.x / s) (m.y / s) l) := by
  have h := spec_level (size := s) (a := m.x / s) (b := m.y / s) hg hs
  have hn : cellsW s (m.x / s) (m.y / s) l ≠ [] := by
    intro e
    have h1 : m ∈ cellsW s (m.x / s) (m.y / s) l := List.mem_filter.2 ⟨hm, by simp [inCell]⟩
    rw [e] at h1
    cases h1
  simp only [levelOfL, hg, hs, Bool.and_self, if_true, if_neg hn] at h
  exact (congrArg Prod.fst h).symm
set_option maxRecDepth 100000 in
set_option maxHeartbeats 8000000 in
theorem sCel_any (l : List Fe) (A : Option Addr) (c : Nat) (s : Int) (w : World) (hr : RowAt 5 encFe w A l) (hlen : l.length ≤ 2097152) :
    Calls Try.prog 42 #[.slice A l.length c, .int .i64 s] w (MkSs (cellsL s l) (cellsOK s l) w) := by
  have HRF := Lib.hid hr
  clear hr
  have HB0 := Lib.hid (balloc (bref w) (.cells #[] 42))
  have HE0 := Lib.hid (SsRes.mk (L := []) (own_empty (E := 42) (K := 1) (heap_new1 w (.cells #[] 42)) (Nat.le_refl _)) (fun p hp => by simp at hp) List.Pairwise.nil)
  cases hg : goodFe l <;> cases h2 : inB s 1 500
  case true.true =>
    have HE := Lib.hid (show cellsL s l = (celL s l).map (celRow s l) by simp [cellsL, cellsOK, hg, h2])
    have HE2 := Lib.hid (show cellsOK s l = true by simp [cellsOK, hg, h2])
    have HS := Lib.hid (inB_true h2)
    have HG := Lib.hid (goodFe_all hg)
    have HLS := Lib.hid (fun (m : Fe) (hm : m ∈ l) => lev_same hg h2 hm)
    have H12 := goodFe_len hg
    go_enter Try.func42, Try.ntmps42
    go_wp2_with (first | (go_at_call 64; (with_reducible refine (sgoodFe_any l _ _ _ (HRF.out.below HB0.out) hlen).mono ?_); rw [hg]; rintro e v1 ⟨rfl, hb1⟩) | (go_at_call 76; (with_reducible refine (l14Size_any _ _).mono ?_); rintro e w' ⟨rfl, rfl⟩))
    have HB1 := Lib.hid (bstep HB0.out hb1)
    have HE1 := Lib.hid (HE0.out.below hb1)
    clear hb1 hg h2 HB0 HE0
    go_loopw [6, 7] (fun vo vi wr => ∃ (i : Nat) (L : List Rw) (g c' : Nat), i ≤ l.length ∧ vi = .int .i64 i ∧ vo = .slice (some ⟨g, 0, none⟩) L.length c' ∧ L.length ≤ i ∧ Hid (L.map Rw.l = (celL s (l.take i)).map (celRow s l)) ∧ Hid (SsRes w.heap.size wr (some ⟨g, 0, none⟩) c' L) ∧ Hid (Below w.heap.size w wr)) (fun _ i _ => l.length - (intOf i).toNat)
    case atStart => exact ⟨0, [], w.heap.size, 0, Nat.zero_le _, rfl, rfl, Nat.le_refl _, Lib.hid (by simp [celL]), HE1, HB1⟩
    case round =>
      clear HE1 HB1
      obtain ⟨i, L, g, c', hi, rfl, rfl, hLi, HL, HSs, HBr⟩ := hrel
      by_cases hlt : i < l.length
      · obtain ⟨m, hm⟩ := some_get hlt
        have i0 := ib0 i
        have i1 := ib1 hlt
        have HRr := Lib.hid (HRF.out.below HBr.out)
        obtain ⟨bb, ob, eA, hbb, q0, q1, q2, q3, q4⟩ := HRr.out.fe hm
        subst eA
        have HN := Lib.hid (celL_succ (size := s) hm)
        have hmem := List.mem_of_getElem? hm
        obtain ⟨_, hx, hy, _, _⟩ := oneFe_bounds (HG.out m hmem)
        obtain ⟨a, ha⟩ : ∃ a, m.x / s = a := ⟨_, rfl⟩
        obtain ⟨b, hb⟩ : ∃ b, m.y / s = b := ⟨_, rfl⟩
        have HLV : Hid ((spB (cntL (cellsW s a b l)) 12).1 = levelL (cellsW s a b l)) := Lib.hid (by rw [← ha, ← hb]; exact HLS.out m hmem)
        obtain ⟨lv, hlv⟩ : ∃ lv, levelL (cellsW s a b l) = lv := ⟨_, rfl⟩
        rw [hlv] at HLV
        have HROW := Lib.hid (show [a, b, lv] = celRow s l (a, b) by simp [celRow, hlv])
        have HN2 := Lib.hid (show celL s (l.take (i + 1)) = putP (a, b) (celL s (l.take i)) by rw [HN.out]; simp [celP, ha, hb])
        have d1 := cell_div _ _ HS.out.1 hx
        have d2 := cell_div _ _ HS.out.1 hy
        rw [ha] at d1
        rw [hb] at d2
        have hs0 : ¬ s = 0 := by have := HS.out.1; omega
        have e1 : IntKind.i64.wrap (m.x.tdiv s) = a := by rw [Int.tdiv_eq_ediv_of_nonneg hx.1, ha, IntKind.wrap_i64]; omega
        have e2 : IntKind.i64.wrap (m.y.tdiv s) = b := by rw [Int.tdiv_eq_ediv_of_nonneg hy.1, hb, IntKind.wrap_i64]; omega
        obtain ⟨D, hD⟩ : ∃ D, celL s (l.take i) = D := ⟨_, rfl⟩
        rw [hD] at HN2 HL
        have HCAP := Lib.hid (own_cap HSs.out.out)
        clear hm hmem HN hlv hD d1 d2 hx hy
        go_wp2_with fail
        (refine wp_region_calm (by kernel_rfl) (by kernel_rfl) ?_; (repeat (go_big_quiet_step ((fail)))); refine wpQuiet_nil ?_; intro xw; have hb2 := xw.is; generalize xw.w = v2 at hb2 ⊢; clear xw)
        try simp only [e1, e2]
        have HS2 := Lib.hid (HSs.out.below hb2)
        have HB2 := Lib.hid (bstep HBr.out hb2)
        clear q0 q1 q2 q3 q4 hb2 e1 e2 ha hb hs0
        go_upto_block 2 with fail
        go_cut [10] from 43 to 78 (fun vk wi => ∃ k : Nat, vk = .int .i64 k ∧ k ≤ L.length ∧ Hid (∀ j, j < k → ∀ y, D[j]? = some y → ltP y (a, b) = true) ∧ Hid (∀ y, D[k]? = some y → ltP y (a, b) = false) ∧ Hid (Below v2.heap.size v2 wi))
        case first =>
          go_wp2_with fail
          go_loopw [10] (fun vk wi => ∃ k : Nat, k ≤ L.length ∧ vk = .int .i64 k ∧ Hid (∀ j, j < k → ∀ y, D[j]? = some y → ltP y (a, b) = true) ∧ Hid (Below v2.heap.size v2 wi)) (fun vk _ => L.length - (intOf vk).toNat)
          case atStart => exact ⟨0, Nat.zero_le _, rfl, Lib.hid (fun j hj => absurd hj (by omega)), Lib.hid (bref _)⟩
          case round =>
            obtain ⟨k, hk, rfl, HU, HW⟩ := hrel
            have HSw := Lib.hid (HS2.out.below HW.out)
            have k0 := ib0 k
            have kk1 : (k : Int) ≤ (L.length : Int) := by omega
            by_cases hkl : k < L.length
            · obtain ⟨r, hr⟩ := some_get hkl
              obtain ⟨⟨p1, p2⟩, hp, hrl⟩ := row_of_map HL.out hr
              have k1 := ib1 hkl
              obtain ⟨bo, oo, eo, hbo, r0, rs⟩ := HSw.out.at_.rw_ hr
              simp only [Option.some.injEq, Addr.mk.injEq, and_true] at eo
              obtain ⟨rfl, rfl⟩ := eo
              simp only [Nat.zero_add] at r0
              obtain ⟨b1, eb, enb, hin⟩ := HSw.out.ins r (List.mem_of_getElem? hr)
              have hrl3 : r.l.length = 3 := by rw [hrl]; rfl
              rw [hrl3, eb] at r0
              rw [hrl, eb] at rs
              obtain ⟨_, _, e5, hb5, t0⟩ := rs.i (k := 0) (n := p1) rfl
              cases e5
              obtain ⟨_, _, e5, hb6, t1⟩ := rs.i (k := 1) (n := p2) rfl
              cases e5
              simp only [Nat.add_zero, Nat.zero_add] at t0 t1
              clear hr hrl hrl3 eb enb hin rs hb6
              by_cases hlp : ltP (p1, p2) (a, b) = true
              · have HU2 := Lib.hid (show ∀ j, j < k + 1 → ∀ y, D[j]? = some y → ltP y (a, b) = true from fun j hj y hy => by
                  by_cases e : j = k
                  · subst e; rw [hp] at hy; cases hy; exact hlp
                  · exact HU.out j (by omega) y hy)
                have hh := ltP_iff.1 hlp
                dsimp only at hh
                clear hp hlp
                by_cases h1 : p1 < a
                all_goals (try (have g1 : p1 = a := by omega))
                all_goals (try (have g2 : (p1 == a) = true := by simpa using g1))
                all_goals (try (have g3 : p2 < b := by omega))
                all_goals (try clear g1)
                all_goals
                  clear hh
                  go_wp2_with fail
                  go_roundw
                  case rel => exact ⟨k + 1, by omega, by go_num, HU2, HW⟩
                  case measure => simp [intOf]; omega
              · have hno := ltP_no.1 (Bool.eq_false_iff.2 hlp)
                dsimp only at hno
                have HX := Lib.hid (show ∀ y, D[k]? = some y → ltP y (a, b) = false from fun y hy => by rw [hp] at hy; cases hy; exact Bool.eq_false_iff.2 hlp)
                clear hp hlp
                by_cases h1 : p1 = a
                case' pos =>
                  have h3 : ¬ p2 < b := by omega
                  have h5 : (p1 == a) = true := by simpa using h1
                  have h6 : ¬ p1 < a := by omega
                case' neg =>
                  have h6 : ¬ p1 < a := by omega
                  have h5 : (p1 == a) = false := by simpa using h1
                all_goals
                  clear h1 hno
                  go_wp2_with fail
                  go_meet
                  exact ⟨k, rfl, hk, HU, HX, HW⟩
            · obtain rfl : k = L.length := by omega
              have HX := Lib.hid (show ∀ y, D[L.length]? = some y → ltP y (a, b) = false from fun y hy => by
                have hd := congrArg List.length HL.out
                simp only [List.length_map] at hd
                rw [hd, List.getElem?_eq_none (Nat.le_refl _)] at hy
                cases hy)
              go_wp2_with fail
              go_meet
              exact ⟨L.length, rfl, Nat.le_refl _, HU, HX, HW⟩
        case rest =>
          obtain ⟨k, rfl, hk, HU, HX, HW⟩ := hcut
          obtain ⟨wj, hw⟩ : ∃ wj : World, wj = wc := ⟨_, rfl⟩
          rw [← hw] at HW ⊢
          clear hw
          have HSw := Lib.hid (HS2.out.below HW.out)
          have HBw := Lib.hid (bstep HB2.out HW.out)
          have HRw := Lib.hid (HRF.out.below HBw.out)
          have k0 := ib0 k
          have kk1 : (k : Int) ≤ (L.length : Int) := by omega
          go_upto_region 10 with fail
          go_cut [102] from 79 to 101 (fun vb wx => wx = wj ∧ ∃ B : Bool, vb = .bool B ∧ Hid (B = true → celL s (l.take (i + 1)) = D) ∧ Hid (B = false → celL s (l.take (i + 1)) = D.take k ++ [(a, b)] ++ D.drop k))
          case first =>
            by_cases hkl : k < L.length
            · obtain ⟨r, hr⟩ := some_get hkl
              obtain ⟨⟨p1, p2⟩, hp, hrl⟩ := row_of_map HL.out hr
              have k1 := ib1 hkl
              obtain ⟨bo, oo, eo, hbo, r0, rs⟩ := HSw.out.at_.rw_ hr
              simp only [Option.some.injEq, Addr.mk.injEq, and_true] at eo
              obtain ⟨rfl, rfl⟩ := eo
              simp only [Nat.zero_add] at r0
              obtain ⟨b1, eb, enb, hin⟩ := HSw.out.ins r (List.mem_of_getElem? hr)
              have hrl3 : r.l.length = 3 := by rw [hrl]; rfl
              rw [hrl3, eb] at r0
              rw [hrl, eb] at rs
              obtain ⟨_, _, e5, hb5, t0⟩ := rs.i (k := 0) (n := p1) rfl
              cases e5
              obtain ⟨_, _, e5, hb6, t1⟩ := rs.i (k := 1) (n := p2) rfl
              cases e5
              simp only [Nat.add_zero, Nat.zero_add] at t0 t1
              clear hr hrl hrl3 eb enb hin rs hb6
              have hlp := HX.out _ hp
              have hno := ltP_no.1 hlp
              dsimp only at hno
              by_cases hpq : (p1, p2) = (a, b)
              · have HSAME := Lib.hid (show celL s (l.take (i + 1)) = D by rw [HN2.out]; exact putP_same (by rw [← hpq]; exact hp) HU.out)
                obtain ⟨e1, e2⟩ := Prod.mk.inj hpq
                have h5 : (p1 == a) = true := by simpa using e1
                have h4 : (p2 == b) = true := by simpa using e2
                clear hp hlp hno hpq e1 e2
                go_wp2_with fail
                go_meet
                exact ⟨rfl, true, rfl, Lib.hid (fun _ => HSAME.out), Lib.hid (fun h => by cases h)⟩
              · have HPUT := Lib.hid (show celL s (l.take (i + 1)) = D.take k ++ [(a, b)] ++ D.drop k by rw [HN2.out]; exact putP_mid hp HU.out hlp hpq)
                clear hp hlp
                by_cases h1 : p1 = a
                case' pos =>
                  have h4 : (p2 == b) = false := by simpa using fun e => hpq (Prod.ext h1 e)
                  have h5 : (p1 == a) = true := by simpa using h1
                case' neg =>
                  have h5 : (p1 == a) = false := by simpa using h1
                all_goals
                  clear h1 hno hpq
                  go_wp2_with fail
                  go_meet
                  exact ⟨rfl, false, rfl, Lib.hid (fun h => by cases h), Lib.hid (fun _ => HPUT.out)⟩
            · obtain rfl : k = L.length := by omega
              have HPUT := Lib.hid (show celL s (l.take (i + 1)) = D.take L.length ++ [(a, b)] ++ D.drop L.length by
                rw [HN2.out]
                exact putP_end2 (by have := congrArg List.length HL.out; simpa using this) HU.out)
              go_wp2_with fail
              go_meet
              exact ⟨rfl, false, rfl, Lib.hid (fun h => by cases h), Lib.hid (fun _ => HPUT.out)⟩
          case rest =>
            obtain ⟨hwc, B, rfl, HT, HF⟩ := hcut
            rw [hwc] at *
            clear hwc
            cases B
            case true =>
              have HSAME := Lib.hid (HT.out rfl)
              clear HF HT HX
              go_wp2_with fail
              go_roundw
              case rel => exact ⟨i + 1, L, g, c', by omega, by go_num, rfl, by omega, Lib.hid (by rw [HSAME.out]; exact HL.out), HSw, HBw⟩
              case measure => simp [intOf]; omega
            case false =>
              have HPUT := Lib.hid (HF.out rfl)
              clear HF HT HX HU HN2
              go_wp2_with fail
              refine (l14Cell_any l _ _ s a b _ HRw.out H12 HG.out HS.out).mono ?_; rw [HLV.out]; rintro e v3 ⟨rfl, hb3⟩
              have HB3 := Lib.hid (bstep HBw.out hb3)
              have HS3 := Lib.hid (HSw.out.below hb3)
              have HR := Lib.hid HS3.out.at_.1
              have hs3 := HB3.out.size
              have k1' : (k : Int) ≤ (c' : Int) := by have := HCAP.out; omega
              have k3 : (L.length : Int) ≤ (c' : Int) := by have := HCAP.out; omega
              clear hb3 HRw HBw HSw HS2 HB2
              by_cases hck : c' = k
              · have hkL : k = L.length := by have := HCAP.out; omega
                subst hkL
                have HK := Lib.hid (show (L.flatMap encRw).length = L.length * 1 by rw [flat_len encRw_len])
                have HN := Lib.hid (show L.length + 1 + 0 = L.length + 1 from rfl)
                have HY := Lib.hid (fun x : Nat => show L.flatMap encRw ++ encRw ⟨[a, b, lv], some ⟨x, 0, none⟩, 3⟩ ++ [] = (L.take L.length ++ [(⟨[a, b, lv], some ⟨x, 0, none⟩, 3⟩ : Rw)] ++ L.drop L.length).flatMap encRw by simp)
                clear HRF HE HE2 HS HG HLS HLV HW
                go_wp2_with fail
                go_region_held3 (fun _ => True) (trivial) (first
            | ((refine step_appS (by rfl) (.tmp 111) (.tmp 114) 54 42 1 24 _ (by rfl) Try.underlying54 infoSs rfl (by decide) v3.heap.size _ 0 [] (by rfl) (own_empty (by first | exact heap_new1 _ _ | exact heap_new2 _ _ _ | exact heap_old2 _ _ _ | exact heap_new3 _ _ _ _ | exact blkA (heap_old2 _ _ _) _ | exact blkA (heap_new2 _ _ _) _) (by first | exact Nat.le_refl _ | omega | (simp <;> omega))) _ _ _ (L.flatMap encRw) (by rfl) HK.out ((RowAt.below HR.out (by repeat (first | exact bref _ | exact hbI1 | exact hbI2 | exact hbI3 | (refine balloc ?_ _) | (refine bdrew ?_) | (refine bdrewN ?_ _)))).news encRw_len) (cellsRw_one _) L.length (Nat.zero_add _) _ (List.nil_append _) (by omega) (by decide) (Below.size (B := v3.heap.size) (by repeat (first | exact bref _ | exact hbI1 | exact hbI2 | exact hbI3 | (refine balloc ?_ _) | (refine bdrew ?_) | (refine bdrewN ?_ _)))) ?_); intro A1 c1 w1 hoI1 hgI1 hlI1; have hbI1 : Below v3.heap.size v3 w1 := bgrown (by repeat (first | exact bref _ | exact hbI1 | exact hbI2 | exact hbI3 | (refine balloc ?_ _) | (refine bdrew ?_) | (refine bdrewN ?_ _))) hgI1 (by intro j hj; simp [Value.ownBlock] at hj; omega))
            | ((refine step_appS (by rfl) (.tmp 115) (.tmp 120) 54 42 1 24 _ (by rfl) Try.underlying54 infoSs rfl (by decide) v3.heap.size (.slice A1 L.length c1) L.length _ (by rfl) (own_below hoI1 (by repeat (first | exact bref _ | (refine balloc ?_ _) | (refine bdrew ?_) | (refine bdrewN ?_ _)))) _ 1 _ (encRw ⟨[a, b, lv], some ⟨w1.heap.size, 0, none⟩, 3⟩) (by rfl) rfl (news1 (by repeat (first | exact heap_new1 _ _ | exact heap_new2 _ _ _ | exact heap_new3 _ _ _ _ | exact heap_old2 _ _ _ | (refine blkA ?_ _) | (refine (hgI1.block _ (by simp <;> omega) (by simp [Value.ownBlock] <;> omega)).trans ?_))) rfl) (encRw_one ⟨[a, b, lv], some ⟨w1.heap.size, 0, none⟩, 3⟩) (L.length + 1) rfl _ rfl (by omega) (by decide) (Below.size (B := v3.heap.size) (by repeat (first | exact bref _ | exact hbI1 | exact hbI2 | exact hbI3 | (refine balloc ?_ _) | (refine bdrew ?_) | (refine bdrewN ?_ _)))) ?_); intro A2 c2 w2 hoI2 hgI2 hlI2; have hbI2 : Below v3.heap.size v3 w2 := bgrown (by repeat (first | exact bref _ | exact hbI1 | exact hbI2 | exact hbI3 | (refine balloc ?_ _) | (refine bdrew ?_) | (refine bdrewN ?_ _))) hgI2 (row_mine hoI1); have hX1 : some w1.heap.size ≠ (Value.slice A1 L.length c1).ownBlock := (fun e => by have h9 := (hoI1.lt _ e.symm).2; omega); have hXN : some w1.heap.size ≠ (Value.slice A2 (L.length + 1) c2).ownBlock := (fun e => by rcases hlI2 with r | r <;> first | exact hX1 (e.trans r.symm) | (rw [← e] at r; have h9 := hgI1.size; simp at r h9 <;> omega)); have hXO : w2.ownsRow v3.heap.size 3 1 (.slice (some ⟨w1.heap.size, 0, none⟩) ([a, b, lv] : List Int).length 3) ([a, b, lv] : List Int).length (([a, b, lv] : List Int).flatMap encI) := World.ownsRow.kept (three_own (by repeat (first | exact heap_new1 _ _ | exact heap_new2 _ _ _ | exact heap_new3 _ _ _ _ | exact heap_old2 _ _ _ | (refine blkA ?_ _) | (refine (hgI1.block _ (by simp <;> omega) (by simp [Value.ownBlock] <;> omega)).trans ?_))) (by have h9 := hbI1.size; omega)) hgI2 (.inr hX1))
            | ((refine step_appS (by rfl) (.tmp 115) (.tmp 120) 54 42 1 24 _ (by rfl) Try.underlying54 infoSs rfl (by decide) v3.heap.size (.slice A1 L.length c1) L.length _ (by rfl) (own_below hoI1 (by repeat (first | exact bref _ | (refine balloc ?_ _) | (refine bdrew ?_) | (refine bdrewN ?_ _)))) _ 1 _ (encRw ⟨[a, b, lv], some ⟨(v3.heap.size + 1), 0, none⟩, 3⟩) (by rfl) rfl (news1 (by repeat (first | exact heap_new1 _ _ | exact heap_new2 _ _ _ | exact heap_new3 _ _ _ _ | exact heap_old2 _ _ _ | (refine blkA ?_ _) | (refine (hgI1.block _ (by simp <;> omega) (by simp [Value.ownBlock] <;> omega)).trans ?_))) rfl) (encRw_one ⟨[a, b, lv], some ⟨(v3.heap.size + 1), 0, none⟩, 3⟩) (L.length + 1) rfl _ rfl (by omega) (by decide) (Below.size (B := v3.heap.size) (by repeat (first | exact bref _ | exact hbI1 | exact hbI2 | exact hbI3 | (refine balloc ?_ _) | (refine bdrew ?_) | (refine bdrewN ?_ _)))) ?_); intro A2 c2 w2 hoI2 hgI2 hlI2; have hbI2 : Below v3.heap.size v3 w2 := bgrown (by repeat (first | exact bref _ | exact hbI1 | exact hbI2 | exact hbI3 | (refine balloc ?_ _) | (refine bdrew ?_) | (refine bdrewN ?_ _))) hgI2 (row_mine hoI1); have hX1 : some (v3.heap.size + 1) ≠ (Value.slice A1 L.length c1).ownBlock := (fun e => by rcases hlI1 with r | r <;> (rw [← e] at r; simp [Value.ownBlock] at r <;> omega)); have hXN : some (v3.heap.size + 1) ≠ (Value.slice A2 (L.length + 1) c2).ownBlock := (fun e => by rcases hlI2 with r | r <;> first | exact hX1 (e.trans r.symm) | (rw [← e] at r; have h9 := hgI1.size; simp at r h9 <;> omega)); have hXO : w2.ownsRow v3.heap.size 3 1 (.slice (some ⟨(v3.heap.size + 1), 0, none⟩) ([a, b, lv] : List Int).length 3) ([a, b, lv] : List Int).length (([a, b, lv] : List Int).flatMap encI) := World.ownsRow.kept (three_own (by repeat (first | exact heap_new1 _ _ | exact heap_new2 _ _ _ | exact heap_new3 _ _ _ _ | exact heap_old2 _ _ _ | (refine blkA ?_ _) | (refine (hgI1.block _ (by simp <;> omega) (by simp [Value.ownBlock] <;> omega)).trans ?_))) (by have h9 := hbI1.size; omega)) hgI2 (.inr hX1))
            | ((refine step_appS (by rfl) (.tmp 115) (.tmp 120) 54 42 1 24 _ (by rfl) Try.underlying54 infoSs rfl (by decide) v3.heap.size (.slice A1 L.length c1) L.length _ (by rfl) (own_below hoI1 (by repeat (first | exact bref _ | (refine balloc ?_ _) | (refine bdrew ?_) | (refine bdrewN ?_ _)))) _ 1 _ (encRw ⟨[a, b, lv], some ⟨v3.heap.size, 0, none⟩, 3⟩) (by rfl) rfl (news1 (by repeat (first | exact heap_new1 _ _ | exact heap_new2 _ _ _ | exact heap_new3 _ _ _ _ | exact heap_old2 _ _ _ | (refine blkA ?_ _) | (refine (hgI1.block _ (by simp <;> omega) (by simp [Value.ownBlock] <;> omega)).trans ?_))) rfl) (encRw_one ⟨[a, b, lv], some ⟨v3.heap.size, 0, none⟩, 3⟩) (L.length + 1) rfl _ rfl (by omega) (by decide) (Below.size (B := v3.heap.size) (by repeat (first | exact bref _ | exact hbI1 | exact hbI2 | exact hbI3 | (refine balloc ?_ _) | (refine bdrew ?_) | (refine bdrewN ?_ _)))) ?_); intro A2 c2 w2 hoI2 hgI2 hlI2; have hbI2 : Below v3.heap.size v3 w2 := bgrown (by repeat (first | exact bref _ | exact hbI1 | exact hbI2 | exact hbI3 | (refine balloc ?_ _) | (refine bdrew ?_) | (refine bdrewN ?_ _))) hgI2 (row_mine hoI1); have hX1 : some v3.heap.size ≠ (Value.slice A1 L.length c1).ownBlock := (fun e => by rcases hlI1 with r | r <;> (rw [← e] at r; simp [Value.ownBlock] at r <;> omega)); have hXN : some v3.heap.size ≠ (Value.slice A2 (L.length + 1) c2).ownBlock := (fun e => by rcases hlI2 with r | r <;> first | exact hX1 (e.trans r.symm) | (rw [← e] at r; have h9 := hgI1.size; simp at r h9 <;> omega)); have hXO : w2.ownsRow v3.heap.size 3 1 (.slice (some ⟨v3.heap.size, 0, none⟩) ([a, b, lv] : List Int).length 3) ([a, b, lv] : List Int).length (([a, b, lv] : List Int).flatMap encI) := World.ownsRow.kept (three_own (by repeat (first | exact heap_new1 _ _ | exact heap_new2 _ _ _ | exact heap_new3 _ _ _ _ | exact heap_old2 _ _ _ | (refine blkA ?_ _) | (refine (hgI1.block _ (by simp <;> omega) (by simp [Value.ownBlock] <;> omega)).trans ?_))) (by have h9 := hbI1.size; omega)) hgI2 (.inr hX1))
            | ((refine step_appS (by rfl) (.tmp 121) (.tmp 124) 54 42 1 24 _ (by rfl) Try.underlying54 infoSs rfl (by decide) v3.heap.size (.slice A2 (L.length + 1) c2) (L.length + 1) _ (by rfl) (by first | exact hoI2 | exact own_drew hoI2) _ _ _ [] (by rfl) (by simp) (fun j u hj => by simp at hj) (fun u hu => by simp at hu) ((L.length + 1)) (by first | exact HN.out | (simp; done) | (have := HN.out; simpa using this)) _ (HY.out _) (by have := HN.out; omega) (by decide) (Below.size (B := v3.heap.size) (by repeat (first | exact bref _ | exact hbI1 | exact hbI2 | exact hbI3 | (refine balloc ?_ _) | (refine bdrew ?_) | (refine bdrewN ?_ _)))) ?_); intro A3 c3 w3 hoI3 hgI3 hlI3; have hbI3 : Below v3.heap.size v3 w3 := bgrown (by repeat (first | exact bref _ | exact hbI1 | exact hbI2 | exact hbI3 | (refine balloc ?_ _) | (refine bdrew ?_) | (refine bdrewN ?_ _))) hgI3 (row_mine hoI2))
            | fail)
                all_goals
                  obtain ⟨g3, rfl⟩ : ∃ g3, A3 = some ⟨g3, 0, none⟩ := by
                    rcases own_form hoI3 with ⟨_, h0, _⟩ | h
                    · omega
                    · exact h
                  have hx1 := hXO.lt _ rfl
                  have ne3 : ∀ {X : Nat}, some X ≠ (Value.slice A2 (L.length + 1) c2).ownBlock → X < w2.heap.size → some X ≠ (Value.slice (some ⟨g3, 0, none⟩) (L.length + 1) c3).ownBlock := fun hX hl e => by
                    rcases hlI3 with r | r
                    · exact hX (e.trans r.symm)
                    · rw [← e] at r
                      simp at r
                      omega
                  have HPT := Lib.hid (SsRes.put HS3.out hbI3 hx1.1 hs3 (own_base (World.ownsRow.kept hXO hgI3 (.inr hXN)) hs3) (ne3 hXN hx1.2) hoI3)
                  have HB9 := Lib.hid (bstep HB3.out hbI3)
                  clear hx1 ne3 hX1 hXN hXO hoI1 hoI2 hoI3 hgI1 hgI2 hgI3 hlI1 hlI2 hlI3
                  go_wp2_with fail
                  go_roundw
                  case rel => exact ⟨i + 1, L.take L.length ++ [⟨[a, b, lv], some ⟨_, 0, none⟩, 3⟩] ++ L.drop L.length, g3, c3, by omega, by go_num, by rw [put_len], by rw [put_len]; omega, Lib.hid (by rw [HPUT.out]; exact map_put HL.out HROW.out), HPT, HB9⟩
                  case measure => simp [intOf]; omega
              · have HK := Lib.hid (show ((L.take k).flatMap encRw).length = k * 1 by rw [flat_len encRw_len, List.length_take, Nat.min_eq_left hk])
                have HN := Lib.hid (show k + 1 + (L.length - k) = L.length + 1 by omega)
                have HY := Lib.hid (fun x : Nat => show (L.take k).flatMap encRw ++ encRw ⟨[a, b, lv], some ⟨x, 0, none⟩, 3⟩ ++ (L.drop k).flatMap encRw = (L.take k ++ [(⟨[a, b, lv], some ⟨x, 0, none⟩, 3⟩ : Rw)] ++ L.drop k).flatMap encRw by simp)
                have HK2 := Lib.hid (show ((L.drop k).flatMap encRw).length = (L.length - k) * 1 by rw [flat_len encRw_len, List.length_drop])
                have HRDK := Lib.hid (show RowAt 1 encRw v3 (some ⟨g, k, none⟩) (L.drop k) by have h := HR.out.drop1 k; rwa [Nat.zero_add] at h)
                clear HRF HE HE2 HS HG HLS HLV HW
                go_wp2_with fail
                go_region_held3 (fun _ => True) (trivial) (first
            | ((refine step_appS (by rfl) (.tmp 111) (.tmp 114) 54 42 1 24 _ (by rfl) Try.underlying54 infoSs rfl (by decide) v3.heap.size _ 0 [] (by rfl) (own_empty (by first | exact heap_new1 _ _ | exact heap_new2 _ _ _ | exact heap_old2 _ _ _ | exact heap_new3 _ _ _ _ | exact blkA (heap_old2 _ _ _) _ | exact blkA (heap_new2 _ _ _) _) (by first | exact Nat.le_refl _ | omega | (simp <;> omega))) _ _ _ ((L.take k).flatMap encRw) (by rfl) HK.out ((RowAt.below (HR.out.takeR k) (by repeat (first | exact bref _ | exact hbI1 | exact hbI2 | exact hbI3 | (refine balloc ?_ _) | (refine bdrew ?_) | (refine bdrewN ?_ _)))).news encRw_len) (cellsRw_one _) k (Nat.zero_add _) _ (List.nil_append _) (by omega) (by decide) (Below.size (B := v3.heap.size) (by repeat (first | exact bref _ | exact hbI1 | exact hbI2 | exact hbI3 | (refine balloc ?_ _) | (refine bdrew ?_) | (refine bdrewN ?_ _)))) ?_); intro A1 c1 w1 hoI1 hgI1 hlI1; have hbI1 : Below v3.heap.size v3 w1 := bgrown (by repeat (first | exact bref _ | exact hbI1 | exact hbI2 | exact hbI3 | (refine balloc ?_ _) | (refine bdrew ?_) | (refine bdrewN ?_ _))) hgI1 (by intro j hj; simp [Value.ownBlock] at hj; omega))
            | ((refine step_appS (by rfl) (.tmp 115) (.tmp 120) 54 42 1 24 _ (by rfl) Try.underlying54 infoSs rfl (by decide) v3.heap.size (.slice A1 k c1) k _ (by rfl) (own_below hoI1 (by repeat (first | exact bref _ | (refine balloc ?_ _) | (refine bdrew ?_) | (refine bdrewN ?_ _)))) _ 1 _ (encRw ⟨[a, b, lv], some ⟨w1.heap.size, 0, none⟩, 3⟩) (by rfl) rfl (news1 (by repeat (first | exact heap_new1 _ _ | exact heap_new2 _ _ _ | exact heap_new3 _ _ _ _ | exact heap_old2 _ _ _ | (refine blkA ?_ _) | (refine (hgI1.block _ (by simp <;> omega) (by simp [Value.ownBlock] <;> omega)).trans ?_))) rfl) (encRw_one ⟨[a, b, lv], some ⟨w1.heap.size, 0, none⟩, 3⟩) (k + 1) rfl _ rfl (by omega) (by decide) (Below.size (B := v3.heap.size) (by repeat (first | exact bref _ | exact hbI1 | exact hbI2 | exact hbI3 | (refine balloc ?_ _) | (refine bdrew ?_) | (refine bdrewN ?_ _)))) ?_); intro A2 c2 w2 hoI2 hgI2 hlI2; have hbI2 : Below v3.heap.size v3 w2 := bgrown (by repeat (first | exact bref _ | exact hbI1 | exact hbI2 | exact hbI3 | (refine balloc ?_ _) | (refine bdrew ?_) | (refine bdrewN ?_ _))) hgI2 (row_mine hoI1); have hX1 : some w1.heap.size ≠ (Value.slice A1 k c1).ownBlock := (fun e => by have h9 := (hoI1.lt _ e.symm).2; omega); have hXN : some w1.heap.size ≠ (Value.slice A2 (k + 1) c2).ownBlock := (fun e => by rcases hlI2 with r | r <;> first | exact hX1 (e.trans r.symm) | (rw [← e] at r; have h9 := hgI1.size; simp at r h9 <;> omega)); have hXO : w2.ownsRow v3.heap.size 3 1 (.slice (some ⟨w1.heap.size, 0, none⟩) ([a, b, lv] : List Int).length 3) ([a, b, lv] : List Int).length (([a, b, lv] : List Int).flatMap encI) := World.ownsRow.kept (three_own (by repeat (first | exact heap_new1 _ _ | exact heap_new2 _ _ _ | exact heap_new3 _ _ _ _ | exact heap_old2 _ _ _ | (refine blkA ?_ _) | (refine (hgI1.block _ (by simp <;> omega) (by simp [Value.ownBlock] <;> omega)).trans ?_))) (by have h9 := hbI1.size; omega)) hgI2 (.inr hX1))
            | ((refine step_appS (by rfl) (.tmp 115) (.tmp 120) 54 42 1 24 _ (by rfl) Try.underlying54 infoSs rfl (by decide) v3.heap.size (.slice A1 k c1) k _ (by rfl) (own_below hoI1 (by repeat (first | exact bref _ | (refine balloc ?_ _) | (refine bdrew ?_) | (refine bdrewN ?_ _)))) _ 1 _ (encRw ⟨[a, b, lv], some ⟨(v3.heap.size + 1), 0, none⟩, 3⟩) (by rfl) rfl (news1 (by repeat (first | exact heap_new1 _ _ | exact heap_new2 _ _ _ | exact heap_new3 _ _ _ _ | exact heap_old2 _ _ _ | (refine blkA ?_ _) | (refine (hgI1.block _ (by simp <;> omega) (by simp [Value.ownBlock] <;> omega)).trans ?_))) rfl) (encRw_one ⟨[a, b, lv], some ⟨(v3.heap.size + 1), 0, none⟩, 3⟩) (k + 1) rfl _ rfl (by omega) (by decide) (Below.size (B := v3.heap.size) (by repeat (first | exact bref _ | exact hbI1 | exact hbI2 | exact hbI3 | (refine balloc ?_ _) | (refine bdrew ?_) | (refine bdrewN ?_ _)))) ?_); intro A2 c2 w2 hoI2 hgI2 hlI2; have hbI2 : Below v3.heap.size v3 w2 := bgrown (by repeat (first | exact bref _ | exact hbI1 | exact hbI2 | exact hbI3 | (refine balloc ?_ _) | (refine bdrew ?_) | (refine bdrewN ?_ _))) hgI2 (row_mine hoI1); have hX1 : some (v3.heap.size + 1) ≠ (Value.slice A1 k c1).ownBlock := (fun e => by rcases hlI1 with r | r <;> (rw [← e] at r; simp [Value.ownBlock] at r <;> omega)); have hXN : some (v3.heap.size + 1) ≠ (Value.slice A2 (k + 1) c2).ownBlock := (fun e => by rcases hlI2 with r | r <;> first | exact hX1 (e.trans r.symm) | (rw [← e] at r; have h9 := hgI1.size; simp at r h9 <;> omega)); have hXO : w2.ownsRow v3.heap.size 3 1 (.slice (some ⟨(v3.heap.size + 1), 0, none⟩) ([a, b, lv] : List Int).length 3) ([a, b, lv] : List Int).length (([a, b, lv] : List Int).flatMap encI) := World.ownsRow.kept (three_own (by repeat (first | exact heap_new1 _ _ | exact heap_new2 _ _ _ | exact heap_new3 _ _ _ _ | exact heap_old2 _ _ _ | (refine blkA ?_ _) | (refine (hgI1.block _ (by simp <;> omega) (by simp [Value.ownBlock] <;> omega)).trans ?_))) (by have h9 := hbI1.size; omega)) hgI2 (.inr hX1))
            | ((refine step_appS (by rfl) (.tmp 115) (.tmp 120) 54 42 1 24 _ (by rfl) Try.underlying54 infoSs rfl (by decide) v3.heap.size (.slice A1 k c1) k _ (by rfl) (own_below hoI1 (by repeat (first | exact bref _ | (refine balloc ?_ _) | (refine bdrew ?_) | (refine bdrewN ?_ _)))) _ 1 _ (encRw ⟨[a, b, lv], some ⟨v3.heap.size, 0, none⟩, 3⟩) (by rfl) rfl (news1 (by repeat (first | exact heap_new1 _ _ | exact heap_new2 _ _ _ | exact heap_new3 _ _ _ _ | exact heap_old2 _ _ _ | (refine blkA ?_ _) | (refine (hgI1.block _ (by simp <;> omega) (by simp [Value.ownBlock] <;> omega)).trans ?_))) rfl) (encRw_one ⟨[a, b, lv], some ⟨v3.heap.size, 0, none⟩, 3⟩) (k + 1) rfl _ rfl (by omega) (by decide) (Below.size (B := v3.heap.size) (by repeat (first | exact bref _ | exact hbI1 | exact hbI2 | exact hbI3 | (refine balloc ?_ _) | (refine bdrew ?_) | (refine bdrewN ?_ _)))) ?_); intro A2 c2 w2 hoI2 hgI2 hlI2; have hbI2 : Below v3.heap.size v3 w2 := bgrown (by repeat (first | exact bref _ | exact hbI1 | exact hbI2 | exact hbI3 | (refine balloc ?_ _) | (refine bdrew ?_) | (refine bdrewN ?_ _))) hgI2 (row_mine hoI1); have hX1 : some v3.heap.size ≠ (Value.slice A1 k c1).ownBlock := (fun e => by rcases hlI1 with r | r <;> (rw [← e] at r; simp [Value.ownBlock] at r <;> omega)); have hXN : some v3.heap.size ≠ (Value.slice A2 (k + 1) c2).ownBlock := (fun e => by rcases hlI2 with r | r <;> first | exact hX1 (e.trans r.symm) | (rw [← e] at r; have h9 := hgI1.size; simp at r h9 <;> omega)); have hXO : w2.ownsRow v3.heap.size 3 1 (.slice (some ⟨v3.heap.size, 0, none⟩) ([a, b, lv] : List Int).length 3) ([a, b, lv] : List Int).length (([a, b, lv] : List Int).flatMap encI) := World.ownsRow.kept (three_own (by repeat (first | exact heap_new1 _ _ | exact heap_new2 _ _ _ | exact heap_new3 _ _ _ _ | exact heap_old2 _ _ _ | (refine blkA ?_ _) | (refine (hgI1.block _ (by simp <;> omega) (by simp [Value.ownBlock] <;> omega)).trans ?_))) (by have h9 := hbI1.size; omega)) hgI2 (.inr hX1))
            | ((refine step_appS (by rfl) (.tmp 121) (.tmp 124) 54 42 1 24 _ (by rfl) Try.underlying54 infoSs rfl (by decide) v3.heap.size (.slice A2 (k + 1) c2) (k + 1) _ (by rfl) (by first | exact hoI2 | exact own_drew hoI2) _ _ _ ((L.drop k).flatMap encRw) (by rfl) HK2.out ((RowAt.below (HRDK.out) (by repeat (first | exact bref _ | exact hbI1 | exact hbI2 | exact hbI3 | (refine balloc ?_ _) | (refine bdrew ?_) | (refine bdrewN ?_ _)))).news encRw_len) (cellsRw_one _) ((L.length + 1)) HN.out _ (HY.out _) (by have := HN.out; omega) (by decide) (Below.size (B := v3.heap.size) (by repeat (first | exact bref _ | exact hbI1 | exact hbI2 | exact hbI3 | (refine balloc ?_ _) | (refine bdrew ?_) | (refine bdrewN ?_ _)))) ?_); intro A3 c3 w3 hoI3 hgI3 hlI3; have hbI3 : Below v3.heap.size v3 w3 := bgrown (by repeat (first | exact bref _ | exact hbI1 | exact hbI2 | exact hbI3 | (refine balloc ?_ _) | (refine bdrew ?_) | (refine bdrewN ?_ _))) hgI3 (row_mine hoI2))
            | fail)
                all_goals
                  obtain ⟨g3, rfl⟩ : ∃ g3, A3 = some ⟨g3, 0, none⟩ := by
                    rcases own_form hoI3 with ⟨_, h0, _⟩ | h
                    · omega
                    · exact h
                  have hx1 := hXO.lt _ rfl
                  have ne3 : ∀ {X : Nat}, some X ≠ (Value.slice A2 (k + 1) c2).ownBlock → X < w2.heap.size → some X ≠ (Value.slice (some ⟨g3, 0, none⟩) (L.length + 1) c3).ownBlock := fun hX hl e => by
                    rcases hlI3 with r | r
                    · exact hX (e.trans r.symm)
                    · rw [← e] at r
                      simp at r
                      omega
                  have HPT := Lib.hid (SsRes.put HS3.out hbI3 hx1.1 hs3 (own_base (World.ownsRow.kept hXO hgI3 (.inr hXN)) hs3) (ne3 hXN hx1.2) hoI3)
                  have HB9 := Lib.hid (bstep HB3.out hbI3)
                  clear hx1 ne3 hX1 hXN hXO hoI1 hoI2 hoI3 hgI1 hgI2 hgI3 hlI1 hlI2 hlI3
                  go_wp2_with fail
                  go_roundw
                  case rel => exact ⟨i + 1, L.take k ++ [⟨[a, b, lv], some ⟨_, 0, none⟩, 3⟩] ++ L.drop k, g3, c3, by omega, by go_num, by rw [put_len], by rw [put_len]; omega, Lib.hid (by rw [HPUT.out]; exact map_put HL.out HROW.out), HPT, HB9⟩
                  case measure => simp [intOf]; omega
      · obtain rfl : i = l.length := by omega
        have HL2 := Lib.hid (show L.map Rw.l = (celL s l).map (celRow s l) by have := HL.out; rwa [List.take_length] at this)
        have HLE := Lib.hid (show L.length = ((celL s l).map (celRow s l)).length by rw [← HL2.out, List.length_map])
        go_wp2_with fail
        go_ret2
        rw [HE.out, HE2.out]
        exact ⟨L, some ⟨g, 0, none⟩, c', (by rw [← HLE.out]; rfl), HL2.out, HSs.out, HBr.out⟩
  all_goals
    have e1 : cellsL s l = [] := by simp [cellsL, cellsOK, hg, h2]
    have e2 : cellsOK s l = false := by simp [cellsOK, hg, h2]
    rw [e1, e2]
    clear e1 e2
    go_enter Try.func42, Try.ntmps42
    go_wp2_with (first | (go_at_call 64; (with_reducible refine (sgoodFe_any l _ _ _ (HRF.out.below HB0.out) hlen).mono ?_); rw [hg]; rintro e v1 ⟨rfl, hb1⟩) | (go_at_call 76; (with_reducible refine (l14Size_any _ _).mono ?_); rintro e w' ⟨rfl, rfl⟩))
    go_ret2
    exact ⟨[], _, 0, rfl, rfl, (HE0.out.below hb1), bstep HB0.out hb1⟩
end Go.Proofs.Ytjjinblahmcplaa
