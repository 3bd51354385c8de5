/-
  impl.GapsBetween: rows of two hours, the last one made longer while nobody has the hour.
-/
import Derived.Test.YtldhlmjfpnpamaaDuGap
import Derived.Test.YtldhlmjfpnpamaaSs
namespace Go.Proofs.Ytldhlmjfpnpamaa
open Go.RowKit
attribute [local go_sem] ext_cell ext_frozen

theorem gap_last {L : List Rw} {E : List (Int × Int)} {p : Int × Int} (h : L.map Rw.l = (E ++ [p]).map gRow) : ∃ (F : List Rw) (m : Rw), L = F ++ [m] ∧ F.map Rw.l = E.map gRow ∧ m.l = [p.1, p.2] := by
  rcases List.eq_nil_or_concat L with rfl | ⟨F, m, rfl⟩
  · simp at h
  · rw [List.concat_eq_append] at h ⊢
    rw [List.map_append, List.map_append] at h
    have h2 := List.append_inj' h rfl
    refine ⟨F, m, rfl, h2.1, ?_⟩
    simpa [gRow] using h2.2
theorem two_own {w : World} {base g : Nat} {a b : Int} (h : w.heap[g]? = some (.cells #[.int .i64 a, .int .i64 b] 3 (0, 0))) (hb : base ≤ g) : w.ownsRow base 3 1 (.slice (some ⟨g, 0, none⟩) ([a, b] : List Int).length 2) ([a, b] : List Int).length (([a, b] : List Int).flatMap encI) :=
  ⟨by simp [encI], .inr ⟨g, 2, #[.int .i64 a, .int .i64 b], rfl, hb, h, Nat.le_refl _, by unfold maxLen; omega, by simp, by simp [encI]⟩⟩
set_option maxRecDepth 100000 in
set_option maxHeartbeats 4000000 in
theorem iGap_any (l : List Du) (A : Option Addr) (c : Nat) (f t : Int) (w : World) (hr : RowAt 4 encDu w A l) (hlen : l.length ≤ 2097152) (hcap : l.length ≤ c) :
    Calls Try.prog 25 #[.slice A l.length c, .int .i64 f, .int .i64 t] w (MkSs (gapL l f t) (gapOK l f t) w) := by
  have HR := Lib.hid hr
  clear hr
  cases hok : gapOK l f t
  · have HE := Lib.hid (show gapL l f t = [] by simp [gapL, hok])
    unfold gapOK at hok
    cases hg : goodDu l
    · go_enter Try.func25, Try.ntmps25
      go_wp2_with (go_at_call 20; (with_reducible refine (iAreDu_any l _ _ _ HR.out hlen hcap).mono ?_); rw [hg]; rintro e w1 ⟨rfl, hb1⟩)
      go_ret2
      rw [HE.out]
      exact ⟨[], none, 0, rfl, rfl, SsRes.nil_ _ _, hb1⟩
    · rw [hg] at hok
      by_cases h1 : f < 0
      · clear hok
        go_enter Try.func25, Try.ntmps25
        go_wp2_with (go_at_call 20; (with_reducible refine (iAreDu_any l _ _ _ HR.out hlen hcap).mono ?_); rw [hg]; rintro e w1 ⟨rfl, hb1⟩)
        go_ret2
        rw [HE.out]
        exact ⟨[], none, 0, rfl, rfl, SsRes.nil_ _ _, hb1⟩
      · by_cases h2 : t ≤ f
        · clear hok
          go_enter Try.func25, Try.ntmps25
          go_wp2_with (go_at_call 20; (with_reducible refine (iAreDu_any l _ _ _ HR.out hlen hcap).mono ?_); rw [hg]; rintro e w1 ⟨rfl, hb1⟩)
          go_ret2
          rw [HE.out]
          exact ⟨[], none, 0, rfl, rfl, SsRes.nil_ _ _, hb1⟩
        · by_cases h3 : 9999 < t
          · clear hok
            go_enter Try.func25, Try.ntmps25
            go_wp2_with (go_at_call 20; (with_reducible refine (iAreDu_any l _ _ _ HR.out hlen hcap).mono ?_); rw [hg]; rintro e w1 ⟨rfl, hb1⟩)
            go_ret2
            rw [HE.out]
            exact ⟨[], none, 0, rfl, rfl, SsRes.nil_ _ _, hb1⟩
          · exfalso
            simp at hok
            omega
  · have HE := Lib.hid (show gapL l f t = (gK l f (t - f).toNat).map gRow by simp [gapL, hok])
    unfold gapOK at hok
    simp only [Bool.and_eq_true, decide_eq_true_eq] at hok
    obtain ⟨hg, ⟨h0, h1⟩, h2⟩ := hok
    have HG := Lib.hid (goodDu_all hg)
    have n1 : ¬ f < 0 := by omega
    have n2 : ¬ t ≤ f := by omega
    have n3 : ¬ 9999 < t := by omega
    go_enter Try.func25, Try.ntmps25
    go_wp2_with (go_at_call 20; (with_reducible refine (iAreDu_any l _ _ _ HR.out hlen hcap).mono ?_); rw [hg]; rintro e w1 ⟨rfl, hb1⟩)
    have HB1 := Lib.hid hb1
    have HE0 := Lib.hid (SsRes.mk (L := []) (own_empty (E := 51) (K := 1) (heap_new1 w1 (.cells #[] 51)) (Nat.le_refl _)) (fun p hp => by simp at hp) List.Pairwise.nil)
    have HBE := Lib.hid (balloc (bref w1) (.cells #[] 51))
    clear hb1 hg
    go_loopw [8, 9] (fun vo vh wr => ∃ (k : Nat) (L : List Rw) (A' : Option Addr) (c' : Nat), (k : Int) ≤ t - f ∧ vh = .int .i64 (f + k) ∧ vo = .slice A' L.length c' ∧ L.length ≤ k ∧ Hid (L.map Rw.l = (gK l f k).map gRow) ∧ Hid (SsRes w1.heap.size wr A' c' L) ∧ Hid (Below w1.heap.size w1 wr)) (fun _ h _ => (t - intOf h).toNat)
    case atStart => exact ⟨0, [], some ⟨w1.heap.size, 0, none⟩, 0, by omega, by simp, rfl, Nat.le_refl _, Lib.hid (by simp [gK]), HE0, HBE⟩
    case round =>
      obtain ⟨k, L, A', c', hk, rfl, rfl, hLk, HL, HS, HB⟩ := hrel
      by_cases hlt : f + (k : Int) < t
      · have hs1 := HB.out.size
        cases hc : covB l (f + k)
        case true =>
          have hpos : 0 < (onL (f + k) l).length := by unfold covB at hc; simpa using hc
          have hposI : (0 : Int) < ((onL (f + k) l).length : Int) := by omega
          go_wp2_with fail
          refine (onDuty_any l A c (f + k) wr (HR.out.below (bstep HB1.out HB.out)) hlen HG.out).mono ?_; rintro e w2 ⟨A2, c2, rfl, ho2, hb2⟩
          clear ho2
          go_wp2_with fail
          go_roundw
          case rel => exact ⟨k + 1, L, A', c', by omega, by first | rfl | go_num, rfl, by omega, Lib.hid (by simp only [gK, hc, gStep_cov]; exact HL.out), Lib.hid (HS.out.below hb2), Lib.hid (bstep HB.out hb2)⟩
          case measure => simp [intOf]; omega
        case false =>
          have hpos : ¬ 0 < (onL (f + k) l).length := by unfold covB at hc; simpa using hc
          have hposI : ¬ (0 : Int) < ((onL (f + k) l).length : Int) := by omega
          have HC := Lib.hid hc
          clear hc
          go_wp2_with fail
          refine (onDuty_any l A c (f + k) wr (HR.out.below (bstep HB1.out HB.out)) hlen HG.out).mono ?_; rintro e w2 ⟨A2, c2, rfl, ho2, hb2⟩
          have HS2 := Lib.hid (HS.out.below hb2)
          have HB2 := Lib.hid (bstep HB.out hb2)
          have hs2 := HB2.out.size
          clear ho2 hb2
          rcases List.eq_nil_or_concat (gK l f k) with e0 | ⟨E, p, e0⟩
          case' inl =>
            have hL0 : L = [] := by have := HL.out; rw [e0] at this; simpa using this
            have HN := Lib.hid (show gK l f (k + 1) = gK l f k ++ [(f + k, f + k + 1)] by simp only [gK, HC.out, e0, gStep_nil, List.nil_append])
            have hl0 : L.length = 0 := by rw [hL0]; rfl
            have hneg : ¬ (0 : Int) ≤ IntKind.i64.wrap ((L.length : Int) - 1) := by rw [hl0]; decide
            have hneg2 : ¬ (0 : Int) ≤ (L.length : Int) - 1 := by omega
            have hneg3 : ¬ (1 : Int) ≤ (L.length : Int) := by omega
            have hneg4 : ¬ 1 ≤ L.length := by omega
            clear hL0 hl0
          case' inr =>
            rw [List.concat_eq_append] at e0
            obtain ⟨F, m, e1, e2, e3⟩ := gap_last (by rw [← e0]; exact HL.out)
            have hlF : L.length = F.length + 1 := by rw [e1]; simp
            have hmL : L[F.length]? = some m := by rw [e1]; simp
            have hw1 : IntKind.i64.wrap ((L.length : Int) - 1) = (F.length : Int) := by rw [IntKind.wrap_i64]; omega
            have z0 := ib0 F.length
            have z1 : (F.length : Int) < (L.length : Int) := by omega
            obtain ⟨bo, oo, eA, hbo, q0, qs⟩ := HS2.out.at_.rw_ hmL
            obtain ⟨b, eb, enb, hin⟩ := HS2.out.ins m (List.mem_of_getElem? hmL)
            have hml : m.l.length = 2 := by rw [e3]; rfl
            rw [hml] at q0
            rw [e3] at hin qs
            subst eA
            rw [eb] at q0 hin qs
            clear hlF
            obtain ⟨_, _, eq, hbb, r1⟩ := qs.i (k := 1) (n := p.2) rfl
            cases eq
            by_cases hp : p.2 = f + k
            · have hfz := hin.frozenAt 1
              have hst := (World.ownsRow.stored hin 1 (.int .i64 (f + k + 1))).1
              have hg2 : w2.grownBy (w2.setCell ⟨b, 1, none⟩ (.int .i64 (f + k + 1))) (some b) := only_setCell (World.grownBy.refl w2 (some b)) (.inl rfl) _
              have hbl := (hin.lt b rfl).1
              have HT := Lib.hid (SsRes.turn (m' := ⟨[p.1, f + k + 1], m.A, m.c⟩) HS2.out hmL rfl (by rw [hml]; rfl) rfl eb hg2 (by rw [e3]; simpa [encI] using hst))
              have HB3 := Lib.hid (bgrown HB2.out hg2 (fun k hk => by cases hk; exact hbl))
              have HN := Lib.hid (show (L.set F.length ⟨[p.1, f + k + 1], m.A, m.c⟩).map Rw.l = (gK l f (k + 1)).map gRow by
                have e5 : L.set F.length ⟨[p.1, f + k + 1], m.A, m.c⟩ = F ++ [⟨[p.1, f + k + 1], m.A, m.c⟩] := by rw [e1]; simp
                rw [e5]
                simp only [gK, HC.out, e0]
                rw [gStep_ext hp, List.map_append, List.map_append, e2]
                rfl)
              clear e1 e2 e3 hmL hst hg2 hin
              go_wp2_with fail
              go_roundw
              case rel => exact ⟨k + 1, L.set F.length ⟨[p.1, f + k + 1], m.A, m.c⟩, _, c', by omega, by first | rfl | go_num, by rw [List.length_set], by rw [List.length_set]; omega, HN, HT, HB3⟩
              case measure => simp [intOf]; omega
            have HN := Lib.hid (show gK l f (k + 1) = gK l f k ++ [(f + k, f + k + 1)] by simp only [gK, HC.out, e0]; exact gStep_new hp)
            clear e0 e1 e2 e3 hmL hin hml
          all_goals
            have HOS := Lib.hid HS2.out.out
            have HGE : w1.heap.size ≤ w2.heap.size := hs2
            go_wp2_with (at_builtin; (refine wpList_app rfl _ _ 38 51 1 24 _ rfl Try.underlying38 infoSs rfl (by decide) w1.heap.size _ L.length _ (by rfl) ((HOS.out.alloc _).alloc _) _ _ (by rfl) (heap_new2 w2 (.cells #[.int .i64 (f + k), .int .i64 (f + k + 1)] 3) (.cells #[.slice (some ⟨w2.heap.size, 0, none⟩) 2 2] 51)) rfl (encRw_one ⟨[f + k, f + k + 1], some ⟨w2.heap.size, 0, none⟩, 2⟩) (by omega) (by decide) (by simp; omega) ?_; intro g7 c7 w7 ho7 hg7 hl7; skip))
            have hb7 : Below w2.heap.size w2 ((w2.alloc (.cells #[.int .i64 (f + k), .int .i64 (f + k + 1)] 3)).alloc (.cells #[.slice (some ⟨w2.heap.size, 0, none⟩) 2 2] 51)) := balloc (balloc (bref w2) _) _
            have hpush := SsRes.push (l := [f + k, f + k + 1]) (cs := 2) (q := w2.heap.size + 2) HS2.out (Nat.le_refl _) hb7 (by omega) (by simp) (World.ownsRow.alloc (two_own (heap_new1 w2 (.cells #[.int .i64 (f + k), .int .i64 (f + k + 1)] 3)) HGE) _) (by simpa [encRw] using ho7) hg7 (hl7.elim .inl (fun e => .inr (by subst e; simp [Value.ownBlock])))
            have HB7 := Lib.hid (bgrown (bstep HB2.out hb7) hg7 (row_mine HOS.out))
            go_roundw
            case rel => exact ⟨k + 1, L ++ [⟨[f + k, f + k + 1], some ⟨w2.heap.size, 0, none⟩, 2⟩], some ⟨g7, 0, none⟩, c7, by omega, by first | rfl | go_num, by simp, by simp; omega, Lib.hid (by rw [List.map_append, HL.out, HN.out, List.map_append]; rfl), Lib.hid hpush, HB7⟩
            case measure => simp [intOf]; omega
      · have HKN := Lib.hid (show (t - f).toNat = k by omega)
        have HLE := Lib.hid (show L.length = ((gK l f k).map gRow).length by rw [← HL.out, List.length_map])
        go_wp2_with fail
        go_ret2
        rw [HE.out, HKN.out]
        exact ⟨L, A', c', (by rw [← HLE.out]; rfl), HL.out, HS.out.base_ HB1.out.size, bstep HB1.out HB.out⟩
end Go.Proofs.Ytldhlmjfpnpamaa
