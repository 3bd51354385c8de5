/-
  The merged catalogue: impl.MergedCatalogue.
-/
import Derived.Test.YtlinjkfbcekepaaQuMrg
namespace Go.Proofs.Ytlinjkfbcekepaa
set_option linter.unusedVariables false
set_option linter.unusedSimpArgs false
set_option linter.unnecessarySimpa false
open Go.RowKit
attribute [local go_sem] ext_cell ext_frozen

theorem oldB_hit {a L : List Qu} {m : Qu} (h : hasQ a m = false) : oldB a (L ++ [m]) = oldB a L ++ [m] := by simp [oldB, h]
theorem oldB_miss {a L : List Qu} {m : Qu} (h : hasQ a m = true) : oldB a (L ++ [m]) = oldB a L := by simp [oldB, h]

set_option maxRecDepth 100000 in
set_option maxHeartbeats 8000000 in
theorem iMrg_any (a b : List Qu) (A B : Option Addr) (ca cb : Nat) (t f : Int) (w : World) (ha : RowAt 4 encQu w A a) (hb : RowAt 4 encQu w B b) (hla : a.length ≤ 1048576) (hlb : b.length ≤ 1048576) :
    Calls Try.prog 51 #[.slice A a.length ca, .slice B b.length cb, .int .i64 t, .int .i64 f] w (MkS2 26 4 (mrgL a b t f).length ((mrgL a b t f).flatMap encQu) (mrgOK a b t f) w) := by
  have HA := Lib.hid ha
  have HB := Lib.hid hb
  clear ha hb
  cases hg : bothB a b t f
  · have hk : mrgOK a b t f = false := by simp [mrgOK, hg]
    have HE := Lib.hid (mrgL_no hk)
    have HK := Lib.hid hk
    clear hk
    go_enter Try.func51, Try.ntmps51
    go_wp2_with (go_at_call 64; (with_reducible refine (iBoth_any a b _ _ _ _ t f _ HA.out HB.out (by omega) (by omega)).mono ?_); rw [hg]; rintro e w1 ⟨rfl, hb1⟩)
    go_ret2
    rw [HE.out, HK.out]
    exact ⟨none, 0, rfl, World.ownsRow_nil _ _ _ _, hb1⟩
  · obtain ⟨hga, hgb, hw⟩ := bothB_true hg
    have HL := Lib.hid (fun W h1 h2 => longest_any a b A B ca cb t f W h1 h2 (goodQu_len hga) (goodQu_len hgb) (goodQu_all hga) (goodQu_all hgb) hw)
    have HASC := Lib.hid (And.intro (goodQu_ascQ hga) (goodQu_ascQ hgb))
    have HOK := Lib.hid (show mrgOK a b t f = goodQu (putAllQ a (frB b (prdI a b t f) b.length)) by simp [mrgOK, hg, mrgQ])
    have HRES := Lib.hid (fun h : mrgOK a b t f = true => (mrgL_yes h).trans (show mrgQ a b t f = putAllQ a (frB b (prdI a b t f) b.length) from rfl))
    have HRN := Lib.hid (fun h : mrgOK a b t f = false => mrgL_no h)
    have hDl := lpP_len a b t f 0 0
    have hal := goodQu_len hga
    have hbl := goodQu_len hgb
    have HPR := Lib.hid (show prdI a b t f = (lpP a b t f 0 0).map (·.b) from rfl)
    clear hga hgb hw
    generalize lpP a b t f 0 0 = D at HL hDl HPR
    generalize prdI a b t f = PI at HPR HOK HRES
    go_enter Try.func51, Try.ntmps51
    go_wp2_with (first | (go_at_call 64; (with_reducible refine (iBoth_any a b _ _ _ _ t f _ HA.out HB.out (by omega) (by omega)).mono ?_); rw [hg]; rintro e w1 ⟨rfl, hb1⟩) | (go_at_call 85; (with_reducible refine (copyQu_any a _ _ _ (HA.out.below (balloc hb1 _)) (by omega)).mono ?_); rintro e w2 ⟨g0, c0, rfl, ho0, hb2⟩; have b2 : Below w.heap.size w w2 := bstep (balloc hb1 _) hb2) | (go_at_call 65; (with_reducible refine (HL.out _ (HA.out.below b2) (HB.out.below b2)).mono ?_); rintro e w3 ⟨A3, c3, rfl, ho3, hb3⟩))
    have b3 := bstep b2 hb3
    have hs1 := hb1.size
    have hs2 := hb2.size
    have hs3 := hb3.size
    simp only [World.size_alloc] at hs2
    have HO0 := Lib.hid (own_below ho0 hb3)
    have HI0 := Lib.hid (own_below (own_below (own_made (E := 3) (K := 1) (n := 0) (cur := #[]) (w := w1) rfl (Nat.zero_le _)) hb2) hb3)
    have H0L := Lib.hid (fun k (e : (Value.slice (some ⟨g0, 0, none⟩) a.length c0).ownBlock = some k) => ho0.lt k e)
    have HD0 := Lib.hid ho3
    have H3L := Lib.hid (fun k (e : (Value.slice A3 D.length c3).ownBlock = some k) => ho3.lt k e)
    simp only [World.size_alloc] at H0L
    clear ho0 ho3 hb1 hb2 b2 hb3
    go_loopw [10, 31] (fun v i wr => ∃ (k : Nat) (A' : Option Addr) (c' : Nat), k ≤ D.length ∧ i = .int .i64 k ∧ v = .slice A' k c' ∧ Below w.heap.size w wr ∧ w3.heap.size ≤ wr.heap.size ∧ Hid (wr.ownsRow w1.heap.size 3 1 (.slice A' k c') k (((D.take k).map (·.b)).flatMap encI)) ∧ Hid (wr.ownsRow (w1.alloc (.cells #[] 3)).heap.size 26 4 (.slice (some ⟨g0, 0, none⟩) a.length c0) a.length (a.flatMap encQu)) ∧ Hid (wr.ownsRow w2.heap.size 66 2 (.slice A3 D.length c3) D.length (D.flatMap encP2)) ∧ Hid (∀ q, (Value.slice A' k c').ownBlock = some q → q = w1.heap.size ∨ w3.heap.size ≤ q)) (fun _ i _ => D.length - (intOf i).toNat)
    case atStart => exact ⟨0, some ⟨w1.heap.size, 0, none⟩, 0, Nat.zero_le _, rfl, rfl, b3, Nat.le_refl _, HI0, HO0, HD0, Lib.hid (fun q e => .inl (by simpa [Value.ownBlock] using e.symm))⟩
    case round =>
      obtain ⟨k, A', c', hk, rfl, rfl, hbr, hsz, HP, HO, HD, HQ⟩ := hrel
      have hcap := own_cap HO.out
      by_cases hlt : k < D.length
      · obtain ⟨p, hp⟩ := some_get hlt
        have HN := Lib.hid (prd_take hp)
        obtain ⟨bD, oD, e3, hbD, d0, d1⟩ := (RowAt.of_own HD.out encP2_len (by decide)).p2 hp
        have k0 := ib0 k
        have k1 := ib1 hlt
        clear hp
        subst e3
        go_wp2_with (at_builtin; refine wpList_app rfl _ _ 54 3 1 8 _ rfl Try.underlying54 infoI rfl (by decide) w1.heap.size _ k _ (by rfl) ((HP.out.alloc _).alloc _) _ _ (by rfl) (heap_new2 _ _ _) rfl (encI_one p.b) (by omega) (by decide) (by simp; omega) ?_; intro g5 c5 w5 ho5 hg5 hl5)
        go_roundw
        case rel =>
          refine ⟨k + 1, some ⟨g5, 0, none⟩, c5, by omega, by go_num, by simp, bgrown (balloc (balloc hbr _) _) hg5 (fun q hq => Nat.le_trans hs1 (row_mine HP.out q hq)), Nat.le_trans hsz (Nat.le_trans (by simp; omega) hg5.size), Lib.hid (by rw [HN.out]; simpa [encI] using ho5), Lib.hid (((HO.out.alloc _).alloc _).kept hg5 ?_), Lib.hid (((HD.out.alloc _).alloc _).kept hg5 ?_), Lib.hid (fun q e => ?_)⟩
          · right
            intro e2
            have h1 := H0L.out g0 rfl
            have h2 := HQ.out g0 e2.symm
            omega
          · right
            intro e2
            obtain ⟨q, e⟩ : ∃ q, (Value.slice (some ⟨bD, oD, none⟩) D.length c3).ownBlock = some q := ⟨_, rfl⟩
            have h1 := H3L.out q e
            rw [e] at e2
            have h2 := HQ.out q e2.symm
            omega
          · have e' : g5 = q := by simpa [Value.ownBlock] using e
            rcases hl5 with r | r
            · exact HQ.out q (r.trans (by simp [Value.ownBlock, e']))
            · right
              simp [Value.ownBlock] at r
              omega
        case measure => simp [intOf]; omega
      · obtain rfl : k = D.length := by omega
        have HPI := HP
        rw [List.take_length, ← HPR.out] at HPI
        have hPl : PI.length = D.length := by rw [HPR.out]; simp
        obtain ⟨w4, hw4⟩ : ∃ w4 : World, w4 = wr := ⟨_, rfl⟩
        have HO1 := Lib.hid (own_base HO.out (show w.heap.size ≤ (w1.alloc (.cells #[] 3)).heap.size by simp; omega))
        rw [← hw4] at hbr hsz HPI HO1 ⊢
        have HAP := Lib.hid (fun q (e : (Value.slice A' D.length c').ownBlock = some q) => (show q ≠ g0 ∧ q < w4.heap.size from ⟨fun h => by
          have h1 := H0L.out g0 rfl
          have h2 := HQ.out q e
          omega, (HPI.out.lt q e).2⟩))
        clear hw4 HP HD HQ HL H0L H3L HPR hcap HO HO0 HI0 HD0 b3
        have hs4 := hbr.size
        go_wp2_with fail
        go_loopw [11, 43] (fun v i wr => ∃ (k : Nat) (L : List Qu) (g1 c1 : Nat), k ≤ b.length ∧ i = .int .i64 k ∧ v = .slice (some ⟨g1, 0, none⟩) L.length c1 ∧ L.length ≤ a.length + k ∧ Hid (L = a ++ oldB a (frB b PI k)) ∧ Below w.heap.size w wr ∧ w4.heap.size ≤ wr.heap.size ∧ Hid (g1 = g0 ∨ w4.heap.size ≤ g1) ∧ Hid (wr.ownsRow w1.heap.size 3 1 (.slice A' D.length c') D.length (PI.flatMap encI)) ∧ Hid (wr.ownsRow w.heap.size 26 4 (.slice (some ⟨g1, 0, none⟩) L.length c1) L.length (L.flatMap encQu))) (fun _ i _ => b.length - (intOf i).toNat)
        case atStart => exact ⟨0, a, g0, c0, Nat.zero_le _, rfl, rfl, Nat.le_refl _, Lib.hid (by simp [frB, oldB]), hbr, Nat.le_refl _, Lib.hid (.inl rfl), HPI, HO1⟩
        case round =>
          clear HO1 HPI
          obtain ⟨k, L, g1, c1, hk, rfl, rfl, hLl, HL, hbr, hz4, HG1, HPI, HO⟩ := hrel
          have hcap := own_cap HO.out
          by_cases hlt : k < b.length
          · obtain ⟨m, hm⟩ := some_get hlt
            have k0 := ib0 k
            have k1 := ib1 hlt
            obtain ⟨bB, oB, e3, hbB, r0, r1, r2, r3⟩ := (HB.out.below hbr).qu hm
            have HB0 := Lib.hid (box4Z wr 26 m)
            have hH := fun W (hW : Below wr.heap.size wr W) => hasI_any PI A' c' (k : Int) W ((RowAt.of_own HPI.out encI_len (by decide)).below hW) (by omega)
            rw [hPl] at hH
            have HQ := Lib.hid (fun W (hW : Below wr.heap.size wr W) => hasQ_any a A ca m W (HA.out.below (bstep hbr hW)) (by omega))
            subst e3
            cases hh : hasB PI (k : Int)
            · have HN := Lib.hid (frB_hit hm hh)
              have HH := Lib.hid (fun W hW => by have := hH W hW; rw [hh] at this; exact this)
              clear hH hm
              cases hq : hasQ a m
              · go_wp2_with (first | (go_at_call 88; (with_reducible refine (HH.out _ (balloc (bref _) _)).mono ?_); rintro e w5 ⟨rfl, hb5⟩; obtain ⟨x0, x1, x2, x3⟩ := cell4Z (by simp) HB0.out hb5; have hs5 := hb5.size) | (go_at_call 89; (with_reducible refine (HQ.out _ (bstep (balloc (bref _) _) hb5)).mono ?_); rw [hq]; rintro e w6 ⟨rfl, hb6⟩; obtain ⟨x0, x1, x2, x3⟩ := cell4Z (by simp) HB0.out (bstep hb5 hb6); have hs6 := hb6.size; have HO6 := Lib.hid (own_below (own_below (HO.out.alloc _) hb5) hb6)) | (at_builtin; refine wpList_app rfl _ _ 31 26 4 32 _ rfl Try.underlying31 infoQu rfl (by decide) w.heap.size _ L.length _ (by rfl) (HO6.out.alloc _) _ _ (by rfl) (heap_new1 _ _) rfl (encQu_one m) (by omega) (by decide) (by simp at hs5 ⊢; omega) ?_; intro g7 c7 w7 ho7 hg7 hl7))
                go_roundw
                case rel =>
                  refine ⟨k + 1, L ++ [m], g7, c7, by omega, by go_num, by simp, by simp; omega, Lib.hid (by rw [HN.out, oldB_hit hq, HL.out, List.append_assoc]), bgrown (balloc (bstep (bstep (balloc hbr _) hb5) hb6) _) hg7 (fun k hk => row_mine HO6.out k hk), Nat.le_trans hz4 (Nat.le_trans (by simp at hs5 ⊢; omega) hg7.size), Lib.hid ?_, Lib.hid (((own_below (own_below (HPI.out.alloc _) hb5) hb6).alloc _).kept hg7 ?_), Lib.hid (by simpa [encQu] using ho7)⟩
                  · rcases hl7 with r | r
                    · simp [Value.ownBlock] at r
                      rw [← r]; exact HG1.out
                    · right
                      simp [Value.ownBlock] at r
                      simp at hs5
                      omega
                  · cases e : (Value.slice A' D.length c').ownBlock with
                    | none => exact .inl rfl
                    | some q =>
                      right
                      intro e2
                      have h1 := HAP.out q e
                      have h2 : q = g1 := by simpa [Value.ownBlock] using e2
                      have h3 := HG1.out
                      omega
                case measure => simp [intOf]; omega
              · go_wp2_with (first | (go_at_call 88; (with_reducible refine (HH.out _ (balloc (bref _) _)).mono ?_); rintro e w5 ⟨rfl, hb5⟩; obtain ⟨x0, x1, x2, x3⟩ := cell4Z (by simp) HB0.out hb5; have hs5 := hb5.size) | (go_at_call 89; (with_reducible refine (HQ.out _ (bstep (balloc (bref _) _) hb5)).mono ?_); rw [hq]; rintro e w6 ⟨rfl, hb6⟩))
                go_roundw
                case rel => exact ⟨k + 1, L, g1, c1, by omega, by go_num, rfl, by omega, Lib.hid (by rw [HN.out, oldB_miss hq]; exact HL.out), bstep (bstep (balloc hbr _) hb5) hb6, Nat.le_trans hz4 (Nat.le_trans (Nat.le_trans (by simp) hb5.size) hb6.size), HG1, Lib.hid (own_below (own_below (HPI.out.alloc _) hb5) hb6), Lib.hid (own_below (own_below (HO.out.alloc _) hb5) hb6)⟩
                case measure => simp [intOf]; omega
            · have HN := Lib.hid (frB_miss (b := b) hh)
              have HH := Lib.hid (fun W hW => by have := hH W hW; rw [hh] at this; exact this)
              clear hH hm
              go_wp2_with (go_at_call 88; (with_reducible refine (HH.out _ (balloc (bref _) _)).mono ?_); rintro e w5 ⟨rfl, hb5⟩)
              go_roundw
              case rel => exact ⟨k + 1, L, g1, c1, by omega, by go_num, rfl, by omega, Lib.hid (by rw [HN.out]; exact HL.out), bstep (balloc hbr _) hb5, Nat.le_trans hz4 (Nat.le_trans (by simp) hb5.size), HG1, Lib.hid (own_below (HPI.out.alloc _) hb5), Lib.hid (own_below (HO.out.alloc _) hb5)⟩
              case measure => simp [intOf]; omega
          · obtain rfl : k = b.length := by omega
            have hcapO := own_cap HO.out
            have HS := Lib.hid (sortQu_any L g1 c1 w.heap.size wr HO.out (by omega))
            clear HPI HAP HG1 hcap
            go_wp2_with fail
            refine HS.out.mono ?_; rintro e w8 ⟨rfl, S, hp, hs, hSl, ho8, hg8⟩
            have b8 := bgrown hbr hg8 (fun k hk => row_mine HO.out k hk)
            have HO8 := Lib.hid ho8
            have hSe : S = putAllQ a (frB b PI b.length) := by
              rw [HL.out] at hp
              exact mrg_law HASC.out.1 HASC.out.2 hp hs
            have hA := iIsCat_any S (some ⟨g1, 0, none⟩) c1 w8 (RowAt.of_own ho8 encQu_len (by decide)) (by omega)
            rw [hSl] at hA
            have HAC := Lib.hid hA
            rw [← hSe] at HOK HRES
            have HSL := Lib.hid hSl
            clear ho8 hp hs HS HO hA hSe hg8 hSl
            cases hq : goodQu S
            · have hk : mrgOK a b t f = false := HOK.out.trans hq
              have HE := Lib.hid (HRN.out hk)
              have HK := Lib.hid hk
              clear hk
              go_wp2_with (go_at_call 22; (with_reducible refine (HAC.out).mono ?_); rw [hq]; rintro e w9 ⟨rfl, hb9⟩)
              go_ret2
              rw [HE.out, HK.out]
              exact ⟨none, 0, rfl, World.ownsRow_nil _ _ _ _, bstep b8 hb9⟩
            · have hk : mrgOK a b t f = true := HOK.out.trans hq
              have HE := Lib.hid (HRES.out hk)
              have HK := Lib.hid hk
              clear hk
              go_wp2_with (go_at_call 22; (with_reducible refine (HAC.out).mono ?_); rw [hq]; rintro e w9 ⟨rfl, hb9⟩)
              go_ret2
              rw [HE.out, HK.out, HSL.out]
              exact ⟨some ⟨g1, 0, none⟩, c1, rfl, own_below HO8.out hb9, bstep b8 hb9⟩
end Go.Proofs.Ytlinjkfbcekepaa
