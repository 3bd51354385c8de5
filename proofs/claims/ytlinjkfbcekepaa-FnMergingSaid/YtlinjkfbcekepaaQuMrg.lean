/-
  The merged catalogue: impl and spec answer alike.
-/
import Derived.Test.YtlinjkfbcekepaaQuMrgP
import Derived.Test.YtlinjkfbcekepaaQuLng
import Derived.Test.YtlinjkfbcekepaaQuPutQ
namespace Go.Proofs.Ytlinjkfbcekepaa
set_option linter.unusedVariables false
set_option linter.unusedSimpArgs false
set_option linter.unnecessarySimpa false
open Go.RowKit
attribute [local go_sem] ext_cell ext_frozen

theorem prd_take {D : List P2} {k : Nat} {p : P2} (h : D[k]? = some p) : (D.take (k + 1)).map (·.b) = (D.take k).map (·.b) ++ [p.b] := by
  rw [List.take_add_one, h]; simp
theorem mrgL_no {a b : List Qu} {t f : Int} (h : mrgOK a b t f = false) : mrgL a b t f = [] := by simp [mrgL, h]
theorem mrgL_yes {a b : List Qu} {t f : Int} (h : mrgOK a b t f = true) : mrgL a b t f = mrgQ a b t f := by simp [mrgL, h]

set_option maxRecDepth 100000 in
set_option maxHeartbeats 8000000 in
theorem sMrg_any (a b : List Qu) (A B : Option Addr) (ca cb : Nat) (t f : Int) (w : World) (ha : RowAt 4 encQu w A a) (hb : RowAt 4 encQu w B b) (hla : a.length ≤ 1048576) (hlb : b.length ≤ 1048576) :
    Calls Try.prog 50 #[.slice A a.length ca, .slice B b.length cb, .int .i64 t, .int .i64 f] w (MkS2 26 4 (mrgL a b t f).length ((mrgL a b t f).flatMap encQu) (mrgOK a b t f) w) := by
  have HA := Lib.hid ha
  have HB := Lib.hid hb
  clear ha hb
  cases hg : bothB a b t f
  · have hk : mrgOK a b t f = false := by simp [mrgOK, hg]
    have HE := Lib.hid (mrgL_no hk)
    have HK := Lib.hid hk
    clear hk
    go_enter Try.func50, Try.ntmps50
    go_wp2_with (go_at_call 66; (with_reducible refine (sBoth_any a b _ _ _ _ t f _ HA.out HB.out (by omega) (by omega)).mono ?_); rw [hg]; rintro e w1 ⟨rfl, hb1⟩)
    go_ret2
    rw [HE.out, HK.out]
    exact ⟨some ⟨w1.heap.size, 0, none⟩, 0, rfl, own_base (own_made (cur := #[]) rfl (Nat.zero_le _)) hb1.size, balloc hb1 _⟩
  · obtain ⟨hga, hgb, hw⟩ := bothB_true hg
    have HL := Lib.hid (fun W h1 h2 => l16Pairs_any a b A B ca cb t f W h1 h2 (goodQu_len hga) (goodQu_len hgb) (goodQu_all hga) (goodQu_all hgb) hw)
    have HOK := Lib.hid (show mrgOK a b t f = goodQu (putAllQ a (frB b (prdI a b t f) b.length)) by simp [mrgOK, hg, mrgQ])
    have HRES := Lib.hid (fun h : mrgOK a b t f = true => (mrgL_yes h).trans (show mrgQ a b t f = putAllQ a (frB b (prdI a b t f) b.length) from rfl))
    have HRN := Lib.hid (fun h : mrgOK a b t f = false => mrgL_no h)
    have hDl := lpP_len a b t f 0 0
    have hal := goodQu_len hga
    have hbl := goodQu_len hgb
    have HPR := Lib.hid (show prdI a b t f = (lpP a b t f 0 0).map (·.b) from rfl)
    clear hga hgb hw
    generalize lpP a b t f 0 0 = D at HL hDl HPR
    generalize prdI a b t f = PI at HPR HOK HRES
    go_enter Try.func50, Try.ntmps50
    go_wp2_with (first | (go_at_call 66; (with_reducible refine (sBoth_any a b _ _ _ _ t f _ HA.out HB.out (by omega) (by omega)).mono ?_); rw [hg]; rintro e w1 ⟨rfl, hb1⟩) | (at_builtin; refine wpList_appS rfl _ _ 31 26 4 32 _ rfl Try.underlying31 infoQu rfl (by decide) w1.heap.size _ 0 [] (by rfl) (own_empty (heap_new1 _ _) (Nat.le_refl _)) _ _ _ (a.flatMap encQu) (by rfl) (cellsQu_len a) ((RowAt.below HA.out (balloc hb1 _)).news encQu_len) (cellsQu_one a) a.length (Nat.zero_add _) _ (List.nil_append _) (by omega) (by decide) (by simp) ?_; intro A0 c0 w2 ho0 hg0 hl0; have b2 : Below w.heap.size w w2 := bgrown (balloc hb1 _) hg0 (by intro k hk; simp [Value.ownBlock] at hk; have := hb1.size; omega)) | (go_at_call 67; (with_reducible refine (HL.out _ (HA.out.below (balloc b2 _)) (HB.out.below (balloc b2 _))).mono ?_); rintro e w3 ⟨A3, c3, rfl, ho3, hb3⟩))
    have b3 := bstep (balloc b2 (.cells #[] 3)) hb3
    have HO0 := Lib.hid (own_below (ho0.alloc (.cells #[] 3)) hb3)
    have HO0 := Lib.hid (own_base HO0.out hb1.size)
    have hs2 := b2.size
    have HI0 := Lib.hid (own_below (own_made (E := 3) (K := 1) (n := 0) (cur := #[]) (w := w2) rfl (Nat.zero_le _)) hb3)
    have H0L := Lib.hid (fun k (e : (Value.slice A0 a.length c0).ownBlock = some k) => (ho0.lt k e).2)
    have HD0 := Lib.hid ho3
    have H3L := Lib.hid (fun k (e : (Value.slice A3 D.length c3).ownBlock = some k) => ho3.lt k e)
    clear ho0 hg0 hl0 ho3 hb1 b2
    have hs3 := hb3.size
    simp only [World.size_alloc] at hs3 H3L
    clear hb3
    go_loopw [11, 13] (fun v i wr => ∃ (k : Nat) (A' : Option Addr) (c' : Nat), k ≤ D.length ∧ i = .int .i64 k ∧ v = .slice A' k c' ∧ Below w.heap.size w wr ∧ w3.heap.size ≤ wr.heap.size ∧ Hid (wr.ownsRow w2.heap.size 3 1 (.slice A' k c') k (((D.take k).map (·.b)).flatMap encI)) ∧ Hid (wr.ownsRow w.heap.size 26 4 (.slice A0 a.length c0) a.length (a.flatMap encQu)) ∧ Hid (wr.ownsRow (w2.alloc (.cells #[] 3)).heap.size 66 2 (.slice A3 D.length c3) D.length (D.flatMap encP2)) ∧ Hid (∀ q, (Value.slice A' k c').ownBlock = some q → q = w2.heap.size ∨ w3.heap.size ≤ q)) (fun _ i _ => D.length - (intOf i).toNat)
    case atStart => exact ⟨0, some ⟨w2.heap.size, 0, none⟩, 0, Nat.zero_le _, rfl, rfl, b3, Nat.le_refl _, HI0, HO0, HD0, Lib.hid (fun q e => .inl (by simpa [Value.ownBlock] using e.symm))⟩
    case round =>
      obtain ⟨k, A', c', hk, rfl, rfl, hbr, hsz, HP, HO, HD, HQ⟩ := hrel
      have hcap := own_cap HO.out
      by_cases hlt : k < D.length
      · obtain ⟨p, hp⟩ := some_get hlt
        have HN := Lib.hid (prd_take hp)
        obtain ⟨bD, oD, e3, hbD, d0, d1⟩ := (RowAt.of_own HD.out encP2_len (by decide)).p2 hp
        have k0 := ib0 k
        have k1 := ib1 hlt
        clear hp
        subst e3
        go_wp2_with (at_builtin; refine wpList_app rfl _ _ 54 3 1 8 _ rfl Try.underlying54 infoI rfl (by decide) w2.heap.size _ k _ (by rfl) (HP.out.alloc _) _ _ (by rfl) (heap_new1 _ _) rfl (encI_one p.b) (by omega) (by decide) (by simp; omega) ?_; intro g5 c5 w5 ho5 hg5 hl5)
        go_roundw
        case rel =>
          have hbw := balloc hbr (.cells #[.int .i64 p.b] 3)
          refine ⟨k + 1, some ⟨g5, 0, none⟩, c5, by omega, by go_num, by simp, bgrown hbw hg5 (fun q hq => Nat.le_trans hs2 (row_mine HP.out q hq)), Nat.le_trans hsz (Nat.le_trans (by simp) hg5.size), Lib.hid (by rw [HN.out]; simpa [encI] using ho5), Lib.hid ((HO.out.alloc _).kept hg5 ?_), Lib.hid ((HD.out.alloc _).kept hg5 ?_), Lib.hid (fun q e => ?_)⟩
          · cases e : (Value.slice A0 a.length c0).ownBlock with
            | none => exact .inl rfl
            | some q =>
              right
              intro e2
              have h1 := H0L.out q e
              have h2 := (HP.out.lt q e2.symm).1
              omega
          · right
            intro e2
            obtain ⟨q, e⟩ : ∃ q, (Value.slice (some ⟨bD, oD, none⟩) D.length c3).ownBlock = some q := ⟨_, rfl⟩
            have h1 := H3L.out q e
            rw [e] at e2
            have h2 := HQ.out q e2.symm
            omega
          · have e' : g5 = q := by simpa [Value.ownBlock] using e
            rcases hl5 with r | r
            · exact HQ.out q (r.trans (by simp [Value.ownBlock, e']))
            · right
              simp [Value.ownBlock] at r
              omega
        case measure => simp [intOf]; omega
      · obtain rfl : k = D.length := by omega
        have HPI := Lib.hid (RowAt.of_own HP.out encI_len (by decide))
        rw [List.take_length, ← HPR.out] at HPI
        have hPl : PI.length = D.length := by rw [HPR.out]; simp
        obtain ⟨w4, hw4⟩ : ∃ w4 : World, w4 = wr := ⟨_, rfl⟩
        rw [← hw4] at hbr HPI HO ⊢
        clear hw4 HP HD HQ HL H0L H3L HPR hcap
        have hs4 := hbr.size
        go_wp2_with fail
        go_loopw [10, 14] (fun v i wr => ∃ (k : Nat) (L : List Qu) (A1 : Option Addr) (c1 : Nat), k ≤ b.length ∧ i = .int .i64 k ∧ v = .slice A1 L.length c1 ∧ L.length ≤ a.length + k ∧ Hid (L = putAllQ a (frB b PI k)) ∧ Below w.heap.size w wr ∧ Below w4.heap.size w4 wr ∧ Hid (wr.ownsRow w.heap.size 26 4 (.slice A1 L.length c1) L.length (L.flatMap encQu))) (fun _ i _ => b.length - (intOf i).toNat)
        case atStart => exact ⟨0, a, A0, c0, Nat.zero_le _, rfl, rfl, Nat.le_refl _, Lib.hid rfl, hbr, bref _, HO⟩
        case round =>
          clear HO
          obtain ⟨k, L, A1, c1, hk, rfl, rfl, hLl, HL, hbr, hb4, HO⟩ := hrel
          have hsz := hb4.size
          have hcap := own_cap HO.out
          have haf := Lib.hid (af_own HO.out)
          by_cases hlt : k < b.length
          · obtain ⟨m, hm⟩ := some_get hlt
            have k0 := ib0 k
            have k1 := ib1 hlt
            have hH := fun W (hW : Below wr.heap.size wr W) => l1Has_any PI A' c' (k : Int) W (HPI.out.below (bstep hb4 hW)) (by omega)
            rw [hPl] at hH
            cases hh : hasB PI (k : Int)
            · have HN := Lib.hid (frB_hit hm hh)
              have HH := Lib.hid (fun W hW => by have := hH W hW; rw [hh] at this; exact this)
              have hR := RowAt.of_own HO.out encQu_len (by decide)
              have HP := Lib.hid (fun W (hW : Below wr.heap.size wr W) => l16Put_any L m A1 c1 W (hR.below hW) haf.out hcap (by omega))
              have hpl := putQ_len m L
              obtain ⟨bB, oB, e3, hbB, r0, r1, r2, r3⟩ := (HB.out.below hbr).qu hm
              have HBC := Lib.hid (fun W (hW : Below wr.heap.size wr W) => cell4Q hbB ⟨r0, r1, r2, r3⟩ hW)
              clear hH hm hR r0 r1 r2 r3
              subst e3
              go_wp2_with (first | (go_at_call 87; (with_reducible refine (HH.out _ (bref _)).mono ?_); rintro e w5 ⟨rfl, hb5⟩; obtain ⟨r0, r1, r2, r3⟩ := HBC.out w5 hb5; have hs5 := hb5.size) | (go_at_call 84; (with_reducible refine (HP.out _ hb5).mono ?_); rintro e w6 ⟨A6, c6, rfl, hb6, ho6⟩))
              go_roundw
              case rel =>
                refine ⟨k + 1, putQ m L, A6, c6, by omega, by go_num, rfl, by omega, Lib.hid (by rw [HN.out, putAllQ_snoc, ← HL.out]), bstep (bstep hbr hb5) hb6, bstep (bstep hb4 hb5) hb6, Lib.hid ?_⟩
                rcases ho6 with ⟨rfl, rfl, e⟩ | ho6
                · rw [e]; exact own_below HO.out (bstep hb5 hb6)
                · exact own_base ho6 (Nat.le_trans hbr.size hs5)
              case measure => simp [intOf]; omega
            · have HN := Lib.hid (frB_miss (b := b) hh)
              have HH := Lib.hid (fun W hW => by have := hH W hW; rw [hh] at this; exact this)
              clear hH hm
              go_wp2_with (go_at_call 87; (with_reducible refine (HH.out _ (bref _)).mono ?_); rintro e w5 ⟨rfl, hb5⟩)
              go_roundw
              case rel => exact ⟨k + 1, L, A1, c1, by omega, by go_num, rfl, by omega, Lib.hid (by rw [HN.out]; exact HL.out), bstep hbr hb5, bstep hb4 hb5, Lib.hid (own_below HO.out hb5)⟩
              case measure => simp [intOf]; omega
          · obtain rfl : k = b.length := by omega
            have HG := Lib.hid (sgoodQu_any L A1 c1 wr (RowAt.of_own HO.out encQu_len (by decide)) (by omega))
            rw [← HL.out] at HOK
            cases hq : goodQu L
            · have hk : mrgOK a b t f = false := HOK.out.trans hq
              have HE := Lib.hid (HRN.out hk)
              have HK := Lib.hid hk
              clear hk
              go_wp2_with (go_at_call 70; (with_reducible refine (HG.out).mono ?_); rw [hq]; rintro e w5 ⟨rfl, hb5⟩)
              go_ret2
              rw [HE.out, HK.out]
              exact ⟨some ⟨w5.heap.size, 0, none⟩, 0, rfl, own_base (own_made (cur := #[]) rfl (Nat.zero_le _)) (bstep hbr hb5).size, balloc (bstep hbr hb5) _⟩
            · have hk : mrgOK a b t f = true := HOK.out.trans hq
              have HE := Lib.hid ((HRES.out hk).trans HL.out.symm)
              have HK := Lib.hid hk
              clear hk
              go_wp2_with (go_at_call 70; (with_reducible refine (HG.out).mono ?_); rw [hq]; rintro e w5 ⟨rfl, hb5⟩)
              go_ret2
              rw [HE.out, HK.out]
              exact ⟨A1, c1, rfl, own_below HO.out hb5, bstep hbr hb5⟩
end Go.Proofs.Ytlinjkfbcekepaa
