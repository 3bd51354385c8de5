/-
  Two duties change who has them.
-/
import Derived.Test.YtldhlmjfpnpamaaDuIns
import Derived.Deep.RegionHeld3
namespace Go.Proofs.Ytldhlmjfpnpamaa
open Go.RowKit
attribute [local go_sem] ext_cell ext_frozen

abbrev setWho (d : Du) (n : Int) : Du := ⟨n, d.bg, d.en, d.ch⟩
def swapL (l : List Du) (i j : Nat) : List Du := match l[i]?, l[j]? with | some x, some y => (l.set i (setWho x y.who)).set j (setWho y x.who) | _, _ => l
theorem swapL_at {l : List Du} {i j : Nat} {x y : Du} (hx : l[i]? = some x) (hy : l[j]? = some y) : swapL l i j = (l.set i (setWho x y.who)).set j (setWho y x.who) := by simp [swapL, hx, hy]
theorem swapL_len (l : List Du) (i j : Nat) : (swapL l i j).length = l.length := by unfold swapL; split <;> simp
def sortL (l : List Du) : List Du := l.foldl (fun acc d => putD d acc) []
theorem sortL_go (l : List Du) : ∀ acc : List Du, sorD acc → sorD (l.foldl (fun acc d => putD d acc) acc) ∧ (l.foldl (fun acc d => putD d acc) acc).Perm (acc ++ l) := by
  induction l with
  | nil => intro acc h; exact ⟨h, by simp⟩
  | cons d l ih =>
    intro acc h
    obtain ⟨h1, h2⟩ := ih (putD d acc) (putD_sor h)
    refine ⟨h1, h2.trans ?_⟩
    have := (putD_perm d acc).append_right l
    exact this.trans (List.perm_middle.symm)
theorem sortL_sor (l : List Du) : sorD (sortL l) := (sortL_go l [] List.Pairwise.nil).1
theorem sortL_perm (l : List Du) : (sortL l).Perm l := by simpa [sortL] using (sortL_go l [] List.Pairwise.nil).2
theorem sortL_len (l : List Du) : (sortL l).length = l.length := (sortL_perm l).length_eq
theorem sortL_succ {l : List Du} {k : Nat} {d : Du} (h : l[k]? = some d) : sortL (l.take (k + 1)) = putD d (sortL (l.take k)) := by
  unfold sortL
  rw [List.take_add_one, h]
  simp [List.foldl_append]
def swapOK0 (l : List Du) (a b : Int) : Bool := goodDu l && (!(a == b) && (inB a 0 ((l.length : Int) - 1) && inB b 0 ((l.length : Int) - 1)))
def swP (l : List Du) (a b : Int) : List Du := sortL (swapL l a.toNat b.toNat)
def swapOK (l : List Du) (a b : Int) : Bool := swapOK0 l a b && goodDu (swP l a b)
def swapR (l : List Du) (a b : Int) : List Du := if swapOK l a b then swP l a b else []
theorem swapR_le (l : List Du) (a b : Int) : (swapR l a b).length ≤ l.length := by
  unfold swapR swP; split
  · rw [sortL_len, swapL_len]; exact Nat.le_refl _
  · simp
theorem swap_sorted {l S : List Du} {i j : Nat} (hp : S.Perm (swapL l i j)) (hS : sorD S) : goodDu S = goodDu (swP l i j) ∧ (goodDu (swP l i j) = true → S = swP l i j) := by
  have e : swP l i j = sortL (swapL l i j) := by simp [swP]
  rw [e]
  exact sorted_law (hp.trans (sortL_perm _).symm) hS (sortL_sor _)
theorem set_who : ∀ (l : List Du) (i : Nat) (m : Du) (n : Int), l[i]? = some m → (l.flatMap encDu).set (i * 4) (.int .i64 n) = (l.set i (setWho m n)).flatMap encDu
  | [], i, m, n, h => by simp at h
  | d :: l, 0, m, n, h => by
    obtain rfl : d = m := by simpa using h
    simp [encDu, setWho]
  | d :: l, i + 1, m, n, h => by
    have ih := set_who l i m n (by simpa using h)
    rw [List.flatMap_cons, List.set_cons_succ, List.flatMap_cons, ← ih, List.set_append_right _ _ (by rw [encDu_len]; omega), encDu_len, show (i + 1) * 4 - 4 = i * 4 by omega]

set_option maxHeartbeats 1000000 in
theorem copyDu_any (l : List Du) (A : Option Addr) (c : Nat) (w : World) (hr : RowAt 4 encDu w A l) (hlen : l.length ≤ 2097152) :
    Calls Try.prog 68 #[.slice A l.length c] w fun e w' => ∃ g c', e = .returned (.slice (some ⟨g, 0, none⟩) l.length c') ∧ w'.ownsRow w.heap.size 25 4 (.slice (some ⟨g, 0, none⟩) l.length c') l.length (l.flatMap encDu) ∧ Below w.heap.size w w' := by
  have HR := Lib.hid hr
  clear hr
  go_enter Try.func68, Try.ntmps68
  go_wp2_with (at_builtin; refine wpList_appS rfl _ _ 31 25 4 32 _ rfl Try.underlying31 infoDu rfl (by decide) w.heap.size _ 0 [] (by rfl) (own_empty (heap_new1 _ _) (Nat.le_refl _)) _ _ _ (l.flatMap encDu) (by rfl) (cellsDu_len l) ((RowAt.below HR.out (balloc (bref _) _)).news encDu_len) (cellsDu_one l) l.length (Nat.zero_add _) _ (List.nil_append _) (by omega) (by decide) (by simp) ?_; intro A1 c1 w1 ho1 hg1 hl1)
  go_ret
  obtain ⟨g, rfl⟩ := own_some ho1 (by simpa [Value.ownBlock] using hl1)
  exact ⟨g, c1, rfl, ho1, bgrown (balloc (bref _) _) hg1 (by intro k hk; simp [Value.ownBlock] at hk; omega)⟩

set_option maxRecDepth 100000 in
set_option maxHeartbeats 4000000 in
theorem iSwap_any (l : List Du) (a b : Int) (A : Option Addr) (c : Nat) (w : World) (hr : RowAt 4 encDu w A l) (hlen : l.length ≤ 1048576) (hcap : l.length ≤ c) :
    Calls Try.prog 34 #[.slice A l.length c, .int .i64 a, .int .i64 b] w (MkS2 25 4 (swapR l a b).length ((swapR l a b).flatMap encDu) (swapOK l a b) w) := by
  have HR := Lib.hid hr
  have HA := Lib.hid (iAreDu_any l A c w hr (by omega) hcap)
  clear hr
  cases h0 : swapOK0 l a b
  · have HK := Lib.hid (show swapOK l a b = false by simp [swapOK, h0])
    have HE := Lib.hid (show swapR l a b = [] by simp [swapR, HK.out])
    cases hg : goodDu l
    · rw [hg] at HA
      go_enter Try.func34, Try.ntmps34
      go_wp2_with (go_at_call 20; (with_reducible refine (HA.out).mono ?_); rintro e w1 ⟨rfl, hb1⟩)
      go_ret2
      rw [HE.out, HK.out]
      exact ⟨none, 0, rfl, World.ownsRow_nil _ _ _ _, hb1⟩
    · rw [hg] at HA
      by_cases hab : a = b
      · go_enter Try.func34, Try.ntmps34
        go_wp2_with (go_at_call 20; (with_reducible refine (HA.out).mono ?_); rintro e w1 ⟨rfl, hb1⟩)
        go_ret2
        rw [HE.out, HK.out]
        exact ⟨none, 0, rfl, World.ownsRow_nil _ _ _ _, hb1⟩
      · have hab1 : (a == b) = false := by simpa using hab
        cases hia : inB a 0 ((l.length : Int) - 1)
        · go_enter Try.func34, Try.ntmps34
          go_wp2_with (first | (go_at_call 20; (with_reducible refine (HA.out).mono ?_); rintro e w1 ⟨rfl, hb1⟩) | (go_at_call 54; (with_reducible refine (in_any _ _ _ _).mono ?_); rw [hia]; rintro e w' ⟨rfl, rfl⟩))
          go_ret2
          rw [HE.out, HK.out]
          exact ⟨none, 0, rfl, World.ownsRow_nil _ _ _ _, hb1⟩
        · have hib : inB b 0 ((l.length : Int) - 1) = false := by
            unfold swapOK0 at h0
            rw [hg, hab1, hia] at h0
            simpa using h0
          go_enter Try.func34, Try.ntmps34
          go_wp2_with (first | (go_at_call 20; (with_reducible refine (HA.out).mono ?_); rintro e w1 ⟨rfl, hb1⟩) | (go_at_call 54; first | (with_reducible refine (in_any a _ _ _).mono ?_; rw [hia]; rintro e w' ⟨rfl, rfl⟩) | (with_reducible refine (in_any b _ _ _).mono ?_; rw [hib]; rintro e w' ⟨rfl, rfl⟩)))
          go_ret2
          rw [HE.out, HK.out]
          exact ⟨none, 0, rfl, World.ownsRow_nil _ _ _ _, hb1⟩
  · obtain ⟨hg, hab1, hia, hib⟩ : goodDu l = true ∧ (a == b) = false ∧ inB a 0 ((l.length : Int) - 1) = true ∧ inB b 0 ((l.length : Int) - 1) = true := by
      unfold swapOK0 at h0
      simpa using h0
    have hl12 : l.length ≤ 12 := goodDu_len hg
    have ha := inB_true hia
    have hb := inB_true hib
    obtain ⟨i, rfl⟩ := Int.eq_ofNat_of_zero_le ha.1
    obtain ⟨j, rfl⟩ := Int.eq_ofNat_of_zero_le hb.1
    have hi : i < l.length := by omega
    have hj : j < l.length := by omega
    have hij : i ≠ j := fun e => by subst e; simp at hab1
    obtain ⟨x, hx⟩ := some_get hi
    obtain ⟨y, hy⟩ := some_get hj
    have HX := Lib.hid hx
    have HY := Lib.hid hy
    rw [hg] at HA
    have i0 := ib0 i
    have i1 := ib1 hi
    have j0 := ib0 j
    have j1 := ib1 hj
    clear hx hy
    cases hk : goodDu (swP l i j)
    · have HK := Lib.hid (show swapOK l i j = false by simp [swapOK, hk])
      have HE := Lib.hid (show swapR l i j = [] by simp [swapR, HK.out])
      clear h0
      go_enter Try.func34, Try.ntmps34
      go_wp2_with (first | (go_at_call 20; (with_reducible refine (HA.out).mono ?_); rintro e w1 ⟨rfl, hb1⟩) | (go_at_call 54; first | (with_reducible refine (in_any (i : Int) _ _ _).mono ?_; rw [hia]; rintro e w' ⟨rfl, rfl⟩) | (with_reducible refine (in_any (j : Int) _ _ _).mono ?_; rw [hib]; rintro e w' ⟨rfl, rfl⟩)) | (go_at_call 68; (with_reducible refine (copyDu_any l _ _ _ (HR.out.below hb1) (by omega)).mono ?_); rintro e w2 ⟨g, c2, rfl, ho2, hb2⟩) | fail)
      have HO := Lib.hid ho2
      have hR := RowAt.of_own ho2 encDu_len (by omega)
      obtain ⟨g', o', eg, hgb, p0, _, _, _⟩ := hR.du HX.out
      cases eg
      obtain ⟨g', o', eg, _, r0, _, _, _⟩ := hR.du HY.out
      cases eg
      simp only [Nat.zero_add] at p0 r0
      have z0 := ho2.frozenAt (i * 4)
      have z1 := ho2.frozenAt (j * 4)
      have hgw : w.heap.size ≤ g := Nat.le_trans hb1.size (row_mine ho2 g rfl)
      have hc2 := own_cap ho2
      have st1 := World.ownsRow.stored ho2 (i * 4) (.int .i64 y.who)
      have st2 := World.ownsRow.stored st1.1 (j * 4) (.int .i64 x.who)
      rw [set_who l i x y.who HX.out, set_who (l.set i (setWho x y.who)) j y x.who (by rw [List.getElem?_set_ne hij]; exact HY.out), ← swapL_at HX.out HY.out] at st2
      have hS := sortStableDu_any (swapL l i j) g c2 w1.heap.size _ (by rw [swapL_len]; exact own_drew st2.1) (by rw [swapL_len]; omega)
      unfold SortD at hS
      rw [swapL_len] at hS
      have HS := Lib.hid hS
      have hBS := bdrew (bset (bset (bstep hb1 hb2) (p := ⟨g, i * 4, none⟩) hgw (.int .i64 y.who)) (p := ⟨g, j * 4, none⟩) hgw (.int .i64 x.who))
      clear hR ho2 st1 st2 hS
      go_wp2_with fail
      go_region
      go_wp2_with (go_at_call 69; (with_reducible refine (HS.out).mono ?_); rintro e w3 ⟨rfl, S, hp, hs, hSl, ho3, hg3⟩)
      have b3 := bgrown hBS hg3 (fun k hk => by cases hk; exact hgw)
      obtain ⟨e1, e2⟩ := swap_sorted hp hs
      rw [hk] at e1
      have hA := iAreDu_any S (some ⟨g, 0, none⟩) c2 w3 (RowAt.of_own ho3 encDu_len (by omega)) (by omega) (by omega)
      rw [hSl, e1] at hA
      have HA3 := Lib.hid hA
      have HO3 := Lib.hid ho3
      clear hA ho3
      go_wp2_with (go_at_call 20; (with_reducible refine (HA3.out).mono ?_); rintro e w4 ⟨rfl, hb4⟩)
      go_ret2
      rw [HE.out, HK.out]
      exact ⟨none, 0, rfl, World.ownsRow_nil _ _ _ _, bstep b3 hb4⟩
    · have HK := Lib.hid (show swapOK l i j = true by simp [swapOK, hk, h0])
      have HE := Lib.hid (show swapR l i j = swP l i j by simp [swapR, HK.out])
      clear h0
      go_enter Try.func34, Try.ntmps34
      go_wp2_with (first | (go_at_call 20; (with_reducible refine (HA.out).mono ?_); rintro e w1 ⟨rfl, hb1⟩) | (go_at_call 54; first | (with_reducible refine (in_any (i : Int) _ _ _).mono ?_; rw [hia]; rintro e w' ⟨rfl, rfl⟩) | (with_reducible refine (in_any (j : Int) _ _ _).mono ?_; rw [hib]; rintro e w' ⟨rfl, rfl⟩)) | (go_at_call 68; (with_reducible refine (copyDu_any l _ _ _ (HR.out.below hb1) (by omega)).mono ?_); rintro e w2 ⟨g, c2, rfl, ho2, hb2⟩) | fail)
      have HO := Lib.hid ho2
      have hR := RowAt.of_own ho2 encDu_len (by omega)
      obtain ⟨g', o', eg, hgb, p0, _, _, _⟩ := hR.du HX.out
      cases eg
      obtain ⟨g', o', eg, _, r0, _, _, _⟩ := hR.du HY.out
      cases eg
      simp only [Nat.zero_add] at p0 r0
      have z0 := ho2.frozenAt (i * 4)
      have z1 := ho2.frozenAt (j * 4)
      have hgw : w.heap.size ≤ g := Nat.le_trans hb1.size (row_mine ho2 g rfl)
      have hc2 := own_cap ho2
      have st1 := World.ownsRow.stored ho2 (i * 4) (.int .i64 y.who)
      have st2 := World.ownsRow.stored st1.1 (j * 4) (.int .i64 x.who)
      rw [set_who l i x y.who HX.out, set_who (l.set i (setWho x y.who)) j y x.who (by rw [List.getElem?_set_ne hij]; exact HY.out), ← swapL_at HX.out HY.out] at st2
      have hS := sortStableDu_any (swapL l i j) g c2 w1.heap.size _ (by rw [swapL_len]; exact own_drew st2.1) (by rw [swapL_len]; omega)
      unfold SortD at hS
      rw [swapL_len] at hS
      have HS := Lib.hid hS
      have hBS := bdrew (bset (bset (bstep hb1 hb2) (p := ⟨g, i * 4, none⟩) hgw (.int .i64 y.who)) (p := ⟨g, j * 4, none⟩) hgw (.int .i64 x.who))
      clear hR ho2 st1 st2 hS
      go_wp2_with fail
      go_region
      go_wp2_with (go_at_call 69; (with_reducible refine (HS.out).mono ?_); rintro e w3 ⟨rfl, S, hp, hs, hSl, ho3, hg3⟩)
      have b3 := bgrown hBS hg3 (fun k hk => by cases hk; exact hgw)
      obtain ⟨e1, e2⟩ := swap_sorted hp hs
      rw [hk] at e1
      have hA := iAreDu_any S (some ⟨g, 0, none⟩) c2 w3 (RowAt.of_own ho3 encDu_len (by omega)) (by omega) (by omega)
      rw [hSl, e1] at hA
      have HA3 := Lib.hid hA
      have HO3 := Lib.hid ho3
      clear hA ho3
      go_wp2_with (go_at_call 20; (with_reducible refine (HA3.out).mono ?_); rintro e w4 ⟨rfl, hb4⟩)
      go_ret2
      rw [HE.out, HK.out]
      have hSP := e2 hk
      have hlP : (swP l i j).length = l.length := by rw [← hSP]; exact hSl
      refine ⟨some ⟨g, 0, none⟩, c2, ?_, ?_, bstep b3 hb4⟩
      · rw [hlP]; rfl
      · rw [hlP, ← hSP]
        exact own_below (own_base HO3.out hb1.size) hb4
set_option maxRecDepth 100000 in
set_option maxHeartbeats 4000000 in
theorem sSwap_any (l : List Du) (a b : Int) (A : Option Addr) (c : Nat) (w : World) (hr : RowAt 4 encDu w A l) (hlen : l.length ≤ 1048576) :
    Calls Try.prog 33 #[.slice A l.length c, .int .i64 a, .int .i64 b] w (MkS2 25 4 (swapR l a b).length ((swapR l a b).flatMap encDu) (swapOK l a b) w) := by
  have HR := Lib.hid hr
  have HA := Lib.hid (sgoodDu_any l A c w hr (by omega))
  clear hr
  cases h0 : swapOK0 l a b
  · have HK := Lib.hid (show swapOK l a b = false by simp [swapOK, h0])
    have HE := Lib.hid (show swapR l a b = [] by simp [swapR, HK.out])
    cases hg : goodDu l
    · rw [hg] at HA
      go_enter Try.func33, Try.ntmps33
      go_wp2_with (first | (go_at_call 55; (with_reducible refine (HA.out).mono ?_); rintro e w1 ⟨rfl, hb1⟩))
      go_ret2
      rw [HE.out, HK.out]
      exact ⟨some ⟨w1.heap.size, 0, none⟩, 0, rfl, own_base (own_made (cur := #[]) rfl (Nat.zero_le _)) hb1.size, balloc hb1 _⟩
    · rw [hg] at HA
      cases hia : inB a 0 ((l.length : Int) - 1)
      · have hib : True := trivial
        go_enter Try.func33, Try.ntmps33
        go_wp2_with (first | (go_at_call 55; (with_reducible refine (HA.out).mono ?_); rintro e w1 ⟨rfl, hb1⟩) | (go_at_call 64; (with_reducible refine (l1In_any _ _ _ _).mono ?_); rw [hia]; rintro e w' ⟨rfl, rfl⟩))
        go_ret2
        rw [HE.out, HK.out]
        exact ⟨some ⟨w1.heap.size, 0, none⟩, 0, rfl, own_base (own_made (cur := #[]) rfl (Nat.zero_le _)) hb1.size, balloc hb1 _⟩
      · cases hib : inB b 0 ((l.length : Int) - 1)
        · go_enter Try.func33, Try.ntmps33
          go_wp2_with (first | (go_at_call 55; (with_reducible refine (HA.out).mono ?_); rintro e w1 ⟨rfl, hb1⟩) | (go_at_call 64; first | (with_reducible refine (l1In_any a _ _ _).mono ?_; rw [hia]; rintro e w' ⟨rfl, rfl⟩) | (with_reducible refine (l1In_any b _ _ _).mono ?_; rw [hib]; rintro e w' ⟨rfl, rfl⟩)))
          go_ret2
          rw [HE.out, HK.out]
          exact ⟨some ⟨w1.heap.size, 0, none⟩, 0, rfl, own_base (own_made (cur := #[]) rfl (Nat.zero_le _)) hb1.size, balloc hb1 _⟩
        · have hab : a = b := by
            unfold swapOK0 at h0
            rw [hg, hia, hib] at h0
            simpa using h0
          subst hab
          go_enter Try.func33, Try.ntmps33
          go_wp2_with (first | (go_at_call 55; (with_reducible refine (HA.out).mono ?_); rintro e w1 ⟨rfl, hb1⟩) | (go_at_call 64; (with_reducible refine (l1In_any _ _ _ _).mono ?_); rw [hia]; rintro e w' ⟨rfl, rfl⟩))
          go_ret2
          rw [HE.out, HK.out]
          exact ⟨some ⟨w1.heap.size, 0, none⟩, 0, rfl, own_base (own_made (cur := #[]) rfl (Nat.zero_le _)) hb1.size, balloc hb1 _⟩
  · obtain ⟨hg, hab1, hia, hib⟩ : goodDu l = true ∧ (a == b) = false ∧ inB a 0 ((l.length : Int) - 1) = true ∧ inB b 0 ((l.length : Int) - 1) = true := by
      unfold swapOK0 at h0
      simpa using h0
    have hl12 : l.length ≤ 12 := goodDu_len hg
    have ha := inB_true hia
    have hb := inB_true hib
    obtain ⟨i, rfl⟩ := Int.eq_ofNat_of_zero_le ha.1
    obtain ⟨j, rfl⟩ := Int.eq_ofNat_of_zero_le hb.1
    have hi : i < l.length := by omega
    have hj : j < l.length := by omega
    have hij : i ≠ j := fun e => by subst e; simp at hab1
    obtain ⟨x, hx⟩ := some_get hi
    obtain ⟨y, hy⟩ := some_get hj
    have HX := Lib.hid hx
    have HY := Lib.hid hy
    rw [hg] at HA
    have i0 := ib0 i
    have i1 := ib1 hi
    have j0 := ib0 j
    have j1 := ib1 hj
    have hll := swapL_len l i j
    clear hx hy
    cases hk : goodDu (swP l i j)
    all_goals
      go_enter Try.func33, Try.ntmps33
      go_wp2_with (first | (go_at_call 55; (with_reducible refine (HA.out).mono ?_); rintro e w1 ⟨rfl, hb1⟩) | (go_at_call 64; first | (with_reducible refine (l1In_any (i : Int) _ _ _).mono ?_; rw [hia]; rintro e w' ⟨rfl, rfl⟩) | (with_reducible refine (l1In_any (j : Int) _ _ _).mono ?_; rw [hib]; rintro e w' ⟨rfl, rfl⟩)) | fail)
      go_loopw [9, 10] (fun v kv wr => ∃ (k : Nat) (D : List Du) (A' : Option Addr) (c' : Nat), k ≤ l.length ∧ kv = .int .i64 k ∧ v = .slice A' D.length c' ∧ D.length = k ∧ Hid (D = sortL ((swapL l i j).take k)) ∧ Below w.heap.size w wr ∧ wr.ownsRow w.heap.size 25 4 (.slice A' D.length c') D.length (D.flatMap encDu)) (fun _ kv _ => l.length - (intOf kv).toNat)
      case atStart => exact ⟨0, [], some ⟨w1.heap.size, 0, none⟩, 0, Nat.zero_le _, rfl, rfl, rfl, rfl, balloc hb1 _, own_base (own_made (cur := #[]) rfl (Nat.zero_le _)) hb1.size⟩
      case round =>
        obtain ⟨k, D, A', c', hkl, rfl, rfl, hDl, HD, hbr, hown⟩ := hrel
        have HO := Lib.hid hown
        have hsz := hbr.size
        have hcp := own_cap hown
        have HAF := Lib.hid (af_own hown)
        have HRO := Lib.hid (RowAt.of_own hown encDu_len (by omega))
        clear hown
        by_cases hlt : k < l.length
        · obtain ⟨d, hd⟩ := some_get hlt
          have k0 := ib0 k
          have k1 := ib1 hlt
          obtain ⟨b, off, rfl, hb, q0, q1, q2, q3⟩ := (HR.out.below hbr).du hd
          obtain ⟨b', off', e', hb', r0, _, _, _⟩ := (HR.out.below hbr).du HX.out
          cases e'
          obtain ⟨b', off', e', hb', s0, _, _, _⟩ := (HR.out.below hbr).du HY.out
          cases e'
          have HPut := Lib.hid (fun (d' : Du) W (hW : Below wr.heap.size wr W) => by have h := l17Put_any D d' A' c' W (HRO.out.below hW) HAF.out hcp (by omega); rw [hDl] at h; exact h)
          have HDD := Lib.hid hd
          clear hd
          by_cases hki : k = i
          · subst hki
            have e1 : d = x := Option.some.inj (HDD.out.symm.trans HX.out)
            subst e1
            have hsd : (swapL l k j)[k]? = some (setWho d y.who) := by
              rw [swapL_at HX.out HY.out, List.getElem?_set_ne (by omega), List.getElem?_set_self (by omega)]
            have HN := Lib.hid (sortL_succ hsd)
            rw [← HD.out] at HN
            have hlN := putD_len (setWho d y.who) D
            go_wp2_with (go_at_call 67; (with_reducible refine (HPut.out (setWho d y.who) _ (by repeat (first | exact bref _ | (refine balloc ?_ _) | (refine bdrew ?_) | (refine bdrewN ?_ _) | (refine bstep ?_ (by assumption))))).mono ?_); rintro e w5 ⟨A5, c5, rfl, ho5, hb5⟩; have HO5 := Lib.hid ho5; clear ho5)
            go_roundw
            case rel => exact ⟨k + 1, putD (setWho d y.who) D, A5, c5, by omega, by go_num, by rw [hlN, hDl], by omega, Lib.hid HN.out.symm, bstep (balloc hbr _) hb5, own_base HO5.out (Nat.le_trans hsz (by simp))⟩
            case measure => simp [intOf]; omega
          · by_cases hkj : k = j
            · subst hkj
              have e1 : d = y := Option.some.inj (HDD.out.symm.trans HY.out)
              subst e1
              have hsd : (swapL l i k)[k]? = some (setWho d x.who) := by
                rw [swapL_at HX.out HY.out, List.getElem?_set_self (by simp; omega)]
              have HN := Lib.hid (sortL_succ hsd)
              rw [← HD.out] at HN
              have hlN := putD_len (setWho d x.who) D
              go_wp2_with (go_at_call 67; (with_reducible refine (HPut.out (setWho d x.who) _ (by repeat (first | exact bref _ | (refine balloc ?_ _) | (refine bdrew ?_) | (refine bdrewN ?_ _) | (refine bstep ?_ (by assumption))))).mono ?_); rintro e w5 ⟨A5, c5, rfl, ho5, hb5⟩; have HO5 := Lib.hid ho5; clear ho5)
              go_roundw
              case rel => exact ⟨k + 1, putD (setWho d x.who) D, A5, c5, by omega, by go_num, by rw [hlN, hDl], by omega, Lib.hid HN.out.symm, bstep (balloc hbr _) hb5, own_base HO5.out (Nat.le_trans hsz (by simp))⟩
              case measure => simp [intOf]; omega
            · have hsd : (swapL l i j)[k]? = some d := by
                rw [swapL_at HX.out HY.out, List.getElem?_set_ne (by omega), List.getElem?_set_ne (by omega)]
                exact HDD.out
              have HN := Lib.hid (sortL_succ hsd)
              rw [← HD.out] at HN
              have hlN := putD_len (d) D
              go_wp2_with (go_at_call 67; (with_reducible refine (HPut.out (d) _ (by repeat (first | exact bref _ | (refine balloc ?_ _) | (refine bdrew ?_) | (refine bdrewN ?_ _) | (refine bstep ?_ (by assumption))))).mono ?_); rintro e w5 ⟨A5, c5, rfl, ho5, hb5⟩; have HO5 := Lib.hid ho5; clear ho5)
              go_roundw
              case rel => exact ⟨k + 1, putD (d) D, A5, c5, by omega, by go_num, by rw [hlN, hDl], by omega, Lib.hid HN.out.symm, bstep (balloc hbr _) hb5, own_base HO5.out (Nat.le_trans hsz (by simp))⟩
              case measure => simp [intOf]; omega
        · obtain rfl : k = l.length := by omega
          have hDe : D = swP l i j := by
            rw [HD.out]
            simp only [swP, Int.toNat_natCast]
            rw [List.take_of_length_le (by omega)]
          subst hDe
          have hG := sgoodDu_any (swP l i j) A' c' wr HRO.out (by omega)
          rw [hk, hDl] at hG
          have HG := Lib.hid hG
          clear hG
          first
            | (have HK := Lib.hid (show swapOK l i j = false by simp [swapOK, hk])
               have HE := Lib.hid (show swapR l i j = [] by simp [swapR, HK.out])
               go_wp2_with (go_at_call 55; (with_reducible refine (HG.out).mono ?_); rintro e w5 ⟨rfl, hb5⟩)
               go_ret2
               rw [HE.out, HK.out]
               exact ⟨some ⟨w5.heap.size, 0, none⟩, 0, rfl, own_base (own_made (cur := #[]) rfl (Nat.zero_le _)) (bstep hbr hb5).size, balloc (bstep hbr hb5) _⟩)
            | (have HK := Lib.hid (show swapOK l i j = true by simp [swapOK, hk, h0])
               have HE := Lib.hid (show swapR l i j = swP l i j by simp [swapR, HK.out])
               go_wp2_with (go_at_call 55; (with_reducible refine (HG.out).mono ?_); rintro e w5 ⟨rfl, hb5⟩)
               go_ret2
               rw [HE.out, HK.out]
               exact ⟨A', c', by rw [hDl]; rfl, own_below HO.out hb5, bstep hbr hb5⟩)
end Go.Proofs.Ytldhlmjfpnpamaa
