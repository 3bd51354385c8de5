/-
  Doubled packets with other samples.
-/
import Derived.Test.YtifkakpiipoadaaPkFirst
namespace Go.Proofs.Ytifkakpiipoadaa
set_option linter.unusedVariables false
set_option linter.unusedSimpArgs false
set_option linter.unnecessarySimpa false
open Go.RowKit
attribute [local go_sem] ext_cell ext_frozen

def sameI (a b : List Int) : Bool := decide (a = b)
theorem sameI_at {a b : List Int} (hl : a.length = b.length) {k : Nat} {x y : Int} (hx : a[k]? = some x) (hy : b[k]? = some y) (h : x ≠ y) : sameI a b = false := by
  unfold sameI
  refine decide_eq_false fun e => ?_
  subst e
  rw [hx] at hy
  cases hy
  exact h rfl
theorem sameI_all {a b : List Int} (hl : a.length = b.length) (h : UpTo (fun k => a[k]? = b[k]?) a.length) : sameI a b = true := by
  unfold sameI
  refine decide_eq_true (List.ext_getElem? fun k => ?_)
  by_cases hk : k < a.length
  · exact h k hk
  · rw [List.getElem?_eq_none (by omega), List.getElem?_eq_none (by omega)]
set_option maxHeartbeats 2000000 in
theorem l1Same_any (a b : List Int) (A B : Option Addr) (ca cb : Nat) (w : World) (ha : RowAt 1 encI w A a) (hb : RowAt 1 encI w B b) (hla : a.length ≤ 2097152) (hlb : b.length ≤ 2097152) :
    Calls Try.prog 76 #[.slice A a.length ca, .slice B b.length cb] w fun e w' => e = .returned (.bool (sameI a b)) ∧ Below w.heap.size w w' := by
  have HA := Lib.hid ha
  have HB := Lib.hid hb
  clear ha hb
  by_cases hl : a.length = b.length
  · rw [← hl] at hlb ⊢
    have HL := Lib.hid hl
    clear hl
    go_enter Try.func76, Try.ntmps76
    go_wp2_with fail
    go_loopw [5] (fun i wr => ∃ k : Nat, k ≤ a.length ∧ i = .int .i64 k ∧ Hid (UpTo (fun k => a[k]? = b[k]?) k) ∧ Below w.heap.size w wr) (fun i _ => a.length - (intOf i).toNat)
    case atStart => exact ⟨0, Nat.zero_le _, rfl, Lib.hid (UpTo.zero _), bref _⟩
    case round =>
      obtain ⟨k, hk, rfl, HU, hbr⟩ := hrel
      by_cases hlt : k < a.length
      · obtain ⟨x, hx⟩ := some_get hlt
        obtain ⟨y, hy⟩ := some_get (show k < b.length by have := HL.out; omega)
        have i0 := ib0 k
        have i1 := ib1 hlt
        obtain ⟨b1, o1, rfl, hb1, q0⟩ := (HA.out.below hbr).i hx
        obtain ⟨b2, o2, rfl, hb2, r0⟩ := (HB.out.below hbr).i hy
        by_cases hxy : x = y
        · subst hxy
          have HN := Lib.hid (HU.out.succ (P := fun k => a[k]? = b[k]?) (hx.trans hy.symm))
          clear hx hy
          go_wp2_with fail
          (refine wp_region_calm (by kernel_rfl) (by kernel_rfl) ?_; (repeat (go_big_quiet_step ((fail)))); refine wpQuiet_nil ?_; intro xw; have hb1' := xw.is; generalize xw.w = w1 at hb1' ⊢; clear xw)
          go_wp2
          go_roundw
          case rel => exact ⟨k + 1, by omega, by go_num, HN, bstep hbr hb1'⟩
          case measure => simp [intOf]; omega
        · have HF := Lib.hid (sameI_at HL.out hx hy hxy)
          have hne : (x != y) = true := by simpa using hxy
          clear hx hy hxy
          go_wp2_with fail
          (refine wp_region_calm (by kernel_rfl) (by kernel_rfl) ?_; (repeat (go_big_quiet_step ((fail)))); refine wpQuiet_nil ?_; intro xw; have hb1' := xw.is; generalize xw.w = w1 at hb1' ⊢; clear xw)
          go_wp2
          go_ret
          exact ⟨ret_bool HF.out.symm, bstep hbr hb1'⟩
      · obtain rfl : k = a.length := by omega
        have HF := Lib.hid (sameI_all HL.out HU.out)
        clear HU
        go_wp2
        go_ret
        exact ⟨ret_bool HF.out.symm, hbr⟩
  · have HF := Lib.hid (show sameI a b = false from decide_eq_false (fun e => hl (by rw [e])))
    have hne : ((a.length : Int) != (b.length : Int)) = true := by simp; omega
    clear hl
    go_enter Try.func76, Try.ntmps76
    go_wp2
    go_ret
    exact ⟨ret_bool HF.out.symm, (by repeat (first | exact bref _ | (refine balloc ?_ _) | (refine bdrew ?_) | (refine bdrewN ?_ _) | (refine bstep ?_ (by assumption))))⟩
set_option maxHeartbeats 2000000 in
theorem equalI_any (a b : List Int) (A B : Option Addr) (ca cb : Nat) (w : World) (ha : RowAt 1 encI w A a) (hb : RowAt 1 encI w B b) (hla : a.length ≤ 2097152) (hlb : b.length ≤ 2097152) :
    Calls Try.prog 78 #[.slice A a.length ca, .slice B b.length cb] w fun e w' => e = .returned (.bool (sameI a b)) ∧ Below w.heap.size w w' := by
  have HA := Lib.hid ha
  have HB := Lib.hid hb
  clear ha hb
  by_cases hl : a.length = b.length
  · rw [← hl] at hlb ⊢
    have HL := Lib.hid hl
    clear hl
    go_enter Try.func78, Try.ntmps78
    go_wp2_with fail
    go_loopw [13] (fun i wr => ∃ k : Nat, k ≤ a.length ∧ i = .int .i64 k ∧ Hid (UpTo (fun k => a[k]? = b[k]?) k) ∧ Below w.heap.size w wr) (fun i _ => a.length - (intOf i).toNat)
    case atStart => exact ⟨0, Nat.zero_le _, rfl, Lib.hid (UpTo.zero _), bref _⟩
    case round =>
      obtain ⟨k, hk, rfl, HU, hbr⟩ := hrel
      by_cases hlt : k < a.length
      · obtain ⟨x, hx⟩ := some_get hlt
        obtain ⟨y, hy⟩ := some_get (show k < b.length by have := HL.out; omega)
        have i0 := ib0 k
        have i1 := ib1 hlt
        obtain ⟨b1, o1, rfl, hb1, q0⟩ := (HA.out.below hbr).i hx
        obtain ⟨b2, o2, rfl, hb2, r0⟩ := (HB.out.below hbr).i hy
        by_cases hxy : x = y
        · subst hxy
          have HN := Lib.hid (HU.out.succ (P := fun k => a[k]? = b[k]?) (hx.trans hy.symm))
          clear hx hy
          go_wp2_with fail
          (refine wp_region_calm (by kernel_rfl) (by kernel_rfl) ?_; (repeat (go_big_quiet_step ((fail)))); refine wpQuiet_nil ?_; intro xw; have hb1' := xw.is; generalize xw.w = w1 at hb1' ⊢; clear xw)
          go_wp2
          go_roundw
          case rel => exact ⟨k + 1, by omega, by go_num, HN, bstep hbr hb1'⟩
          case measure => simp [intOf]; omega
        · have HF := Lib.hid (sameI_at HL.out hx hy hxy)
          have hne : (x != y) = true := by simpa using hxy
          clear hx hy hxy
          go_wp2_with fail
          (refine wp_region_calm (by kernel_rfl) (by kernel_rfl) ?_; (repeat (go_big_quiet_step ((fail)))); refine wpQuiet_nil ?_; intro xw; have hb1' := xw.is; generalize xw.w = w1 at hb1' ⊢; clear xw)
          go_wp2
          go_ret
          exact ⟨ret_bool HF.out.symm, bstep hbr hb1'⟩
      · obtain rfl : k = a.length := by omega
        have HF := Lib.hid (sameI_all HL.out HU.out)
        clear HU
        go_wp2
        go_ret
        exact ⟨ret_bool HF.out.symm, hbr⟩
  · have HF := Lib.hid (show sameI a b = false from decide_eq_false (fun e => hl (by rw [e])))
    have hne : ((a.length : Int) != (b.length : Int)) = true := by simp; omega
    clear hl
    go_enter Try.func78, Try.ntmps78
    go_wp2
    go_ret
    exact ⟨ret_bool HF.out.symm, (by repeat (first | exact bref _ | (refine balloc ?_ _) | (refine bdrew ?_) | (refine bdrewN ?_ _) | (refine bstep ?_ (by assumption))))⟩

theorem sameI_comm (a b : List Int) : sameI a b = sameI b a := by
  unfold sameI
  rw [decide_eq_decide]
  exact ⟨fun h => h.symm, fun h => h.symm⟩
def confB (l : List PP) (k : Nat) : Bool :=
  match l[k]? with
  | none => false
  | some p => match l[(firstP p.1 l).toNat]? with
    | none => false
    | some q => !(sameI q.2 p.2)
theorem confB_at {l : List Pk} {k j : Nat} {m q : Pk} (h : l[k]? = some m) (hj : firstP m.no (plS l) = (j : Int)) (hq : l[j]? = some q) : confB (plS l) k = !(sameI q.sm m.sm) := by
  unfold confB
  rw [plS_get h]
  simp only [hj, Int.toNat_natCast, plS_get hq]
theorem first_at {l : List Pk} {k : Nat} {m : Pk} (h : l[k]? = some m) : ∃ (j : Nat) (q : Pk), firstP m.no (plS l) = (j : Int) ∧ l[j]? = some q ∧ j < l.length := by
  obtain ⟨h0, h1⟩ := first_le (plS_get h)
  simp only at h0 h1
  have hk : k < l.length := (List.getElem?_eq_some_iff.1 h).1
  obtain ⟨q, hq⟩ := some_get (l := l) (k := (firstP m.no (plS l)).toNat) (by omega)
  exact ⟨_, q, by omega, hq, by omega⟩
set_option maxRecDepth 100000 in
set_option maxHeartbeats 2000000 in
theorem confClos_any (l : List Pk) (A : Option Addr) (c k bx : Nat) (m : Pk) (w : World) (hr : PkAt w A l) (hlen : tot l ≤ 1048576) (hm : l[k]? = some m) (hc : w.cell? ⟨bx, 0, none⟩ = some (.slice A l.length c)) :
    Calls Try.prog 77 #[.int .i64 (k : Int), .agg #[.int .i64 m.no, .slice m.A m.sm.length m.c], .pointer (some ⟨bx, 0, none⟩)] w fun e w' => e = .returned (.bool (confB (plS l) k)) ∧ Below w.heap.size w w' := by
  have lb : bx < w.heap.size := World.block_lt_of_cell? w ⟨bx, 0, none⟩ hc
  have hl : l.length ≤ 2097152 := by unfold tot at hlen; omega
  obtain ⟨j, q, hj, hq, hjl⟩ := first_at hm
  have HF := Lib.hid (confB_at hm hj hq)
  have hr1 := hr.below (balloc (bref w) (.cells #[.int .i64 m.no, .slice m.A m.sm.length m.c] 40))
  obtain ⟨b, off, rfl, hb, q0, q1, hqs⟩ := hr.pk hq
  have hms := hr.2 m (List.mem_of_getElem? hm)
  have hqs1 := hqs.below (balloc (bref w) (.cells #[.int .i64 m.no, .slice m.A m.sm.length m.c] 40))
  have hms1 := hms.below (balloc (bref w) (.cells #[.int .i64 m.no, .slice m.A m.sm.length m.c] 40))
  have l1 : q.sm.length ≤ 2097152 := by have := totS_mem (List.mem_of_getElem? hq); unfold tot at hlen; omega
  have l2 : m.sm.length ≤ 2097152 := by have := totS_mem (List.mem_of_getElem? hm); unfold tot at hlen; omega
  have h1 := fun (X : Ext (w.alloc (.cells #[.int .i64 m.no, .slice m.A m.sm.length m.c] 40))) => firstWith_any l (some ⟨b, off, none⟩) c m.no X.w (hr1.below X.is).row hl
  rw [hj] at h1
  have HC1 := Lib.hid h1
  have HC2 := Lib.hid (fun (X : Ext (w.alloc (.cells #[.int .i64 m.no, .slice m.A m.sm.length m.c] 40))) => equalI_any q.sm m.sm q.A m.A q.c m.c X.w (hqs1.below X.is) (hms1.below X.is) l1 l2)
  have j0 := ib0 j
  have j1 := ib1 hjl
  clear hr hr1 hm hq hj h1 hqs hms hqs1 hms1 l1 l2
  go_enter Try.func77, Try.ntmps77
  go_wp2_with fail
  (refine wp_region_calm (by kernel_rfl) (by kernel_rfl) ?_; (repeat (go_big_quiet_step ((first | (go_at_call 67; exact calm_of (HC1.out _)) | (go_at_call 78; exact calm_of (HC2.out _)))))); refine wpQuiet_nil ?_; intro xw; have hb1 := xw.is; generalize xw.w = w1 at hb1 ⊢; clear xw)
  go_wp2
  go_ret
  exact ⟨ret_bool HF.out.symm, bstep (balloc (bref w) _) hb1⟩
set_option maxHeartbeats 1000000 in
theorem iConf_any (l : List Pk) (A : Option Addr) (c : Nat) (w : World) (hr : PkAt w A l) (hlen : tot l ≤ 1048576) :
    Calls Try.prog 36 #[.slice A l.length c] w (MkS2 3 1 (idxR (plS l) (confB (plS l))).length ((idxR (plS l) (confB (plS l))).flatMap encI) (goodP (plS l)) w) := by
  have hmf : ∀ (fn : Fn) (first cap : Array Value) (w : World), (Instr.makeFunc fn first cap).run Try.prog w = .ok (.func fn first cap) w := fun _ _ _ _ => rfl
  have HR := Lib.hid hr
  clear hr
  go_enter Try.func36, Try.ntmps36
  go_wp2_with fail
  refine (indices_any l A c 77 #[.pointer (some ⟨w.heap.size, 0, none⟩)] (confB (plS l)) (enters_of Try.func77 (by kernel_rfl) rfl) _ (HR.out.below (balloc (bref _) _)) hlen ?_).mono ?_
  · intro _ w1 hb1 i m hm
    exact confClos_any l A c i w.heap.size m w1 (HR.out.below (bstep (balloc (bref w) _) hb1)) hlen hm ((hb1.cell (p := ⟨w.heap.size, 0, none⟩) (by simp)).trans (by simp [go_sem]))
  · rintro e w1 ⟨A1, c1, rfl, ho1, hb1⟩
    have HO := Lib.hid ho1
    clear hmf ho1
    go_wp2
    go_ret2
    exact ⟨A1, c1, rfl, own_base HO.out (by simp), bstep (balloc (bref _) _) hb1⟩
set_option maxRecDepth 100000 in
set_option maxHeartbeats 4000000 in
theorem sConf_any (l : List Pk) (A : Option Addr) (c : Nat) (w : World) (hr : PkAt w A l) (hlen : tot l ≤ 1048576) :
    Calls Try.prog 35 #[.slice A l.length c] w (MkS2 3 1 (idxR (plS l) (confB (plS l))).length ((idxR (plS l) (confB (plS l))).flatMap encI) (goodP (plS l)) w) := by
  have hl : l.length ≤ 2097152 := by unfold tot at hlen; omega
  have HR := Lib.hid hr
  have HT := Lib.hid hlen
  clear hr hlen
  cases hg : goodP (plS l)
  · have HE := Lib.hid (show idxR (plS l) (confB (plS l)) = [] by simp [idxR, hg])
    go_enter Try.func35, Try.ntmps35
    go_wp2_with (go_at_call 61; (with_reducible refine (sgoodP_any l _ _ _ (HR.out.below (balloc (bref _) _)) (by have := HT.out; omega)).mono ?_); rw [hg]; rintro e w' ⟨rfl, rfl⟩)
    go_ret2
    rw [HE.out]
    exact ⟨some ⟨w.heap.size, 0, none⟩, 0, rfl, own_made (cur := #[]) rfl (Nat.zero_le _), balloc (bref _) _⟩
  · have HE := Lib.hid (show idxR (plS l) (confB (plS l)) = plcs (confB (plS l)) l.length by simp [idxR, hg, plS_len])
    have h10 := goodP_len hg
    go_enter Try.func35, Try.ntmps35
    go_wp2_with (go_at_call 61; (with_reducible refine (sgoodP_any l _ _ _ (HR.out.below (balloc (bref _) _)) (by have := HT.out; omega)).mono ?_); rw [hg]; rintro e w' ⟨rfl, rfl⟩)
    clear hg
    go_loopw [4, 5] (fun v i wr => ∃ (k : Nat) (D : List Int) (A' : Option Addr) (c' : Nat), k ≤ l.length ∧ i = .int .i64 k ∧ v = .slice A' D.length c' ∧ D.length ≤ k ∧ Hid (D = plcs (confB (plS l)) k) ∧ Below w.heap.size w wr ∧ wr.ownsRow w.heap.size 3 1 (.slice A' D.length c') D.length (D.flatMap encI)) (fun _ i _ => l.length - (intOf i).toNat)
    case atStart => exact ⟨0, [], some ⟨w.heap.size, 0, none⟩, 0, Nat.zero_le _, rfl, rfl, Nat.le_refl _, rfl, balloc (bref _) _, own_made (cur := #[]) rfl (Nat.zero_le _)⟩
    case round =>
      obtain ⟨k, D, A', c', hk, rfl, rfl, hDl, HD, hbr, hown⟩ := hrel
      have HO := Lib.hid hown
      have hsz := hbr.size
      clear hown
      by_cases hlt : k < l.length
      · obtain ⟨m, hm⟩ := some_get hlt
        have i0 := ib0 k
        have i1 := ib1 hlt
        obtain ⟨j, q, hj, hq, hjl⟩ := first_at hm
        have hcf := confB_at hm hj hq
        rw [sameI_comm] at hcf
        have hrw := HR.out.below hbr
        obtain ⟨b, off, rfl, hb, q0, q1, hms⟩ := hrw.pk hm
        obtain ⟨b', off', e', _, r0, r1, hqs⟩ := hrw.pk hq
        cases e'
        have l1 : q.sm.length ≤ 2097152 := by have := totS_mem (List.mem_of_getElem? hq); have := HT.out; unfold tot at this; omega
        have l2 : m.sm.length ≤ 2097152 := by have := totS_mem (List.mem_of_getElem? hm); have := HT.out; unfold tot at this; omega
        have h1 := fun (X : Ext wr) => l15First_any l (some ⟨b, off, none⟩) c m.no X.w (hrw.below X.is).row hl
        rw [hj] at h1
        have h2 := fun (X : Ext wr) => l1Same_any m.sm q.sm m.A q.A m.c q.c X.w (hms.below X.is) (hqs.below X.is) l2 l1
        have HC1 := Lib.hid h1
        have j0 := ib0 j
        have j1 := ib1 hjl
        clear hm hq hj h1 hms hqs l1 l2 hrw
        cases hs : sameI m.sm q.sm
        · rw [hs] at hcf h2
          have HC2 := Lib.hid h2
          have HN := Lib.hid (plcs_hit (p := confB (plS l)) (k := k) hcf)
          clear hcf hs h2
          go_wp2_with fail
          (refine wp_region_calm (by kernel_rfl) (by kernel_rfl) ?_; (repeat (go_big_quiet_step ((first | (go_at_call 64; exact calm_same (HC1.out _)) | (go_at_call 76; exact calm_of (HC2.out _)))))); refine wpQuiet_nil ?_; intro xw; have hb1 := xw.is; generalize xw.w = w1 at hb1 ⊢; clear xw)
          have HO1 := Lib.hid (own_below HO.out hb1)
          have hs1 := hb1.size
          go_wp2_with (at_builtin; refine wpList_app rfl _ _ 29 3 1 8 _ rfl Try.underlying29 infoI rfl (by decide) w.heap.size _ D.length _ (by rfl) (HO1.out.alloc _) _ _ (by rfl) (heap_new1 _ _) rfl (encI_one (k : Int)) (by omega) (by decide) (by simp; omega) ?_; intro g5 c5 w5 ho5 hg5 hl5)
          go_roundw
          case rel => exact ⟨k + 1, D ++ [(k : Int)], some ⟨g5, 0, none⟩, c5, by omega, by go_num, by simp, by simp; omega, Lib.hid (by rw [HN.out, ← HD.out]), bgrown (balloc (bstep hbr hb1) _) hg5 (fun k hk => row_mine HO.out k hk), by simpa [encI] using ho5⟩
          case measure => simp [intOf]; omega
        · rw [hs] at hcf h2
          have HC2 := Lib.hid h2
          have HN := Lib.hid (plcs_miss (p := confB (plS l)) (k := k) hcf)
          clear hcf hs h2
          go_wp2_with fail
          (refine wp_region_calm (by kernel_rfl) (by kernel_rfl) ?_; (repeat (go_big_quiet_step ((first | (go_at_call 64; exact calm_same (HC1.out _)) | (go_at_call 76; exact calm_of (HC2.out _)))))); refine wpQuiet_nil ?_; intro xw; have hb1 := xw.is; generalize xw.w = w1 at hb1 ⊢; clear xw)
          go_wp2
          go_roundw
          case rel => exact ⟨k + 1, D, A', c', by omega, by go_num, rfl, by omega, Lib.hid (by rw [HN.out]; exact HD.out), bstep hbr hb1, own_below HO.out hb1⟩
          case measure => simp [intOf]; omega
      · obtain rfl : k = l.length := by omega
        have HF := Lib.hid (show idxR (plS l) (confB (plS l)) = D by rw [HE.out, HD.out])
        go_wp2
        go_ret2
        refine ⟨A', c', ?_, ?_, hbr⟩
        · rw [HF.out]; rfl
        · rw [HF.out]; exact HO.out
end Go.Proofs.Ytifkakpiipoadaa
