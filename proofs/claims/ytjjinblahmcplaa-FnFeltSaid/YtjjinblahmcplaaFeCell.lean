/-
  Cells as pairs of ints ([2]int): their rows, whether one is there (impl.has), and their order (slices.SortFunc).
-/
import Derived.Test.YtjjinblahmcplaaLaysCell
import Derived.Test.YtjjinblahmcplaaSort
import Derived.Test.YtjjinblahmcplaaCmp
import Derived.Test.YtjjinblahmcplaaEq2
import Derived.Test.YtjjinblahmcplaaListed
import Derived.Test.YtjjinblahmcplaaFeAll
import Derived.Test.YtjjinblahmcplaaFeCelP
import Derived.Deep.RegionHeld3
namespace Go.Proofs.Ytjjinblahmcplaa
open Go.RowKit
attribute [local go_sem] ext_cell ext_frozen eq2_in eq2_guard

def encC (p : Int × Int) : List Value := [.int .i64 p.1, .int .i64 p.2]
theorem encC_len (p : Int × Int) : (encC p).length = 2 := rfl
theorem encC_one (p : Int × Int) : ∀ v ∈ encC p, v.oneCell' = true := by
  intro v hv
  simp [encC] at hv
  rcases hv with rfl | rfl <;> rfl
theorem infoC : (Try.prog.info? 86).map (fun i => (i.zero, i.size, i.bytes)) = some (some (.agg #[.int .i64 0, .int .i64 0]), 2, 16) := by kernel_rfl
theorem RowAt.cel {w : World} {k : Nat} {A : Option Addr} {l : List (Int × Int)} {m : Int × Int} (h : RowAt 2 encC w A l) (hm : l[k]? = some m) :
    ∃ b off, A = some ⟨b, off, none⟩ ∧ b < w.heap.size ∧ w.cell? ⟨b, off + k * 2, none⟩ = some (.int .i64 m.1) ∧ w.cell? ⟨b, off + k * 2 + 1, none⟩ = some (.int .i64 m.2) := by
  obtain ⟨b, off, e, hb, hc⟩ := h.at_ hm
  exact ⟨b, off, e, hb, hc k m hm 0 _ rfl, hc k m hm 1 _ rfl⟩
def isC (p q : Int × Int) : Bool := p.1 == q.1 && p.2 == q.2
theorem isC_iff {p q : Int × Int} : isC p q = true ↔ p = q := by
  unfold isC
  rw [Bool.and_eq_true, beq_iff_eq, beq_iff_eq]
  exact ⟨fun h => Prod.ext h.1 h.2, fun h => by rw [h]; exact ⟨rfl, rfl⟩⟩
theorem isC_any {p : Int × Int} {l : List (Int × Int)} : l.any (isC p) = decide (p ∈ l) := by
  rw [Bool.eq_iff_iff, List.any_eq_true, decide_eq_true_eq]
  constructor
  · rintro ⟨q, hq, h⟩
    rw [isC_iff] at h
    exact h ▸ hq
  · intro h
    exact ⟨p, h, isC_iff.2 rfl⟩

set_option maxRecDepth 100000 in
set_option maxHeartbeats 1000000 in
theorem indexC_any (l : List (Int × Int)) (A : Option Addr) (c : Nat) (p : Int × Int) (w : World) (hr : RowAt 2 encC w A l) (hlen : l.length ≤ 2097152) :
    Calls Try.prog 125 #[.slice A l.length c, .agg #[.int .i64 p.1, .int .i64 p.2]] w fun e w' => e = .returned (.int .i64 (idxL (isC p) l 0)) ∧ Below w.heap.size w w' := by
  have HR := Lib.hid hr
  clear hr
  obtain ⟨p1, p2⟩ := p
  have hx := balloc (bref w) (.cells #[.int .i64 p1, .int .i64 p2] 86)
  have hq0 : (w.alloc (.cells #[.int .i64 p1, .int .i64 p2] 86)).cell? ⟨w.heap.size, 0, none⟩ = some (.int .i64 p1) := by simp [go_sem]
  have hq1 : (w.alloc (.cells #[.int .i64 p1, .int .i64 p2] 86)).cell? ⟨w.heap.size, 1, none⟩ = some (.int .i64 p2) := by simp [go_sem]
  have hz : w.heap.size < (w.alloc (.cells #[.int .i64 p1, .int .i64 p2] 86)).heap.size := by simp
  go_enter Try.func125, Try.ntmps125
  go_wp2_with fail
  generalize w.alloc (.cells #[.int .i64 p1, .int .i64 p2] 86) = wx at hx hq0 hq1 hz ⊢
  have HX := Lib.hid hx
  clear hx
  go_loopw [8] (fun i wr => ∃ k : Nat, k ≤ l.length ∧ i = .int .i64 k ∧ Hid (idxL (isC (p1, p2)) (l.drop k) k = idxL (isC (p1, p2)) l 0) ∧ Hid (Below wx.heap.size wx wr)) (fun i _ => l.length - (intOf i).toNat)
  case atStart => exact ⟨0, Nat.zero_le _, rfl, rfl, Lib.hid (bref _)⟩
  case round =>
    obtain ⟨k, hk, rfl, HI, HW⟩ := hrel
    have c0 := (HW.out.cell (p := ⟨w.heap.size, 0, none⟩) hz).trans hq0
    have c1 := (HW.out.cell (p := ⟨w.heap.size, 1, none⟩) hz).trans hq1
    have hzr := Nat.lt_of_lt_of_le hz HW.out.size
    by_cases hlt : k < l.length
    · obtain ⟨m, hm⟩ := some_get hlt
      have i0 := ib0 k
      have i1 := ib1 hlt
      obtain ⟨b, off, eA, hb, q0, q1⟩ := (HR.out.below (bstep HX.out HW.out)).cel hm
      subst eA
      have HD := Lib.hid (drop_cons hm)
      clear hm hq0 hq1
      cases hpm : isC (p1, p2) m
      · have HF := Lib.hid (show idxL (isC (p1, p2)) (l.drop (k + 1)) (k + 1) = idxL (isC (p1, p2)) l 0 by rw [← HI.out, HD.out]; simp [idxL, hpm])
        have hg : (p1 == m.1 && p2 == m.2) = false := hpm
        go_wp2_with fail
        (refine wp_region_calm (by kernel_rfl) (by kernel_rfl) ?_; (repeat (go_big_quiet_step ((fail)))); refine wpQuiet_nil ?_; intro xw; have hb1 := xw.is; generalize xw.w = w1 at hb1 ⊢; clear xw)
        go_wp2_with fail
        go_roundw
        case rel => exact ⟨k + 1, by omega, by go_num, HF, Lib.hid (bstep HW.out hb1)⟩
        case measure => simp [intOf]; omega
      · have HF := Lib.hid (show idxL (isC (p1, p2)) l 0 = k by rw [← HI.out, HD.out]; simp [idxL, hpm])
        have hg : (p1 == m.1 && p2 == m.2) = true := hpm
        go_wp2_with fail
        (refine wp_region_calm (by kernel_rfl) (by kernel_rfl) ?_; (repeat (go_big_quiet_step ((fail)))); refine wpQuiet_nil ?_; intro xw; have hb1 := xw.is; generalize xw.w = w1 at hb1 ⊢; clear xw)
        go_wp2
        go_ret
        exact ⟨ret_int HF.out.symm, bstep HX.out (bstep HW.out hb1)⟩
    · obtain rfl : k = l.length := by omega
      have HF := Lib.hid (show idxL (isC (p1, p2)) l 0 = -1 by rw [← HI.out, List.drop_length]; rfl)
      go_wp2
      go_ret
      exact ⟨ret_int HF.out.symm, bstep HX.out HW.out⟩

set_option maxHeartbeats 400000 in
theorem containsC_any (l : List (Int × Int)) (A : Option Addr) (c : Nat) (p : Int × Int) (w : World) (hr : RowAt 2 encC w A l) (hlen : l.length ≤ 2097152) :
    Calls Try.prog 111 #[.slice A l.length c, .agg #[.int .i64 p.1, .int .i64 p.2]] w fun e w' => e = .returned (.bool (decide (p ∈ l))) ∧ Below w.heap.size w w' := by
  have HR := Lib.hid hr
  clear hr
  rw [← isC_any]
  go_enter Try.func111, Try.ntmps111
  go_wp2_with fail
  refine (indexC_any l _ _ p _ (HR.out.below (balloc (bref _) _)) hlen).mono ?_; rintro e w1 ⟨rfl, hb1⟩
  go_wp2
  go_ret
  exact ⟨ret_bool (idxL_any (isC p) l), bstep (balloc (bref _) _) hb1⟩
set_option maxHeartbeats 400000 in
theorem hasC_any (l : List (Int × Int)) (A : Option Addr) (c : Nat) (p : Int × Int) (w : World) (hr : RowAt 2 encC w A l) (hlen : l.length ≤ 2097152) :
    Calls Try.prog 93 #[.slice A l.length c, .agg #[.int .i64 p.1, .int .i64 p.2]] w fun e w' => e = .returned (.bool (decide (p ∈ l))) ∧ Below w.heap.size w w' := by
  have HR := Lib.hid hr
  clear hr
  go_enter Try.func93, Try.ntmps93
  go_wp2_with fail
  refine (containsC_any l _ _ p _ (HR.out.below (balloc (bref _) _)) hlen).mono ?_; rintro e w1 ⟨rfl, hb1⟩
  go_wp2
  go_ret
  exact ⟨rfl, bstep (balloc (bref _) _) hb1⟩

-- the order of the cells
def cmpC2 (a b : Int × Int) : Int := orL [cmpI a.1 b.1, cmpI a.2 b.2]
theorem cmpI_nil {a b : Int} : cmpI a b = 0 ↔ a = b := by
  unfold cmpI; split <;> (try split) <;> omega
theorem cmpC2_neg (a b : Int × Int) : decide (cmpC2 a b < 0) = ltP a b := by
  unfold cmpC2 ltP
  simp only [orL, cmpI_nil]
  rw [decide_eq_decide]
  unfold cmpI
  repeat' split
  all_goals omega
set_option maxRecDepth 100000 in
set_option maxHeartbeats 2000000 in
theorem compareC2_lays (a d : Int × Int) (w : World) :
    Calls Try.prog 95 #[.agg #[.int .i64 a.1, .int .i64 a.2], .agg #[.int .i64 d.1, .int .i64 d.2]] w fun e w' => e = .returned (.int .i64 (cmpC2 a d)) ∧ Lays w w' := by
  go_enter Try.func95, Try.ntmps95
  go_wp2_with fail
  go_region_held3 (fun w' => w'.cell? ⟨w.heap.size, 0, none⟩ = some (.int .i64 a.1) ∧ w'.cell? ⟨w.heap.size, 1, none⟩ = some (.int .i64 a.2) ∧ w'.cell? ⟨w.heap.size + 1, 0, none⟩ = some (.int .i64 d.1) ∧ w'.cell? ⟨w.heap.size + 1, 1, none⟩ = some (.int .i64 d.2))
    (go_keep) (first | (go_at_call 74; (with_reducible refine (cmp_any _ _ _).mono ?_); rintro e w' ⟨rfl, rfl⟩) | (go_at_call 73; (with_reducible refine (or2_any (cmpI a.1 d.1) (cmpI a.2 d.2) _ _ _ ?_).mono ?_); exact RowAt.of_block encI_len (heap_new3 _ _ _ _) rfl; rintro e w' ⟨rfl, rfl⟩))
  go_wp2
  go_ret
  exact ⟨rfl, by repeat (first | exact lref _ | (refine lalloc ?_ _) | (refine ldrew ?_) | (refine ldrewN ?_ _))⟩
theorem swoC2 : Go.Sort.SWO (ltOf cmpC2) := by
  have e : ltOf cmpC2 = ltP := by funext x y; exact cmpC2_neg x y
  rw [e]
  refine ⟨fun x => ltP_irr x, fun x y z h1 h2 => ltP_trans h1 h2, fun x y z h1 h2 => ?_⟩
  rw [ltP_no] at h1 h2 ⊢; omega
set_option maxRecDepth 100000 in
theorem sortC2_any (l : List (Int × Int)) (g c base : Nat) (w : World) (hown : w.ownsRow base 86 2 (.slice (some ⟨g, 0, none⟩) l.length c) l.length (l.flatMap encC)) (hlen : l.length ≤ 4194304) :
    Calls Try.prog 94 #[.slice (some ⟨g, 0, none⟩) l.length c, .func (.func 95) #[] #[]] w fun e w' => e = .returned (.tuple #[]) ∧ ∃ S : List (Int × Int), S.Perm l ∧ (S.Pairwise fun x y => ltP y x = false) ∧ S.length = l.length ∧
      w'.ownsRow base 86 2 (.slice (some ⟨g, 0, none⟩) l.length c) l.length (S.flatMap encC) ∧ w.grownBy w' (some g) := by
  have h := AnyQ.slices_SortFunc (α := Int × Int) laysCell 2 Try.isAgg86 Try.sizeOf86 encC encC_len encC_one cmpC2 swoC2 95 #[] g 0 c l.toArray w (enters_of Try.func95 (by kernel_rfl) rfl)
    (cmpLays_of (fun x y W => compareC2_lays x y W)) (own_holdsK encC_len rfl hown) (hown.lt g rfl).2 (by simp; omega)
  refine h.mono fun e w' ⟨he, d', n, os, hp, hs, hw⟩ => ?_
  subst hw
  have hsz : d'.size = l.length := by simpa using hp.1
  have e : ltOf cmpC2 = ltP := by funext x y; exact cmpC2_neg x y
  rw [e] at hs
  have h2 := sort_own encC_len hown hsz n os
  exact ⟨he, d'.toList, by simpa using permIn_list hp, sortedIn_list (by simpa using hsz) hs, by simpa using hsz, h2.1, h2.2⟩
end Go.Proofs.Ytjjinblahmcplaa
