/-
  Texts joined: what each says stands at its head.
-/
import Derived.Test.YtaobbkiepggafaaGreatAr0
import Derived.Test.YtaobbkiepggafaaGreatBase
import Derived.Shelf.Abstract
import Derived.Laws.EntriesVeiled
/-
  Predicates over Arrivals: what a function value that only makes memory answers.
-/
namespace Go.Proofs.YtaobbkiepggafaaGreat
set_option linter.unusedVariables false
set_option linter.unusedSimpArgs false
set_option linter.unnecessarySimpa false
open Go.RowKit

def aggAr (m : Ar) : Value := .agg #[.int .i64 m.id, .int .i64 m.x, .int .i64 m.y, .int .i64 m.tk, .int .i64 m.er]
/-- The function value g with captured caps answers p at the elements of l, in whatever world is made out of W. -/
def PredAr (g : Nat) (caps : Array Value) (p : Ar → Bool) (l : List Ar) (W : World) : Prop :=
  ∀ w, Below W.heap.size W w → ∀ m, m ∈ l → Calls Tryz.prog g (#[.agg #[.int .i64 m.id, .int .i64 m.x, .int .i64 m.y, .int .i64 m.tk, .int .i64 m.er]] ++ caps) w fun e w' => e = .returned (.bool (p m)) ∧ Below w.heap.size w w'

end Go.Proofs.YtaobbkiepggafaaGreat

/-
  slices.IndexFunc, slices.ContainsFunc and impl.all over Arrivals, with any predicate that only makes memory.
-/
namespace Go.Proofs.YtaobbkiepggafaaGreat
set_option linter.unusedVariables false
set_option linter.unusedSimpArgs false
set_option linter.unnecessarySimpa false
open Go.RowKit
attribute [local go_sem] ext_cell ext_frozen

set_option maxRecDepth 100000 in
set_option maxHeartbeats 1000000 in
theorem indexFuncAr_any (l : List Ar) (A : Option Addr) (c g : Nat) (caps : Array Value) (p : Ar → Bool) (eg : ∀ (args : Array Value) (w : World), (callFunc g args).run Tryz.prog w = .ok (.enter g args) w) (w : World) (hr : RowAt 5 encAr w A l) (hlen : l.length ≤ 2097152) (hp : PredAr g caps p l w) :
    Calls Tryz.prog 111 #[.slice A l.length c, .func (.func g) #[] caps] w fun e w' => e = .returned (.int .i64 (idxL p l 0)) ∧ Below w.heap.size w w' := by
  have HP := Lib.hid hp
  clear hp
  go_enter Tryz.func111, Tryz.ntmps111
  go_wp2_with fail
  go_loopw [8] (fun i wr => ∃ k : Nat, k ≤ l.length ∧ i = .int .i64 k ∧ Hid (idxL p (l.drop k) k = idxL p l 0) ∧ Below w.heap.size w wr) (fun i _ => l.length - (intOf i).toNat)
  case atStart => exact ⟨0, Nat.zero_le _, rfl, rfl, bref _⟩
  case round =>
    obtain ⟨k, hk, rfl, HI, hbr⟩ := hrel
    by_cases hlt : k < l.length
    · obtain ⟨m, hm⟩ := some_get hlt
      have i0 := ib0 k
      have i1 := ib1 hlt
      obtain ⟨b, off, rfl, hb, q0, q1, q2, q3, q4⟩ := (hr.below hbr).ar hm
      have HD := Lib.hid (drop_cons hm)
      have HM := Lib.hid (List.mem_of_getElem? hm)
      clear hr hm
      cases hpm : p m
      · have HF := Lib.hid (show idxL p (l.drop (k + 1)) (k + 1) = idxL p l 0 by rw [← HI.out, HD.out]; simp [idxL, hpm])
        go_wp2_with fail
        refine (HP.out _ hbr m HM.out).mono ?_; rintro e w1 ⟨rfl, hb1⟩
        clear HP HI HD
        go_wp2
        go_roundw
        case rel => exact ⟨k + 1, by omega, by go_num, HF, bstep hbr hb1⟩
        case measure => simp [intOf]; omega
      · have HF := Lib.hid (show idxL p l 0 = k by rw [← HI.out, HD.out]; simp [idxL, hpm])
        go_wp2_with fail
        refine (HP.out _ hbr m HM.out).mono ?_; rintro e w1 ⟨rfl, hb1⟩
        clear HP HI HD
        go_wp2
        go_ret
        exact ⟨ret_int HF.out.symm, bstep hbr hb1⟩
    · obtain rfl : k = l.length := by omega
      have HF := Lib.hid (show idxL p l 0 = -1 by rw [← HI.out, List.drop_length]; rfl)
      clear hr HP HI
      go_wp2
      go_ret
      exact ⟨ret_int HF.out.symm, hbr⟩

set_option maxHeartbeats 400000 in
theorem containsFuncAr_any (l : List Ar) (A : Option Addr) (c g : Nat) (caps : Array Value) (p : Ar → Bool) (eg : ∀ (args : Array Value) (w : World), (callFunc g args).run Tryz.prog w = .ok (.enter g args) w) (w : World) (hr : RowAt 5 encAr w A l) (hlen : l.length ≤ 2097152) (hp : PredAr g caps p l w) :
    Calls Tryz.prog 98 #[.slice A l.length c, .func (.func g) #[] caps] w fun e w' => e = .returned (.bool (l.any p)) ∧ Below w.heap.size w w' := by
  have HP := Lib.hid hp
  have HR := Lib.hid hr
  clear hp hr
  go_enter Tryz.func98, Tryz.ntmps98
  go_wp2_with fail
  refine (indexFuncAr_any l _ _ _ _ p eg _ HR.out hlen HP.out).mono ?_; rintro e w1 ⟨rfl, hb1⟩
  go_wp2
  go_ret
  exact ⟨ret_bool (idxL_any p l), hb1⟩

set_option maxRecDepth 100000 in
set_option maxHeartbeats 1000000 in
theorem all1Ar_any (m : Ar) (b g : Nat) (caps : Array Value) (v : Bool) (eg : ∀ (args : Array Value) (w : World), (callFunc g args).run Tryz.prog w = .ok (.enter g args) w) (w : World) (hc : w.cell? ⟨b, 0, none⟩ = some (.func (.func g) #[] caps))
    (hp : ∀ w1, Below w.heap.size w w1 → Calls Tryz.prog g (#[.agg #[.int .i64 m.id, .int .i64 m.x, .int .i64 m.y, .int .i64 m.tk, .int .i64 m.er]] ++ caps) w1 fun e w' => e = .returned (.bool v) ∧ Below w1.heap.size w1 w') :
    Calls Tryz.prog 99 #[.agg #[.int .i64 m.id, .int .i64 m.x, .int .i64 m.y, .int .i64 m.tk, .int .i64 m.er], .pointer (some ⟨b, 0, none⟩)] w fun e w' => e = .returned (.bool !v) ∧ Below w.heap.size w w' := by
  have HP := Lib.hid hp
  have hb : b < w.heap.size := World.block_lt_of_cell? w ⟨b, 0, none⟩ hc
  clear hp
  go_enter Tryz.func99, Tryz.ntmps99
  go_wp2_with fail
  refine (HP.out _ (balloc (bref _) _)).mono ?_; rintro e w1 ⟨rfl, hb1⟩
  clear HP
  go_wp2
  go_ret
  exact ⟨rfl, (by repeat (first | exact bref _ | (refine balloc ?_ _) | (refine bdrew ?_) | (refine bdrewN ?_ _) | (refine bstep ?_ (by assumption))))⟩

set_option maxRecDepth 100000 in
set_option maxHeartbeats 1000000 in
theorem allAr_any (l : List Ar) (A : Option Addr) (c g : Nat) (caps : Array Value) (p : Ar → Bool) (eg : ∀ (args : Array Value) (w : World), (callFunc g args).run Tryz.prog w = .ok (.enter g args) w) (w : World) (hr : RowAt 5 encAr w A l) (hlen : l.length ≤ 2097152) (hp : PredAr g caps p l w) :
    Calls Tryz.prog 69 #[.slice A l.length c, .func (.func g) #[] caps] w fun e w' => e = .returned (.bool (l.all p)) ∧ Below w.heap.size w w' := by
  have hmf : ∀ (fn : Fn) (first cap : Array Value) (w : World), (Instr.makeFunc fn first cap).run Tryz.prog w = .ok (.func fn first cap) w := fun _ _ _ _ => rfl
  have HP := Lib.hid hp
  have HR := Lib.hid hr
  clear hp hr
  go_enter Tryz.func69, Tryz.ntmps69
  go_wp2_with fail
  refine (containsFuncAr_any l _ _ _ _ (fun m => !p m) (enters_of Tryz.func99 (by kernel_rfl) rfl) _ (HR.out.below (balloc (bref _) _)) hlen ?_).mono ?_
  · intro w1 hb1 m hm
    have h0 : (w.alloc (.cells #[.func (.func g) #[] caps] 89)).cell? ⟨w.heap.size, 0, none⟩ = some (.func (.func g) #[] caps) := by simp [go_sem]
    exact all1Ar_any m w.heap.size g caps (p m) eg w1 ((hb1.cell (p := ⟨w.heap.size, 0, none⟩) (by simp)).trans h0) (fun w2 hb2 => HP.out w2 (bstep (bstep (balloc (bref _) _) hb1) hb2) m hm)
  · rintro e w1 ⟨rfl, hb1⟩
    clear HP HR hmf
    go_wp2
    go_ret
    exact ⟨ret_bool (by simp [List.all_eq_not_any_not]), (by repeat (first | exact bref _ | (refine balloc ?_ _) | (refine bdrew ?_) | (refine bdrewN ?_ _) | (refine bstep ?_ (by assumption))))⟩
end Go.Proofs.YtaobbkiepggafaaGreat

/-
  impl.filter over Arrivals, with any predicate that only makes memory: the kept elements, in new memory.
-/
namespace Go.Proofs.YtaobbkiepggafaaGreat
set_option linter.unusedVariables false
set_option linter.unusedSimpArgs false
set_option linter.unnecessarySimpa false
open Go.RowKit

theorem filter_hitAr {p : Ar → Bool} {l : List Ar} {k : Nat} {m : Ar} (hm : l[k]? = some m) (h : p m = true) : (l.take (k + 1)).filter p = (l.take k).filter p ++ [m] := by
  rw [List.take_add_one, hm]; simp [h]
theorem filter_missAr {p : Ar → Bool} {l : List Ar} {k : Nat} {m : Ar} (hm : l[k]? = some m) (h : p m = false) : (l.take (k + 1)).filter p = (l.take k).filter p := by
  rw [List.take_add_one, hm]; simp [h]
theorem filter_lenAr {p : Ar → Bool} {l : List Ar} {k : Nat} : ((l.take k).filter p).length ≤ k := Nat.le_trans (List.length_filter_le _ _) (List.length_take_le _ _)

set_option maxRecDepth 100000 in
set_option maxHeartbeats 2000000 in
theorem filterAr_any (l : List Ar) (A : Option Addr) (c g : Nat) (caps : Array Value) (p : Ar → Bool) (eg : ∀ (args : Array Value) (w : World), (callFunc g args).run Tryz.prog w = .ok (.enter g args) w) (w : World) (hr : RowAt 5 encAr w A l) (hlen : l.length ≤ 2097152) (hp : PredAr g caps p l w) :
    Calls Tryz.prog 72 #[.slice A l.length c, .func (.func g) #[] caps] w (MkS 71 5 (l.filter p).length ((l.filter p).flatMap encAr) w) := by
  have HP := Lib.hid hp
  have HR := Lib.hid hr
  clear hp hr
  go_enter Tryz.func72, Tryz.ntmps72
  go_wp2_with fail
  go_loopw [5, 11] (fun v i wr => ∃ (k : Nat) (D : List Ar) (A' : Option Addr) (c' : Nat), k ≤ l.length ∧ i = .int .i64 k ∧ v = .slice A' D.length c' ∧ D.length ≤ k ∧ Hid (D = (l.take k).filter p) ∧ Below w.heap.size w wr ∧ wr.ownsRow w.heap.size 71 5 (.slice A' D.length c') D.length (D.flatMap encAr)) (fun _ i _ => l.length - (intOf i).toNat)
  case atStart => exact ⟨0, [], some ⟨w.heap.size, 0, none⟩, 0, Nat.zero_le _, rfl, rfl, Nat.le_refl _, rfl, balloc (bref _) _, own_made (cur := #[]) rfl (Nat.zero_le _)⟩
  case round =>
    obtain ⟨k, D, A', c', hk, rfl, rfl, hDl, HD, hbr, hown⟩ := hrel
    by_cases hlt : k < l.length
    · obtain ⟨m, hm⟩ := some_get hlt
      have i0 := ib0 k
      have i1 := ib1 hlt
      obtain ⟨b, off, rfl, hb, q0, q1, q2, q3, q4⟩ := (HR.out.below hbr).ar hm
      have HM := Lib.hid hm
      have HO := Lib.hid hown
      have hmem := Lib.hid (List.mem_of_getElem? hm)
      have hsz := hbr.size
      clear hm hown
      cases hpm : p m
      · have HN := Lib.hid (filter_missAr HM.out hpm)
        go_wp2_with fail
        refine (HP.out _ (balloc hbr _) m hmem.out).mono ?_; rintro e w1 ⟨rfl, hb1⟩
        rw [hpm]
        clear hpm
        go_wp2
        go_roundw
        case rel => exact ⟨k + 1, D, A', c', by omega, by go_num, rfl, by omega, Lib.hid (by rw [HN.out]; exact HD.out), bstep (balloc hbr _) hb1, own_below (HO.out.alloc _) hb1⟩
        case measure => simp [intOf]; omega
      · have HN := Lib.hid (filter_hitAr HM.out hpm)
        go_wp2_with fail
        refine (HP.out _ (balloc hbr _) m hmem.out).mono ?_; rintro e w1 ⟨rfl, hb1⟩
        rw [hpm]
        clear hpm
        obtain ⟨hc1, _, hz1⟩ := bcell (B := wr.heap.size + 1) (by simp) hb1
        go_wp2_with (at_builtin; refine wpList_app rfl _ _ 24 71 5 40 _ rfl Tryz.underlying24 infoAr rfl (by decide) w.heap.size _ D.length _ (by rfl) ((own_below (HO.out.alloc _) hb1).alloc _) _ _ (by rfl) (heap_new1 _ _) rfl (encAr_one m) (by omega) (by decide) (by simp; omega) ?_; intro g2 c2 w2 ho2 hg2 hl2)
        go_roundw
        case rel => exact ⟨k + 1, D ++ [m], some ⟨g2, 0, none⟩, c2, by omega, by go_num, by simp, by simp; omega, Lib.hid (by rw [HN.out, ← HD.out]), bgrown (balloc (bstep (balloc hbr _) hb1) _) hg2 (fun k hk => row_mine HO.out k hk), by simpa [encAr] using ho2⟩
        case measure => simp [intOf]; omega
    · obtain rfl : k = l.length := by omega
      have HO := Lib.hid hown
      have HE := Lib.hid (show D = l.filter p by rw [HD.out, List.take_length])
      clear hown HD
      go_wp2
      go_ret
      refine ⟨A', c', ?_, ?_, hbr⟩
      · rw [← HE.out]; rfl
      · rw [← HE.out]; exact HO.out
end Go.Proofs.YtaobbkiepggafaaGreat
