/-
  HolderOf: impl and spec find the first cube that has an origin.
-/
import Derived.Test.YtaobbkiepggafaaGreatCuPs
import Derived.Test.YtaobbkiepggafaaGreatCuOne
import Derived.Test.YtaobbkiepggafaaGreatCuPl
import Derived.Test.YtaobbkiepggafaaGreatArCons
namespace Go.Proofs.YtaobbkiepggafaaGreat
set_option linter.unusedVariables false
set_option linter.unusedSimpArgs false
set_option linter.unnecessarySimpa false
open Go.RowKit
attribute [local go_sem] ext_cell ext_frozen

def holdI (o : Og) (l : List Cu) : Nat := l.findIdx fun m => holdB m o
def holOK (l : List Cu) (o : Og) : Bool := decide (l.length ≤ 64) && l.all cubeB && origB o
def holR (l : List Cu) (o : Og) : Int × Bool := if holOK l o && l.any (fun m => holdB m o) then ((holdI o l : Nat), true) else (0, false)
theorem holR_bad {l : List Cu} {o : Og} (h : holOK l o = false) : holR l o = (0, false) := by simp [holR, h]
theorem holR_hit {l : List Cu} {o : Og} {k : Nat} {m : Cu} (h : holOK l o = true) (hm : l[k]? = some m) (hk : ∀ j, j < k → ∀ x, l[j]? = some x → holdB x o = false) (hh : holdB m o = true) : holR l o = ((k : Int), true) := by
  have h1 : l.any (fun m => holdB m o) = true := List.any_eq_true.2 ⟨m, List.mem_of_getElem? hm, hh⟩
  have hlt := (List.getElem?_eq_some_iff.1 hm).1
  have h2 : holdI o l = k := by
    unfold holdI
    rw [List.findIdx_eq hlt]
    obtain ⟨_, e⟩ := List.getElem?_eq_some_iff.1 hm
    exact ⟨by rw [e]; exact hh, fun j hj => hk j hj _ (List.getElem?_eq_getElem (by omega))⟩
  simp [holR, h, h1, h2]
theorem holR_none {l : List Cu} {o : Og} (hk : ∀ j, j < l.length → ∀ x, l[j]? = some x → holdB x o = false) : holR l o = (0, false) := by
  have h1 : l.any (fun m => holdB m o) = false := by
    rw [List.any_eq_false]
    intro x hx
    obtain ⟨j, hj⟩ := List.mem_iff_getElem?.1 hx
    rw [hk j (List.getElem?_eq_some_iff.1 hj).1 x hj]
    simp
  simp [holR, h1]
set_option maxRecDepth 100000 in
set_option maxHeartbeats 2000000 in
theorem holds_any (m : Cu) (o : Og) (w : World) (hm : cubeB m = true) :
    Calls Tryz.prog 44 #[.agg #[.int .i64 m.ws, .int .i64 m.so, .int .i64 m.sd, .int .i64 m.fr, .int .i64 m.to_], .agg #[.int .i64 o.x, .int .i64 o.y, .int .i64 o.tk]] w fun e w' => e = .returned (.bool (holdB m o)) ∧ Below w.heap.size w w' := by
  obtain ⟨b1, b2, b3, b4, b5⟩ := cubeB_bounds hm
  clear hm
  cases h1 : inB o.x m.ws (m.ws + m.sd - 1) <;> cases h2 : inB o.y m.so (m.so + m.sd - 1) <;> cases h3 : inB o.tk m.fr m.to_
  all_goals
    go_enter Tryz.func44, Tryz.ntmps44
    go_wp2_with (go_at_call 59; (with_reducible refine (in_any _ _ _ _).mono ?_); (first | rw [h1] | rw [h2] | rw [h3]); rintro e w' ⟨rfl, rfl⟩)
    go_ret
    exact ⟨ret_bool (by simp [holdB, h1, h2, h3]), by repeat (first | exact bref _ | (refine balloc ?_ _) | (refine bdrew ?_) | (refine bdrewN ?_ _))⟩
set_option maxRecDepth 100000 in
set_option maxHeartbeats 4000000 in
theorem iHold_any (l : List Cu) (o : Og) (A : Option Addr) (c : Nat) (w : World) (hr : RowAt 5 encCu w A l) (hlen : l.length ≤ 2097152) :
    Calls Tryz.prog 17 #[.slice A l.length c, .agg #[.int .i64 o.x, .int .i64 o.y, .int .i64 o.tk]] w fun e w' => e = .returned (.tuple #[.int .i64 (holR l o).1, .bool (holR l o).2]) ∧ Below w.heap.size w w' := by
  have HB0 := Lib.hid (boxOg w 38 o)
  have HR := Lib.hid (hr.below (balloc (bref w) (.cells #[.int .i64 o.x, .int .i64 o.y, .int .i64 o.tk] 38)))
  have hz0 : w.heap.size < (w.alloc (.cells #[.int .i64 o.x, .int .i64 o.y, .int .i64 o.tk] 38)).heap.size := by simp
  have hBW : Below w.heap.size w (w.alloc (.cells #[.int .i64 o.x, .int .i64 o.y, .int .i64 o.tk] 38)) := balloc (bref w) _
  clear hr
  by_cases h64 : l.length ≤ 64
  · cases h1 : l.all cubeB <;> cases h2 : origB o
    case true.true =>
      have HOK := Lib.hid (show holOK l o = true by simp [holOK, h64, h1, h2])
      have HALL := Lib.hid (show ∀ m ∈ l, cubeB m = true from fun m hm => List.all_eq_true.1 h1 m hm)
      have h64i : ¬ (64 : Int) < (l.length : Int) := by omega
      obtain ⟨c0, c1, c2⟩ := HB0.out
      go_enter Tryz.func17, Tryz.ntmps17
      go_wp2_with fail
      refine (allCu_any l A c 9 #[] cubeB (enters_of Tryz.func9 (by kernel_rfl) rfl) _ HR.out hlen (fun W _ m _ => by rw [Array.append_empty]; exact isCube_any m W)).mono ?_
      rw [h1]; rintro e w1 ⟨rfl, hb1⟩
      obtain ⟨d0, d1, d2⟩ := cellOg hz0 HB0.out hb1
      clear c0 c1 c2
      go_wp2_with fail
      refine (isOrigin_any o _).mono ?_; rw [h2]; rintro e w2 ⟨rfl, hb2⟩
      have HB2 := Lib.hid (bstep hb1 hb2)
      generalize hW : (w.alloc (.cells #[.int .i64 o.x, .int .i64 o.y, .int .i64 o.tk] 38)) = W0 at HB0 HR hz0 hBW HB2
      clear hb1 hb2 d0 d1 d2 h1 h2 hW
      go_wp2_with fail
      go_loopw [23] (fun i wr => ∃ k : Nat, k ≤ l.length ∧ i = .int .i64 k ∧ Hid (∀ j, j < k → ∀ x, l[j]? = some x → holdB x o = false) ∧ Hid (Below W0.heap.size W0 wr)) (fun i _ => l.length - (intOf i).toNat)
      case atStart => exact ⟨0, Nat.zero_le _, rfl, Lib.hid (fun j hj => absurd hj (by omega)), HB2⟩
      case round =>
        clear HB2
        obtain ⟨k, hk, rfl, HU, HBr⟩ := hrel
        by_cases hlt : k < l.length
        · obtain ⟨m, hm⟩ := some_get hlt
          have i0 := ib0 k
          have i1 := ib1 hlt
          obtain ⟨b, off, rfl, hb, q0, q1, q2, q3, q4⟩ := (HR.out.below HBr.out).cu hm
          have HC := Lib.hid (HALL.out m (List.mem_of_getElem? hm))
          have HM := Lib.hid hm
          obtain ⟨d0, d1, d2⟩ := cellOg hz0 HB0.out HBr.out
          have hzr := Nat.lt_of_lt_of_le hz0 HBr.out.size
          have hne : w.heap.size ≠ wr.heap.size := by omega
          clear hm
          cases hh : holdB m o
          · have HU2 := Lib.hid (show ∀ j, j < k + 1 → ∀ x, l[j]? = some x → holdB x o = false from fun j hj x hx => by
              by_cases e : j = k
              · subst e; rw [HM.out] at hx; cases hx; exact hh
              · exact HU.out j (by omega) x hx)
            go_wp2_with fail
            refine (holds_any m o _ HC.out).mono ?_; rw [hh]; rintro e w5 ⟨rfl, hb5⟩
            go_wp2_with fail
            go_roundw
            case rel => exact ⟨k + 1, by omega, by go_num, HU2, Lib.hid (bstep (balloc HBr.out _) hb5)⟩
            case measure => simp [intOf]; omega
          · have HE := Lib.hid (holR_hit HOK.out HM.out HU.out hh)
            go_wp2_with fail
            refine (holds_any m o _ HC.out).mono ?_; rw [hh]; rintro e w5 ⟨rfl, hb5⟩
            go_wp2_with fail
            go_ret2
            rw [HE.out]
            exact ⟨rfl, bstep hBW (bstep (balloc HBr.out _) hb5)⟩
        · obtain rfl : k = l.length := by omega
          have HE := Lib.hid (holR_none HU.out)
          go_wp2_with fail
          go_ret2
          rw [HE.out]
          exact ⟨rfl, bstep hBW HBr.out⟩
    all_goals
      have HE := Lib.hid (holR_bad (l := l) (o := o) (by simp [holOK, h1, h2]))
      have h64i : ¬ (64 : Int) < (l.length : Int) := by omega
      obtain ⟨c0, c1, c2⟩ := HB0.out
      go_enter Tryz.func17, Tryz.ntmps17
      go_wp2_with fail
      refine (allCu_any l A c 9 #[] cubeB (enters_of Tryz.func9 (by kernel_rfl) rfl) _ HR.out hlen (fun W _ m _ => by rw [Array.append_empty]; exact isCube_any m W)).mono ?_
      rw [h1]; rintro e w1 ⟨rfl, hb1⟩
      obtain ⟨d0, d1, d2⟩ := cellOg hz0 HB0.out hb1
      clear c0 c1 c2
      go_wp2_with (go_at_call 41; (with_reducible refine (isOrigin_any o _).mono ?_); rw [h2]; rintro e w2 ⟨rfl, hb2⟩)
      go_ret2
      rw [HE.out]
      first | exact ⟨rfl, bstep (bstep hBW hb1) hb2⟩ | exact ⟨rfl, bstep hBW hb1⟩
  · have HE := Lib.hid (holR_bad (l := l) (o := o) (by simp [holOK]; omega))
    have h64i : (64 : Int) < (l.length : Int) := by omega
    go_enter Tryz.func17, Tryz.ntmps17
    go_wp2_with fail
    go_ret2
    rw [HE.out]
    exact ⟨rfl, hBW⟩
end Go.Proofs.YtaobbkiepggafaaGreat
