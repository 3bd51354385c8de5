/-
  Whether a cube is possible: impl and spec answer alike.
-/
import Derived.Test.YtaobbkiepggafaaGreatCuRch
import Derived.Test.YtaobbkiepggafaaGreatArGood
import Derived.Test.YtaobbkiepggafaaGreatArPs
namespace Go.Proofs.YtaobbkiepggafaaGreat
set_option linter.unusedVariables false
set_option linter.unusedSimpArgs false
set_option linter.unnecessarySimpa false
open Go.RowKit
attribute [local go_sem] ext_cell ext_frozen

def mostI (m : Cu) (a : Ar) : Int := a.tk + a.er - m.fr
def leastI (m : Cu) (a : Ar) : Int := a.tk - a.er - m.to_
def canA (m : Cu) (a : Ar) : Bool := decide (0 ≤ a.tk + a.er - m.fr) && decide (400 * rLo m a.x a.y ≤ (a.tk + a.er - m.fr) * (a.tk + a.er - m.fr)) && (decide (a.tk - a.er - m.to_ ≤ 0) || decide ((a.tk - a.er - m.to_) * (a.tk - a.er - m.to_) ≤ 400 * rHi m a.x a.y))
def oneArM (m : Ar) : Bool := oneAr m.id m.x m.y m.tk m.er
theorem sqw_bd {d : Int} (h : -2100000 ≤ d ∧ d ≤ 2100000) : 0 ≤ d * d ∧ d * d ≤ 4410000000000 := by
  have h1 : d * d = d.natAbs * d.natAbs := (Int.natAbs_mul_self (a := d)).symm
  have h2 : d.natAbs ≤ 2100000 := by omega
  have h3 := Nat.mul_le_mul h2 h2
  have h4 : ((d.natAbs * d.natAbs : Nat) : Int) = (d.natAbs : Int) * (d.natAbs : Int) := Int.natCast_mul _ _
  constructor
  · rw [h1, ← h4]; omega
  · rw [h1, ← h4]; omega
theorem cellCu {w W : World} {b : Nat} {m : Cu} (hb : b < w.heap.size) (h : w.cell? ⟨b, 0, none⟩ = some (.int .i64 m.ws) ∧ w.cell? ⟨b, 1, none⟩ = some (.int .i64 m.so) ∧ w.cell? ⟨b, 2, none⟩ = some (.int .i64 m.sd) ∧ w.cell? ⟨b, 3, none⟩ = some (.int .i64 m.fr) ∧ w.cell? ⟨b, 4, none⟩ = some (.int .i64 m.to_)) (hW : Below w.heap.size w W) :
    W.cell? ⟨b, 0, none⟩ = some (.int .i64 m.ws) ∧ W.cell? ⟨b, 1, none⟩ = some (.int .i64 m.so) ∧ W.cell? ⟨b, 2, none⟩ = some (.int .i64 m.sd) ∧ W.cell? ⟨b, 3, none⟩ = some (.int .i64 m.fr) ∧ W.cell? ⟨b, 4, none⟩ = some (.int .i64 m.to_) :=
  ⟨(hW.cell (p := ⟨b, 0, none⟩) hb).trans h.1, (hW.cell (p := ⟨b, 1, none⟩) hb).trans h.2.1, (hW.cell (p := ⟨b, 2, none⟩) hb).trans h.2.2.1, (hW.cell (p := ⟨b, 3, none⟩) hb).trans h.2.2.2.1, (hW.cell (p := ⟨b, 4, none⟩) hb).trans h.2.2.2.2⟩
theorem boxCu (w : World) (T : Nat) (m : Cu) : (w.alloc (.cells #[.int .i64 m.ws, .int .i64 m.so, .int .i64 m.sd, .int .i64 m.fr, .int .i64 m.to_] T)).cell? ⟨w.heap.size, 0, none⟩ = some (.int .i64 m.ws) ∧ (w.alloc (.cells #[.int .i64 m.ws, .int .i64 m.so, .int .i64 m.sd, .int .i64 m.fr, .int .i64 m.to_] T)).cell? ⟨w.heap.size, 1, none⟩ = some (.int .i64 m.so) ∧
    (w.alloc (.cells #[.int .i64 m.ws, .int .i64 m.so, .int .i64 m.sd, .int .i64 m.fr, .int .i64 m.to_] T)).cell? ⟨w.heap.size, 2, none⟩ = some (.int .i64 m.sd) ∧ (w.alloc (.cells #[.int .i64 m.ws, .int .i64 m.so, .int .i64 m.sd, .int .i64 m.fr, .int .i64 m.to_] T)).cell? ⟨w.heap.size, 3, none⟩ = some (.int .i64 m.fr) ∧
    (w.alloc (.cells #[.int .i64 m.ws, .int .i64 m.so, .int .i64 m.sd, .int .i64 m.fr, .int .i64 m.to_] T)).cell? ⟨w.heap.size, 4, none⟩ = some (.int .i64 m.to_) := by
  simp [go_sem]
theorem boxAr (w : World) (T : Nat) (m : Ar) : (w.alloc (.cells #[.int .i64 m.id, .int .i64 m.x, .int .i64 m.y, .int .i64 m.tk, .int .i64 m.er] T)).cell? ⟨w.heap.size, 1, none⟩ = some (.int .i64 m.x) ∧ (w.alloc (.cells #[.int .i64 m.id, .int .i64 m.x, .int .i64 m.y, .int .i64 m.tk, .int .i64 m.er] T)).cell? ⟨w.heap.size, 2, none⟩ = some (.int .i64 m.y) ∧
    (w.alloc (.cells #[.int .i64 m.id, .int .i64 m.x, .int .i64 m.y, .int .i64 m.tk, .int .i64 m.er] T)).cell? ⟨w.heap.size, 3, none⟩ = some (.int .i64 m.tk) ∧ (w.alloc (.cells #[.int .i64 m.id, .int .i64 m.x, .int .i64 m.y, .int .i64 m.tk, .int .i64 m.er] T)).cell? ⟨w.heap.size, 4, none⟩ = some (.int .i64 m.er) := by
  simp [go_sem]
theorem cellAr4 {w W : World} {b : Nat} {m : Ar} (hb : b < w.heap.size) (h : w.cell? ⟨b, 1, none⟩ = some (.int .i64 m.x) ∧ w.cell? ⟨b, 2, none⟩ = some (.int .i64 m.y) ∧ w.cell? ⟨b, 3, none⟩ = some (.int .i64 m.tk) ∧ w.cell? ⟨b, 4, none⟩ = some (.int .i64 m.er)) (hW : Below w.heap.size w W) :
    W.cell? ⟨b, 1, none⟩ = some (.int .i64 m.x) ∧ W.cell? ⟨b, 2, none⟩ = some (.int .i64 m.y) ∧ W.cell? ⟨b, 3, none⟩ = some (.int .i64 m.tk) ∧ W.cell? ⟨b, 4, none⟩ = some (.int .i64 m.er) :=
  ⟨(hW.cell (p := ⟨b, 1, none⟩) hb).trans h.1, (hW.cell (p := ⟨b, 2, none⟩) hb).trans h.2.1, (hW.cell (p := ⟨b, 3, none⟩) hb).trans h.2.2.1, (hW.cell (p := ⟨b, 4, none⟩) hb).trans h.2.2.2⟩

set_option maxRecDepth 100000 in
set_option maxHeartbeats 4000000 in
theorem canClos_any (m : Cu) (a : Ar) (b : Nat) (w : World) (hm : cubeB m = true) (ha : oneArM a = true) (hb : b < w.heap.size)
    (hc : w.cell? ⟨b, 0, none⟩ = some (.int .i64 m.ws) ∧ w.cell? ⟨b, 1, none⟩ = some (.int .i64 m.so) ∧ w.cell? ⟨b, 2, none⟩ = some (.int .i64 m.sd) ∧ w.cell? ⟨b, 3, none⟩ = some (.int .i64 m.fr) ∧ w.cell? ⟨b, 4, none⟩ = some (.int .i64 m.to_)) :
    Calls Tryz.prog 70 #[.agg #[.int .i64 a.id, .int .i64 a.x, .int .i64 a.y, .int .i64 a.tk, .int .i64 a.er], .pointer (some ⟨b, 0, none⟩)] w fun e w' => e = .returned (.bool (canA m a)) ∧ Below w.heap.size w w' := by
  obtain ⟨_, bx, by_, bt, be⟩ := oneAr_bounds ha
  obtain ⟨_, _, _, bf, bo⟩ := cubeB_bounds hm
  have HB0 := Lib.hid (boxAr w 71 a)
  have HR := Lib.hid (fun W => reach_any m a.x a.y W hm bx by_)
  have l1 := rLo_bd hm bx by_
  have l2 := rHi_bd hm bx by_
  have s1 := sqw_bd (d := a.tk + a.er - m.fr) (by omega)
  have s2 := sqw_bd (d := a.tk - a.er - m.to_) (by omega)
  have hw1 : IntKind.i64.wrap (a.tk + a.er) = a.tk + a.er := by rw [IntKind.wrap_i64]; omega
  have hw2 : IntKind.i64.wrap (a.tk + a.er - m.fr) = a.tk + a.er - m.fr := by rw [IntKind.wrap_i64]; omega
  have hw3 : IntKind.i64.wrap (a.tk - a.er) = a.tk - a.er := by rw [IntKind.wrap_i64]; omega
  have hw4 : IntKind.i64.wrap (a.tk - a.er - m.to_) = a.tk - a.er - m.to_ := by rw [IntKind.wrap_i64]; omega
  have HCW := Lib.hid (fun W (hW : Below w.heap.size w W) => cellCu hb hc hW)
  have HF := Lib.hid (show canA m a = (decide (0 ≤ a.tk + a.er - m.fr) && decide (400 * rLo m a.x a.y ≤ (a.tk + a.er - m.fr) * (a.tk + a.er - m.fr)) && (decide (a.tk - a.er - m.to_ ≤ 0) || decide ((a.tk - a.er - m.to_) * (a.tk - a.er - m.to_) ≤ 400 * rHi m a.x a.y))) from rfl)
  obtain ⟨c0, c1, c2, c3, c4⟩ := hc
  have HR2 : Hid (∀ W : World, Calls Tryz.prog 71 #[.agg #[.int .i64 m.ws, .int .i64 m.so, .int .i64 m.sd, .int .i64 m.fr, .int .i64 m.to_], .int .i64 a.x, .int .i64 a.y] W fun e w' => e = .returned (.tuple #[.int .i64 (rLo m a.x a.y), .int .i64 (rHi m a.x a.y)]) ∧ Below W.heap.size W w') := Lib.hid (fun W => HR.out W)
  clear HR
  generalize rLo m a.x a.y = lo at l1 HF HR2
  generalize rHi m a.x a.y = hi at l2 HF HR2
  have G1 : 0 ≤ 400 * lo ∧ 400 * lo ≤ 2000000000 := by omega
  have G2 : 0 ≤ 400 * hi ∧ 400 * hi ≤ 2000000000 := by omega
  go_enter Tryz.func70, Tryz.ntmps70
  go_wp2_with (go_at_call 71; (with_reducible refine (HR2.out _).mono ?_); rintro e w1 ⟨rfl, hb1⟩)
  obtain ⟨c0, c1, c2, c3, c4⟩ := HCW.out w1 (bstep (balloc (bref _) _) hb1)
  obtain ⟨d1, d2, d3, d4⟩ := cellAr4 (by simp) HB0.out hb1
  have hs1 := hb1.size
  simp only [World.size_alloc] at hs1
  have hz1 : w.heap.size < w1.heap.size := by omega
  have hz2 : b < w1.heap.size := by omega
  have hbw := bstep (balloc (bref w) _) hb1
  clear HCW HB0 HR2
  (refine wp_region_calm (by kernel_rfl) (by kernel_rfl) ?_; (repeat (go_big_quiet_step ((fail)))); refine wpQuiet_nil ?_; intro xw; have hb2 := xw.is; generalize xw.w = w2 at hb2 ⊢; clear xw)
  have hbw2 := bstep hbw hb2
  clear c0 c1 c2 c3 c4 d1 d2 d3 d4 hb1 hb2 hs1 hz1 hz2 hbw
  generalize a.tk + a.er - m.fr = P at *
  generalize a.tk - a.er - m.to_ = Q at *
  generalize hPP : P * P = PP at *
  generalize hQQ : Q * Q = QQ at *
  by_cases h1 : 0 ≤ P
  · by_cases h2 : 400 * lo ≤ PP
    · by_cases h3 : Q ≤ 0
      · go_wp2_with fail
        go_ret
        exact ⟨ret_bool (by rw [HF.out]; simp [h1, h2, h3] <;> (intros; omega)), hbw2⟩
      · go_wp2_with fail
        all_goals
          go_ret
          exact ⟨ret_bool (by rw [HF.out]; simp [h1, h2, h3] <;> (intros; omega)), hbw2⟩
    · go_wp2_with fail
      go_ret
      exact ⟨ret_bool (by rw [HF.out]; simp [h1, h2] <;> (intros; omega)), hbw2⟩
  · go_wp2_with fail
    go_ret
    exact ⟨ret_bool (by rw [HF.out]; simp [h1] <;> (intros; omega)), hbw2⟩
set_option maxRecDepth 100000 in
set_option maxHeartbeats 2000000 in
theorem possible_any (m : Cu) (l : List Ar) (A : Option Addr) (c : Nat) (w : World) (hm : cubeB m = true) (hr : RowAt 5 encAr w A l) (hlen : l.length ≤ 2097152) (hg : ∀ a ∈ l, oneArM a = true) :
    Calls Tryz.prog 40 #[.agg #[.int .i64 m.ws, .int .i64 m.so, .int .i64 m.sd, .int .i64 m.fr, .int .i64 m.to_], .slice A l.length c] w fun e w' => e = .returned (.bool (l.all (canA m))) ∧ Below w.heap.size w w' := by
  have hmf : ∀ (fn : Fn) (first cap : Array Value) (w : World), (Instr.makeFunc fn first cap).run Tryz.prog w = .ok (.func fn first cap) w := fun _ _ _ _ => rfl
  have HB0 := boxCu w 26 m
  have h := allAr_any l A c 70 #[.pointer (some ⟨w.heap.size, 0, none⟩)] (canA m) (enters_of Tryz.func70 (by kernel_rfl) rfl) (w.alloc (.cells #[.int .i64 m.ws, .int .i64 m.so, .int .i64 m.sd, .int .i64 m.fr, .int .i64 m.to_] 26)) (hr.below (balloc (bref w) _)) hlen
    (fun w1 hb1 a ha => canClos_any m a w.heap.size w1 hm (hg a ha) (Nat.lt_of_lt_of_le (by simp) hb1.size) (cellCu (by simp) HB0 hb1))
  have HH := Lib.hid h
  clear h HB0 hr
  go_enter Tryz.func40, Tryz.ntmps40
  go_wp2_with (go_at_call 69; (with_reducible refine (HH.out).mono ?_); rintro e w1 ⟨rfl, hb1⟩)
  go_ret
  exact ⟨rfl, bstep (balloc (bref _) _) hb1⟩
theorem all_no {l : List Ar} {p : Ar → Bool} {k : Nat} {a : Ar} (h : l[k]? = some a) (hp : p a = false) : l.all p = false := by
  rw [List.all_eq_false]
  exact ⟨a, List.mem_of_getElem? h, by simp [hp]⟩
theorem all_yes {l : List Ar} {p : Ar → Bool} (h : UpTo (fun i => ∀ a, l[i]? = some a → p a = true) l.length) : l.all p = true := by
  rw [List.all_eq_true]
  intro a ha
  obtain ⟨i, hi⟩ := List.getElem?_of_mem ha
  exact h i (List.getElem?_eq_some_iff.1 hi).1 a hi
set_option maxRecDepth 100000 in
set_option maxHeartbeats 4000000 in
theorem l12Can_any (m : Cu) (l : List Ar) (A : Option Addr) (c : Nat) (w : World) (hm : cubeB m = true) (hr : RowAt 5 encAr w A l) (hlen : l.length ≤ 2097152) (hg : ∀ a ∈ l, oneArM a = true) :
    Calls Tryz.prog 65 #[.slice A l.length c, .agg #[.int .i64 m.ws, .int .i64 m.so, .int .i64 m.sd, .int .i64 m.fr, .int .i64 m.to_]] w fun e w' => e = .returned (.bool (l.all (canA m))) ∧ Below w.heap.size w w' := by
  have HR := Lib.hid hr
  have HG := Lib.hid hg
  have HB0 := Lib.hid (boxCu w 26 m)
  have HM := Lib.hid hm
  obtain ⟨_, _, _, bf, bo⟩ := cubeB_bounds hm
  clear hr hg hm
  go_enter Tryz.func65, Tryz.ntmps65
  go_wp2_with fail
  go_loopw [5] (fun i wr => ∃ k : Nat, k ≤ l.length ∧ i = .int .i64 k ∧ Hid (UpTo (fun i => ∀ a, l[i]? = some a → canA m a = true) k) ∧ Below (w.alloc (.cells #[.int .i64 m.ws, .int .i64 m.so, .int .i64 m.sd, .int .i64 m.fr, .int .i64 m.to_] 26)).heap.size (w.alloc (.cells #[.int .i64 m.ws, .int .i64 m.so, .int .i64 m.sd, .int .i64 m.fr, .int .i64 m.to_] 26)) wr) (fun i _ => l.length - (intOf i).toNat)
  case atStart => exact ⟨0, Nat.zero_le _, rfl, Lib.hid (UpTo.zero _), bref _⟩
  case round =>
    obtain ⟨k, hk, rfl, HU, hbr⟩ := hrel
    have hbw := bstep (balloc (bref w) _) hbr
    have hs := hbr.size
    simp only [World.size_alloc] at hs
    by_cases hlt : k < l.length
    · obtain ⟨a, ha⟩ := some_get hlt
      have ho := HG.out a (List.mem_of_getElem? ha)
      obtain ⟨_, bx, by_, bt, be⟩ := oneAr_bounds ho
      have i0 := ib0 k
      have i1 := ib1 hlt
      obtain ⟨b, off, rfl, hb, q0, q1, q2, q3, q4⟩ := (HR.out.below hbw).ar ha
      obtain ⟨c0, c1, c2, c3, c4⟩ := cellCu (by simp) HB0.out hbr
      have hz0 : w.heap.size < wr.heap.size := by omega
      have HBA := Lib.hid (boxAr wr 71 a)
      have HCW := Lib.hid (fun W (hW : Below wr.heap.size wr W) => cellCu hz0 ⟨c0, c1, c2, c3, c4⟩ hW)
      have HRC := Lib.hid (fun W => l12Reach_any m a.x a.y W HM.out bx by_)
      have l1 := rLo_bd HM.out bx by_
      have l2 := rHi_bd HM.out bx by_
      have s1 := sqw_bd (d := a.tk + a.er - m.fr) (by omega)
      have s2 := sqw_bd (d := a.tk - a.er - m.to_) (by omega)
      have hw1 : IntKind.i64.wrap (a.tk + a.er) = a.tk + a.er := by rw [IntKind.wrap_i64]; omega
      have hw2 : IntKind.i64.wrap (a.tk + a.er - m.fr) = a.tk + a.er - m.fr := by rw [IntKind.wrap_i64]; omega
      have hw3 : IntKind.i64.wrap (a.tk - a.er) = a.tk - a.er := by rw [IntKind.wrap_i64]; omega
      have hw4 : IntKind.i64.wrap (a.tk - a.er - m.to_) = a.tk - a.er - m.to_ := by rw [IntKind.wrap_i64]; omega
      have HF := Lib.hid (show canA m a = (decide (0 ≤ a.tk + a.er - m.fr) && decide (400 * rLo m a.x a.y ≤ (a.tk + a.er - m.fr) * (a.tk + a.er - m.fr)) && (decide (a.tk - a.er - m.to_ ≤ 0) || decide ((a.tk - a.er - m.to_) * (a.tk - a.er - m.to_) ≤ 400 * rHi m a.x a.y))) from rfl)
      have HR2 : Hid (∀ W : World, Calls Tryz.prog 96 #[.agg #[.int .i64 m.ws, .int .i64 m.so, .int .i64 m.sd, .int .i64 m.fr, .int .i64 m.to_], .int .i64 a.x, .int .i64 a.y] W fun e w' => e = .returned (.tuple #[.int .i64 (rLo m a.x a.y), .int .i64 (rHi m a.x a.y)]) ∧ Below W.heap.size W w') := Lib.hid (fun W => HRC.out W)
      clear HRC
      have HNO := Lib.hid (fun h : canA m a = false => all_no (p := canA m) ha h)
      have HYES := Lib.hid (fun h : canA m a = true => HU.out.succ (P := fun i => ∀ a, l[i]? = some a → canA m a = true) (fun a' ha' => by
        rw [ha] at ha'; cases ha'; exact h))
      generalize rLo m a.x a.y = lo at l1 HF HR2
      generalize rHi m a.x a.y = hi at l2 HF HR2
      have G1 : 0 ≤ 400 * lo ∧ 400 * lo ≤ 2000000000 := by omega
      have G2 : 0 ≤ 400 * hi ∧ 400 * hi ≤ 2000000000 := by omega
      clear ha
      go_wp2_with (go_at_call 96; (with_reducible refine (HR2.out _).mono ?_); rintro e w1 ⟨rfl, hb1⟩)
      obtain ⟨c0, c1, c2, c3, c4⟩ := HCW.out w1 (bstep (balloc (bref _) _) hb1)
      obtain ⟨d1, d2, d3, d4⟩ := cellAr4 (by simp) HBA.out hb1
      have hs1 := hb1.size
      simp only [World.size_alloc] at hs1
      have hz1 : wr.heap.size < w1.heap.size := by omega
      have hz2 : w.heap.size < w1.heap.size := by omega
      have hbr1 := bstep (balloc hbr _) hb1
      have hbw1 := bstep (balloc hbw _) hb1
      clear HCW HBA HR2 q0 q1 q2 q3 q4
      (refine wp_region_calm (by kernel_rfl) (by kernel_rfl) ?_; (repeat (go_big_quiet_step ((fail)))); refine wpQuiet_nil ?_; intro xw; have hb2 := xw.is; generalize xw.w = w2 at hb2 ⊢; clear xw)
      have hbr2 := bstep hbr1 hb2
      have hbw2 := bstep hbw1 hb2
      clear c0 c1 c2 c3 c4 d1 d2 d3 d4 hb1 hb2 hs1 hz1 hz2 hbw1 hbr1
      generalize a.tk + a.er - m.fr = P at s1 hw2 HF ⊢
      generalize a.tk - a.er - m.to_ = Q at s2 hw4 HF ⊢
      generalize hPP : P * P = PP at s1 HF ⊢
      generalize hQQ : Q * Q = QQ at s2 HF ⊢
      by_cases h1 : 0 ≤ P
      · by_cases h2 : 400 * lo ≤ PP
        · by_cases h3 : Q ≤ 0
          · have HY := Lib.hid (HYES.out (by rw [HF.out]; simp [h1, h2, h3]))
            go_wp2_with fail
            go_roundw
            case rel => exact ⟨k + 1, by omega, by go_num, HY, hbr2⟩
            case measure => simp [intOf]; omega
          · by_cases h4 : QQ ≤ 400 * hi
            · have HY := Lib.hid (HYES.out (by rw [HF.out]; simp [h1, h2, h4]))
              go_wp2_with fail
              go_roundw
              case rel => exact ⟨k + 1, by omega, by go_num, HY, hbr2⟩
              case measure => simp [intOf]; omega
            · have HN := Lib.hid (HNO.out (by rw [HF.out]; simp [h3, h4] <;> (intros; omega)))
              go_wp2_with fail
              go_ret
              exact ⟨ret_bool HN.out.symm, hbw2⟩
        · have HN := Lib.hid (HNO.out (by rw [HF.out]; simp [h2] <;> (intros; omega)))
          go_wp2_with fail
          go_ret
          exact ⟨ret_bool HN.out.symm, hbw2⟩
      · have HN := Lib.hid (HNO.out (by rw [HF.out]; simp [h1] <;> (intros; omega)))
        go_wp2_with fail
        go_ret
        exact ⟨ret_bool HN.out.symm, hbw2⟩
    · obtain rfl : k = l.length := by omega
      have HF := Lib.hid (all_yes HU.out)
      go_wp2_with fail
      go_ret
      exact ⟨ret_bool HF.out.symm, hbw⟩

def locB (l : List Ar) : Bool := goodAr l && decide (0 < l.length)
set_option maxHeartbeats 1000000 in
theorem iLoc_any (l : List Ar) (A : Option Addr) (c : Nat) (w : World) (hr : RowAt 5 encAr w A l) (hlen : l.length ≤ 2097152) :
    Calls Tryz.prog 27 #[.slice A l.length c] w fun e w' => e = .returned (.bool (locB l)) ∧ Below w.heap.size w w' := by
  have HR := Lib.hid hr
  clear hr
  cases hg : goodAr l
  all_goals
    go_enter Tryz.func27, Tryz.ntmps27
    go_wp2_with (go_at_call 51; (with_reducible refine (iAreAr_any l _ _ _ HR.out hlen).mono ?_); rw [hg]; rintro e w1 ⟨rfl, hb1⟩)
    go_ret
    exact ⟨ret_bool (by simp [locB, hg] <;> omega), hb1⟩
set_option maxHeartbeats 1000000 in
theorem sLoc_any (l : List Ar) (A : Option Addr) (c : Nat) (w : World) (hr : RowAt 5 encAr w A l) (hlen : l.length ≤ 2097152) :
    Calls Tryz.prog 47 #[.slice A l.length c] w fun e w' => e = .returned (.bool (locB l)) ∧ Below w.heap.size w w' := by
  have HR := Lib.hid hr
  clear hr
  cases hg : goodAr l
  all_goals
    go_enter Tryz.func47, Tryz.ntmps47
    go_wp2_with (go_at_call 79; (with_reducible refine (sgoodAr_any l _ _ _ HR.out hlen).mono ?_); rw [hg]; rintro e w1 ⟨rfl, hb1⟩)
    go_ret
    exact ⟨ret_bool (by simp [locB, hg] <;> omega), hb1⟩
theorem goodAr_all {l : List Ar} (h : goodAr l = true) : ∀ a ∈ l, oneArM a = true := fun a ha => by
  obtain ⟨i, hi⟩ := List.getElem?_of_mem ha
  exact goodAr_one h hi
def possR (l : List Ar) (m : Cu) : Bool × Bool := if locB l && cubeB m then (l.all (canA m), true) else (false, false)
set_option maxRecDepth 100000 in
set_option maxHeartbeats 2000000 in
theorem iPoss_any (l : List Ar) (m : Cu) (A : Option Addr) (c : Nat) (w : World) (hr : RowAt 5 encAr w A l) (hlen : l.length ≤ 2097152) :
    Calls Tryz.prog 13 #[.slice A l.length c, .agg #[.int .i64 m.ws, .int .i64 m.so, .int .i64 m.sd, .int .i64 m.fr, .int .i64 m.to_]] w fun e w' => e = .returned (.tuple #[.bool (possR l m).1, .bool (possR l m).2]) ∧ Below w.heap.size w w' := by
  have HR := Lib.hid hr
  have HB0 := Lib.hid (boxCu w 26 m)
  clear hr
  cases h1 : locB l
  · have HF := Lib.hid (show possR l m = (false, false) by simp [possR, h1])
    go_enter Tryz.func13, Tryz.ntmps13
    go_wp2_with (go_at_call 27; (with_reducible refine (iLoc_any l _ _ _ (HR.out.below (balloc (bref _) _)) hlen).mono ?_); rw [h1]; rintro e w1 ⟨rfl, hb1⟩)
    go_ret2
    exact ⟨ret_bb HF.out, bstep (balloc (bref _) _) hb1⟩
  · cases h2 : cubeB m
    · have HF := Lib.hid (show possR l m = (false, false) by simp [possR, h2])
      go_enter Tryz.func13, Tryz.ntmps13
      go_wp2_with (first | (go_at_call 27; (with_reducible refine (iLoc_any l _ _ _ (HR.out.below (balloc (bref _) _)) hlen).mono ?_); rw [h1]; rintro e w1 ⟨rfl, hb1⟩; obtain ⟨c0, c1, c2, c3, c4⟩ := cellCu (by simp) HB0.out hb1) | (go_at_call 9; (with_reducible refine (isCube_any m _).mono ?_); rw [h2]; rintro e w2 ⟨rfl, hb2⟩))
      go_ret2
      exact ⟨ret_bb HF.out, bstep (bstep (balloc (bref _) _) hb1) hb2⟩
    · have HF := Lib.hid (show possR l m = (l.all (canA m), true) by simp [possR, h1, h2])
      have HG := Lib.hid (goodAr_all (l := l) (by unfold locB at h1; rw [Bool.and_eq_true] at h1; exact h1.1))
      go_enter Tryz.func13, Tryz.ntmps13
      go_wp2_with (first | (go_at_call 27; (with_reducible refine (iLoc_any l _ _ _ (HR.out.below (balloc (bref _) _)) hlen).mono ?_); rw [h1]; rintro e w1 ⟨rfl, hb1⟩; obtain ⟨c0, c1, c2, c3, c4⟩ := cellCu (by simp) HB0.out hb1) | (go_at_call 9; (with_reducible refine (isCube_any m _).mono ?_); rw [h2]; rintro e w2 ⟨rfl, hb2⟩; obtain ⟨c0, c1, c2, c3, c4⟩ := cellCu (by simp) HB0.out (bstep hb1 hb2)) | (go_at_call 40; (with_reducible refine (possible_any m l _ _ _ h2 (HR.out.below (bstep (bstep (balloc (bref _) _) hb1) hb2)) hlen HG.out).mono ?_); rintro e w3 ⟨rfl, hb3⟩))
      go_ret2
      exact ⟨ret_bb HF.out, bstep (bstep (bstep (balloc (bref _) _) hb1) hb2) hb3⟩
end Go.Proofs.YtaobbkiepggafaaGreat
