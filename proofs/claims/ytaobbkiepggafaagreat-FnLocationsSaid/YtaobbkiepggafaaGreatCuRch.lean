/-
  The reach of a cube: impl and spec compute one thing.
-/
import Derived.Test.YtaobbkiepggafaaGreatCuOne
import Derived.Shelf.Abstract
import Derived.Laws.EntriesVeiled
namespace Go.Proofs.YtaobbkiepggafaaGreat
set_option linter.unusedVariables false
set_option linter.unusedSimpArgs false
set_option linter.unnecessarySimpa false
open Go.RowKit
attribute [local go_sem] ext_cell ext_frozen

def maxI (a b : Int) : Int := if a > b then a else b
def absI (n : Int) : Int := if 0 ≤ n then n else -n
def nearI (p low sd : Int) : Int := maxI 0 (maxI (low - p) (p - (low + sd - 1)))
def farI (p low sd : Int) : Int := maxI (low + sd - 1 - p) (p - low)
def rLo (m : Cu) (x y : Int) : Int := nearI x m.ws m.sd * nearI x m.ws m.sd + nearI y m.so m.sd * nearI y m.so m.sd
def rHi (m : Cu) (x y : Int) : Int := farI x m.ws m.sd * farI x m.ws m.sd + farI y m.so m.sd * farI y m.so m.sd
def rchR (m : Cu) (x y : Int) : Int × Int := (rLo m x y, rHi m x y)
theorem nearI_bd {p low sd : Int} (hp : 0 ≤ p ∧ p ≤ 999) (hl : 0 ≤ low ∧ low ≤ 999) (hs : 1 ≤ sd ∧ sd ≤ 512) : 0 ≤ nearI p low sd ∧ nearI p low sd ≤ 1511 := by
  unfold nearI maxI
  repeat' split
  all_goals omega
theorem farI_bd {p low sd : Int} (hp : 0 ≤ p ∧ p ≤ 999) (hl : 0 ≤ low ∧ low ≤ 999) (hs : 1 ≤ sd ∧ sd ≤ 512) : 0 ≤ farI p low sd ∧ farI p low sd ≤ 1511 := by
  unfold farI maxI
  repeat' split
  all_goals omega
theorem sqn_bd {d : Int} (h : 0 ≤ d ∧ d ≤ 1511) : 0 ≤ d * d ∧ d * d ≤ 2283121 := by
  refine ⟨Int.mul_nonneg h.1 h.1, ?_⟩
  have := Int.mul_le_mul h.2 h.2 h.1 (by omega)
  omega
theorem rLo_bd {m : Cu} {x y : Int} (hm : cubeB m = true) (hx : 0 ≤ x ∧ x ≤ 999) (hy : 0 ≤ y ∧ y ≤ 999) : 0 ≤ rLo m x y ∧ rLo m x y ≤ 4566242 := by
  obtain ⟨h1, h2, h3, _⟩ := cubeB_bounds hm
  have a := sqn_bd (nearI_bd hx h2 h1)
  have b := sqn_bd (nearI_bd hy h3 h1)
  unfold rLo; omega
theorem rHi_bd {m : Cu} {x y : Int} (hm : cubeB m = true) (hx : 0 ≤ x ∧ x ≤ 999) (hy : 0 ≤ y ∧ y ≤ 999) : 0 ≤ rHi m x y ∧ rHi m x y ≤ 4566242 := by
  obtain ⟨h1, h2, h3, _⟩ := cubeB_bounds hm
  have a := sqn_bd (farI_bd hx h2 h1)
  have b := sqn_bd (farI_bd hy h3 h1)
  unfold rHi; omega
theorem ret_ii {F : Int × Int} {a b : Int} (h : F = (a, b)) : Ending.returned (.tuple #[.int .i64 a, .int .i64 b]) = .returned (.tuple #[.int .i64 F.1, .int .i64 F.2]) := by rw [h]

set_option maxHeartbeats 400000 in
theorem abs_any (n : Int) (w : World) (hn : -1000000000 ≤ n ∧ n ≤ 1000000000) :
    Calls Tryz.prog 102 #[.int .i64 n] w fun e w' => e = .returned (.int .i64 (absI n)) ∧ w = w' := by
  by_cases h : 0 ≤ n
  all_goals
    go_enter Tryz.func102, Tryz.ntmps102
    go_wp2
    go_ret
    exact ⟨ret_int (by simp [absI, h] <;> omega), rfl⟩
set_option maxHeartbeats 400000 in
theorem l1Most_any (a b : Int) (w : World) :
    Calls Tryz.prog 26 #[.int .i64 a, .int .i64 b] w fun e w' => e = .returned (.int .i64 (maxI a b)) ∧ w = w' := by
  by_cases h : a > b
  all_goals
    go_enter Tryz.func26, Tryz.ntmps26
    go_wp2
    go_ret
    exact ⟨ret_int (by unfold maxI; split <;> omega), rfl⟩
set_option maxHeartbeats 400000 in
theorem square_any (a b : Int) (w : World) (ha : 0 ≤ a ∧ a ≤ 1511) (hb : 0 ≤ b ∧ b ≤ 1511) :
    Calls Tryz.prog 78 #[.int .i64 a, .int .i64 b] w fun e w' => e = .returned (.int .i64 (a * a + b * b)) ∧ w = w' := by
  have h1 := sqn_bd ha
  have h2 := sqn_bd hb
  go_enter Tryz.func78, Tryz.ntmps78
  go_wp2
  go_ret
  exact ⟨rfl, rfl⟩
set_option maxHeartbeats 1000000 in
theorem near_any (p low : Int) (m : Cu) (b : Nat) (w : World) (hp : 0 ≤ p ∧ p ≤ 999) (hl : 0 ≤ low ∧ low ≤ 999) (hs : 1 ≤ m.sd ∧ m.sd ≤ 512) (hb : b < w.heap.size) (hc : w.cell? ⟨b, 2, none⟩ = some (.int .i64 m.sd)) :
    Calls Tryz.prog 100 #[.int .i64 p, .int .i64 low, .pointer (some ⟨b, 0, none⟩)] w fun e w' => e = .returned (.int .i64 (nearI p low m.sd)) ∧ Below w.heap.size w w' := by
  go_enter Tryz.func100, Tryz.ntmps100
  go_wp2
  all_goals
    go_ret
    exact ⟨ret_int (by unfold nearI maxI; repeat' split; all_goals omega), (by repeat (first | exact bref _ | (refine balloc ?_ _) | (refine bdrew ?_) | (refine bdrewN ?_ _) | (refine bstep ?_ (by assumption))))⟩
set_option maxRecDepth 100000 in
set_option maxHeartbeats 1000000 in
theorem far_any (p low : Int) (m : Cu) (b : Nat) (w : World) (hp : 0 ≤ p ∧ p ≤ 999) (hl : 0 ≤ low ∧ low ≤ 999) (hs : 1 ≤ m.sd ∧ m.sd ≤ 512) (hb : b < w.heap.size) (hc : w.cell? ⟨b, 2, none⟩ = some (.int .i64 m.sd)) :
    Calls Tryz.prog 101 #[.int .i64 p, .int .i64 low, .pointer (some ⟨b, 0, none⟩)] w fun e w' => e = .returned (.int .i64 (farI p low m.sd)) ∧ Below w.heap.size w w' := by
  have hw1 : IntKind.i64.wrap (p - low) = p - low := by rw [IntKind.wrap_i64]; omega
  have hw2 : IntKind.i64.wrap (low + m.sd) = low + m.sd := by rw [IntKind.wrap_i64]; omega
  have hw3 : IntKind.i64.wrap (low + m.sd - 1) = low + m.sd - 1 := by rw [IntKind.wrap_i64]; omega
  have hw4 : IntKind.i64.wrap (p - (low + m.sd - 1)) = p - (low + m.sd - 1) := by rw [IntKind.wrap_i64]; omega
  have h1 := fun W => abs_any (p - low) W (by omega)
  have h2 := fun W => abs_any (p - (low + m.sd - 1)) W (by omega)
  have H1 := Lib.hid h1
  have H2 := Lib.hid h2
  clear h1 h2
  have HF := Lib.hid (show farI p low m.sd = if absI (p - low) < absI (p - (low + m.sd - 1)) then absI (p - (low + m.sd - 1)) else absI (p - low) by unfold farI maxI absI; repeat' split; all_goals omega)
  go_enter Tryz.func101, Tryz.ntmps101
  go_wp2_with fail
  (refine wp_region_calm (by kernel_rfl) (by kernel_rfl) ?_; (repeat (go_big_quiet_step ((first | (go_at_call 102; exact calm_same (H1.out _)) | (go_at_call 102; exact calm_same (H2.out _)))))); refine wpQuiet_nil ?_; intro xw; have hb1 := xw.is; generalize xw.w = w1 at hb1 ⊢; clear xw)
  go_wp2_with fail
  all_goals
    go_ret
    exact ⟨ret_int (by rw [HF.out]; split <;> omega), hb1⟩
set_option maxRecDepth 100000 in
set_option maxHeartbeats 2000000 in
theorem l12Span_any (x low sd : Int) (w : World) (hx : 0 ≤ x ∧ x ≤ 999) (hl : 0 ≤ low ∧ low ≤ 999) (hs : 1 ≤ sd ∧ sd ≤ 512) :
    Calls Tryz.prog 110 #[.int .i64 x, .int .i64 low, .int .i64 sd] w fun e w' => e = .returned (.tuple #[.int .i64 (nearI x low sd), .int .i64 (farI x low sd)]) ∧ w = w' := by
  go_enter Tryz.func110, Tryz.ntmps110
  go_wp2_with (go_at_call 26; (with_reducible refine (l1Most_any _ _ _).mono ?_); rintro e w' ⟨rfl, rfl⟩)
  go_ret2
  exact ⟨rfl, rfl⟩
set_option maxRecDepth 100000 in
set_option maxHeartbeats 2000000 in
theorem l12Reach_any (m : Cu) (x y : Int) (w : World) (hm : cubeB m = true) (hx : 0 ≤ x ∧ x ≤ 999) (hy : 0 ≤ y ∧ y ≤ 999) :
    Calls Tryz.prog 96 #[.agg #[.int .i64 m.ws, .int .i64 m.so, .int .i64 m.sd, .int .i64 m.fr, .int .i64 m.to_], .int .i64 x, .int .i64 y] w fun e w' => e = .returned (.tuple #[.int .i64 (rchR m x y).1, .int .i64 (rchR m x y).2]) ∧ Below w.heap.size w w' := by
  obtain ⟨h1, h2, h3, _⟩ := cubeB_bounds hm
  have a1 := sqn_bd (nearI_bd hx h2 h1)
  have a2 := sqn_bd (nearI_bd hy h3 h1)
  have a3 := sqn_bd (farI_bd hx h2 h1)
  have a4 := sqn_bd (farI_bd hy h3 h1)
  have HF := Lib.hid (show rchR m x y = (nearI x m.ws m.sd * nearI x m.ws m.sd + nearI y m.so m.sd * nearI y m.so m.sd, farI x m.ws m.sd * farI x m.ws m.sd + farI y m.so m.sd * farI y m.so m.sd) from rfl)
  have H1 := Lib.hid (fun W => l12Span_any x m.ws m.sd W hx h2 h1)
  have H2 := Lib.hid (fun W => l12Span_any y m.so m.sd W hy h3 h1)
  generalize nearI x m.ws m.sd = n1 at a1 HF H1
  generalize nearI y m.so m.sd = n2 at a2 HF H2
  generalize farI x m.ws m.sd = f1 at a3 HF H1
  generalize farI y m.so m.sd = f2 at a4 HF H2
  go_enter Tryz.func96, Tryz.ntmps96
  go_wp2_with (first | (go_at_call 110; (with_reducible refine (H1.out _).mono ?_); rintro e w' ⟨rfl, rfl⟩) | (go_at_call 110; (with_reducible refine (H2.out _).mono ?_); rintro e w' ⟨rfl, rfl⟩))
  go_ret2
  exact ⟨ret_ii HF.out, (by repeat (first | exact bref _ | (refine balloc ?_ _) | (refine bdrew ?_) | (refine bdrewN ?_ _) | (refine bstep ?_ (by assumption))))⟩
set_option maxRecDepth 100000 in
set_option maxHeartbeats 2000000 in
theorem reach_any (m : Cu) (x y : Int) (w : World) (hm : cubeB m = true) (hx : 0 ≤ x ∧ x ≤ 999) (hy : 0 ≤ y ∧ y ≤ 999) :
    Calls Tryz.prog 71 #[.agg #[.int .i64 m.ws, .int .i64 m.so, .int .i64 m.sd, .int .i64 m.fr, .int .i64 m.to_], .int .i64 x, .int .i64 y] w fun e w' => e = .returned (.tuple #[.int .i64 (rchR m x y).1, .int .i64 (rchR m x y).2]) ∧ Below w.heap.size w w' := by
  obtain ⟨h1, h2, h3, _⟩ := cubeB_bounds hm
  have b1 := nearI_bd hx h2 h1
  have b2 := nearI_bd hy h3 h1
  have b3 := farI_bd hx h2 h1
  have b4 := farI_bd hy h3 h1
  have HF := Lib.hid (show rchR m x y = (nearI x m.ws m.sd * nearI x m.ws m.sd + nearI y m.so m.sd * nearI y m.so m.sd, farI x m.ws m.sd * farI x m.ws m.sd + farI y m.so m.sd * farI y m.so m.sd) from rfl)
  obtain ⟨w0, hw0⟩ : ∃ w0, w0 = w.alloc (.cells #[.int .i64 m.ws, .int .i64 m.so, .int .i64 m.sd, .int .i64 m.fr, .int .i64 m.to_] 26) := ⟨_, rfl⟩
  have c0 : w0.cell? ⟨w.heap.size, 0, none⟩ = some (.int .i64 m.ws) := by rw [hw0]; simp [go_sem]
  have c1 : w0.cell? ⟨w.heap.size, 1, none⟩ = some (.int .i64 m.so) := by rw [hw0]; simp [go_sem]
  have c2 : w0.cell? ⟨w.heap.size, 2, none⟩ = some (.int .i64 m.sd) := by rw [hw0]; simp [go_sem]
  have hlt : w.heap.size < w0.heap.size := by rw [hw0]; simp
  have hb0 : Below w.heap.size w w0 := by rw [hw0]; exact balloc (bref _) _
  have N1 := Lib.hid (fun (X : Ext w0) => near_any x m.ws m w.heap.size X.w hx h2 h1 (Nat.lt_of_lt_of_le hlt X.is.size) ((X.is.cell (p := ⟨w.heap.size, 2, none⟩) hlt).trans c2))
  have N2 := Lib.hid (fun (X : Ext w0) => near_any y m.so m w.heap.size X.w hy h3 h1 (Nat.lt_of_lt_of_le hlt X.is.size) ((X.is.cell (p := ⟨w.heap.size, 2, none⟩) hlt).trans c2))
  have F1 := Lib.hid (fun (X : Ext w0) => far_any x m.ws m w.heap.size X.w hx h2 h1 (Nat.lt_of_lt_of_le hlt X.is.size) ((X.is.cell (p := ⟨w.heap.size, 2, none⟩) hlt).trans c2))
  have F2 := Lib.hid (fun (X : Ext w0) => far_any y m.so m w.heap.size X.w hy h3 h1 (Nat.lt_of_lt_of_le hlt X.is.size) ((X.is.cell (p := ⟨w.heap.size, 2, none⟩) hlt).trans c2))
  generalize nearI x m.ws m.sd = n1 at b1 HF N1
  generalize nearI y m.so m.sd = n2 at b2 HF N2
  generalize farI x m.ws m.sd = f1 at b3 HF F1
  generalize farI y m.so m.sd = f2 at b4 HF F2
  have eg1 : ∀ (args : Array Value) (w : World), (callFunc 100 args).run Tryz.prog w = .ok (.enter 100 args) w := enters_of Tryz.func100 (by kernel_rfl) rfl
  have eg2 : ∀ (args : Array Value) (w : World), (callFunc 101 args).run Tryz.prog w = .ok (.enter 101 args) w := enters_of Tryz.func101 (by kernel_rfl) rfl
  have hmf : ∀ fn first cap w, (Instr.makeFunc fn first cap).run Tryz.prog w = .ok (.func fn first cap) w := fun _ _ _ _ => rfl
  have hsq1 := fun W => square_any n1 n2 W b1 b2
  have hsq2 := fun W => square_any f1 f2 W b3 b4
  have S1 := Lib.hid hsq1
  have S2 := Lib.hid hsq2
  clear hsq1 hsq2
  go_enter Tryz.func71, Tryz.ntmps71
  go_wp2_with fail
  rw [← hw0]
  clear hw0
  (refine wp_region_calm (by kernel_rfl) (by kernel_rfl) ?_; (repeat (go_big_quiet_step ((first | (go_at_call 100; with_reducible exact calm_of (N1.out _)) | (go_at_call 100; with_reducible exact calm_of (N2.out _)) | (go_at_call 101; with_reducible exact calm_of (F1.out _)) | (go_at_call 101; with_reducible exact calm_of (F2.out _)) | (go_at_call 78; with_reducible exact calm_same (S1.out _)) | (go_at_call 78; with_reducible exact calm_same (S2.out _)))))); refine wpQuiet_nil ?_; intro xw; have hb5 := xw.is; generalize xw.w = w5 at hb5 ⊢; clear xw)
  go_wp2_with fail
  go_ret2
  exact ⟨ret_ii HF.out, bstep hb0 hb5⟩
end Go.Proofs.YtaobbkiepggafaaGreat
