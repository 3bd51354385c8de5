/-
  The harness laws' own comparison of lists of arrivals: where it says 'equal', the lists are equal.
-/
import Derived.Test.YtaobbkiepggafaaGreatAr0
import Derived.Test.YtaobbkiepggafaaGreatKit
import Derived.Laws.StructEq
namespace Go.Proofs.YtaobbkiepggafaaGreat
set_option linter.unusedVariables false
set_option linter.unusedSimpArgs false
set_option linter.unnecessarySimpa false
open Go.RowKit

def eqA (a b : Ar) : Bool := a.id == b.id && (a.x == b.x && (a.y == b.y && (a.tk == b.tk && a.er == b.er)))
theorem eqA_iff {a b : Ar} : eqA a b = true ↔ a = b := by
  constructor
  · intro h
    simp [eqA] at h
    cases a; cases b; simp_all
  · rintro rfl; simp [eqA]
set_option maxHeartbeats 1000000 in
theorem eqA_in (a b : Ar) (w : World) : (Op.equalIn 10000 71 (.agg #[.int .i64 a.id, .int .i64 a.x, .int .i64 a.y, .int .i64 a.tk, .int .i64 a.er]) (.agg #[.int .i64 b.id, .int .i64 b.x, .int .i64 b.y, .int .i64 b.tk, .int .i64 b.er])).run Tryz.prog w = .ok (eqA a b) w := by
  rw [show (10000 : Nat) = 9999 + 1 from rfl, run_equalIn_struct w 9999 71 _ _ (by kernel_rfl) (by kernel_rfl)]
  have u3 := Tryz.underlying3
  have a3 := Tryz.isAgg3
  have z3 := Tryz.sizeOf3
  simp only [Program.fieldsOf, Tryz.underlying71]
  go_simp
  by_cases h1 : a.id = b.id <;> by_cases h2 : a.x = b.x <;> by_cases h3 : a.y = b.y <;> by_cases h4 : a.tk = b.tk <;> by_cases h5 : a.er = b.er <;> simp [eqA, h1, h2, h3, h4, h5]
/-- Five integers in one value: the law below is asked ahead of the library's own on '!=' at structs, because it asks less of the values' form. -/
def isA (x : Value) : Bool := match x with
  | .agg xs => match xs.toList with
    | [.int .i64 _, .int .i64 _, .int .i64 _, .int .i64 _, .int .i64 _] => true
    | _ => false
  | _ => false
def arOf (x : Value) : Ar := match x with
  | .agg xs => match xs.toList with
    | [.int .i64 a, .int .i64 b, .int .i64 c, .int .i64 d, .int .i64 e] => ⟨a, b, c, d, e⟩
    | _ => ⟨0, 0, 0, 0, 0⟩
  | _ => ⟨0, 0, 0, 0, 0⟩
theorem isA_mk (a b c d e : Int) : isA (.agg #[.int .i64 a, .int .i64 b, .int .i64 c, .int .i64 d, .int .i64 e]) = true := by simp [isA]
theorem eqA_mk (a b : Ar) : eqA (arOf (.agg #[.int .i64 a.id, .int .i64 a.x, .int .i64 a.y, .int .i64 a.tk, .int .i64 a.er])) (arOf (.agg #[.int .i64 b.id, .int .i64 b.x, .int .i64 b.y, .int .i64 b.tk, .int .i64 b.er])) = eqA a b := by simp [arOf]
theorem isA_of {x : Value} (h : isA x = true) : ∃ a : Ar, x = .agg #[.int .i64 a.id, .int .i64 a.x, .int .i64 a.y, .int .i64 a.tk, .int .i64 a.er] := by
  unfold isA at h
  split at h
  · split at h
    · rename_i xs _ a b c d e hx
      refine ⟨⟨a, b, c, d, e⟩, ?_⟩
      congr 1
      exact Array.toList_inj.1 hx
    · simp at h
  · simp at h
theorem eqA_guard (x y : Operand) (xs ys : Array Value) (w : World) : (eqGuard .neq 71 x y (.agg xs) (.agg ys)).run Tryz.prog w = .ok () w := run_eqGuard_agg w .neq 71 x y xs ys (by kernel_rfl)
theorem eqA_run {P : Program} (t : TypeId) (x y : Value) (w : World) (hp : P = Tryz.prog) (ht : t = 71) (hx : isA x = true) (hy : isA y = true) : (binOp .neq t x y).run P w = .ok (.bool (!eqA (arOf x) (arOf y))) w := by
  subst hp ht
  obtain ⟨a, rfl⟩ := isA_of hx
  obtain ⟨b, rfl⟩ := isA_of hy
  rw [run_neq_struct, eqA_in, eqA_mk]; rfl
attribute [local go_sem] ext_cell ext_frozen eqA_run eqA_guard isA_mk eqA_mk

set_option maxRecDepth 100000 in
set_option maxHeartbeats 2000000 in
theorem vArr_any (l l' : List Ar) (A A' : Option Addr) (c c' : Nat) (w : World) (hr : RowAt 5 encAr w A l) (hr' : RowAt 5 encAr w A' l') (hlen : l.length ≤ 2097152) (hlen' : l'.length ≤ 2097152) :
    Calls Tryz.prog 16 #[.slice A l.length c, .slice A' l'.length c'] w fun e w' => ∃ b : Bool, e = .returned (.bool b) ∧ (b = true → l = l') ∧ Below w.heap.size w w' := by
  have HR := Lib.hid hr
  have HR' := Lib.hid hr'
  clear hr hr'
  by_cases hll : l.length = l'.length
  case neg =>
    have hll' : ¬ (l.length : Int) = (l'.length : Int) := by omega
    go_enter Tryz.func16, Tryz.ntmps16
    go_wp2
    go_ret
    exact ⟨false, rfl, by simp, bref _⟩
  have HLL := Lib.hid hll
  have hlen2 := hlen'
  rw [← hll]
  clear hll hlen2
  go_enter Tryz.func16, Tryz.ntmps16
  go_wp2_with fail
  go_loopw [5] (fun i wr => ∃ k : Nat, k ≤ l.length ∧ i = .int .i64 k ∧ Hid (∀ i, i < k → l[i]? = l'[i]?) ∧ Below w.heap.size w wr) (fun i _ => l.length - (intOf i).toNat)
  case atStart => exact ⟨0, Nat.zero_le _, rfl, Lib.hid (fun i h => absurd h (by omega)), bref _⟩
  case round =>
    obtain ⟨k, hk, rfl, HE, hbr⟩ := hrel
    by_cases hlt : k < l.length
    · obtain ⟨m, hm⟩ := some_get hlt
      obtain ⟨m', hm'⟩ := some_get (l := l') (k := k) (by have := HLL.out; omega)
      have i0 := ib0 k
      have i1 := ib1 hlt
      obtain ⟨b, off, rfl, hb, q0, q1, q2, q3, q4⟩ := (HR.out.below hbr).ar hm
      obtain ⟨b', off', rfl, hb', r0, r1, r2, r3, r4⟩ := (HR'.out.below hbr).ar hm'
      cases h2 : eqA m m'
      · clear hm hm'
        go_wp2_with fail
        (refine wp_region_calm (by kernel_rfl) (by kernel_rfl) ?_; (repeat (go_big_quiet_step ((fail)))); refine wpQuiet_nil ?_; intro xw; have hb1 := xw.is; generalize xw.w = w1 at hb1 ⊢; clear xw)
        go_wp2
        go_ret
        exact ⟨false, rfl, by simp, bstep hbr hb1⟩
      · have HE2 := Lib.hid (show ∀ i, i < k + 1 → l[i]? = l'[i]? from fun i hi => by
          by_cases e : i = k
          · rw [e, hm, hm', eqA_iff.1 h2]
          · exact HE.out i (by omega))
        clear hm hm' HE
        go_wp2_with fail
        (refine wp_region_calm (by kernel_rfl) (by kernel_rfl) ?_; (repeat (go_big_quiet_step ((fail)))); refine wpQuiet_nil ?_; intro xw; have hb1 := xw.is; generalize xw.w = w1 at hb1 ⊢; clear xw)
        go_wp2
        go_roundw
        case rel => exact ⟨k + 1, by omega, by go_num, HE2, bstep hbr hb1⟩
        case measure => simp [intOf]; omega
    · obtain rfl : k = l.length := by omega
      have HF := Lib.hid (show l = l' from List.ext_getElem? fun i => by
        by_cases hi : i < l.length
        · exact HE.out i hi
        · rw [List.getElem?_eq_none (by omega), List.getElem?_eq_none (by have := HLL.out; omega)])
      clear HE
      go_wp2
      go_ret
      exact ⟨true, rfl, fun _ => HF.out, hbr⟩
end Go.Proofs.YtaobbkiepggafaaGreat
