/-
  An argument that is a slice of pairs of ints, opened to a list of plain data; the laws' copy of it.
-/
import Derived.Test.YtlinjkfbcekepaaP20
import Derived.Test.YtlinjkfbcekepaaKit
import Derived.OpenShut
namespace Go.Proofs.Ytlinjkfbcekepaa
open Go.RowKit Go.WideShapes Go.ChangeShapes Go.ChangeAt

set_option maxRecDepth 100000 in
theorem rowP2 {H : Type} {enc : TypeId × Value → H} {W : World} {base : Nat} {v : Value} {d : DataW H} {p : List MemPlace} (hok : Value.okWide Try.prog W .any base 34 v)
    (h : DataW.Trod enc Try.prog W 0 (fun _ => true) true 34 v d p) : ∃ (l : List P2) (A : Option Addr) (c : Nat), v = .slice A l.length c ∧ RowAt 2 encP2 W A l ∧ l.length ≤ 9223372036854775807 := by
  obtain ⟨a0, len, cap, rfl⟩ := okWide_slice Try.underlying34 hok
  obtain ⟨fuel, hf⟩ := h
  have hC : Try.prog.cellsOf 66 = 2 := by kernel_rfl
  have hI : Try.prog.cellsOf 3 = 1 := by kernel_rfl
  rcases Go.Deep.open_slice Try.underlying34 hf with ⟨hcs, hx⟩ | ⟨a, len', cap', m, n, D, Pl, hcs, _, hl, hm, hmm, hx, hi⟩
  · simp [Value.cells] at hcs
    obtain ⟨rfl, rfl, rfl⟩ := hcs
    exact ⟨[], none, 0, rfl, RowAt.nil_, by simp⟩
  · simp [Value.cells] at hcs
    obtain ⟨rfl, rfl, rfl⟩ := hcs
    rw [if_pos rfl] at hmm
    obtain ⟨l, rfl, hr⟩ := row_of (K := 2) (enc := encP2) (w := W) (a := a) (len := len) (by omega) encP2_len (fun i hlt => by
      obtain ⟨cs', hc, ht⟩ := hi i (by omega)
      rw [hC] at hc
      obtain ⟨xs, m', _, _, hlen, hxl, hel⟩ := DataW.trod_array Try.underlying66 ht
      rw [hI] at hel
      rw [hC] at hlen
      obtain ⟨_, hcl, hat⟩ := World.cells?_some hc
      match cs', hlen, xs, hxl with
      | [c0, c1], _, [y0, y1], _ =>
        have t0 : DataW.trod enc Try.prog W 0 (fun _ => true) true m' 3 [c0] = some y0 := by simpa using hel 0 (by omega)
        have t1 : DataW.trod enc Try.prog W 0 (fun _ => true) true m' 3 [c1] = some y1 := by simpa using hel 1 (by omega)
        obtain ⟨x0, e0, _, _⟩ := DataW.trod_int Try.underlying3 t0
        obtain ⟨x1, e1, _, _⟩ := DataW.trod_int Try.underlying3 t1
        simp only [List.cons.injEq, and_true] at e0 e1
        have k0 := hat 0 (by omega)
        have k1 := hat 1 (by omega)
        rw [Go.Deep.add_add] at k0 k1
        refine ⟨⟨x0, x1⟩, fun j u hj => ?_⟩
        match j, hj with
        | 0, hj => simp [encP2] at hj; subst hj; rw [k0, e0]; rfl
        | 1, hj => simp [encP2] at hj; subst hj; rw [k1, e1]; rfl
        | j + 2, hj => simp [encP2] at hj)
    exact ⟨l, some a, cap, rfl, hr, by unfold maxLen at hm; omega⟩

def toC (x y : Int) : Nat → Array Value
  | 0 => #[.int .i64 0, .int .i64 0]
  | 1 => #[.int .i64 x, .int .i64 0]
  | _ => #[.int .i64 x, .int .i64 y]
def toW (w : World) (x y : Int) (j : Nat) : World := ((w.alloc (.cells #[.int .i64 x, .int .i64 y] 66)).alloc (.cells #[.int .i64 0, .int .i64 0] 66)).alloc (.cells (toC x y j) 66)
set_option maxHeartbeats 2000000 in
theorem toP2_any (x y : Int) (w : World) :
    Calls Try.prog 81 #[.agg #[.int .i64 x, .int .i64 y]] w fun e w' => e = .returned (.agg #[.int .i64 x, .int .i64 y]) ∧ Below w.heap.size w w' := by
  go_enter Try.func81, Try.ntmps81
  go_wp2_with fail
  go_loopw [4] (fun i wr => ∃ j : Nat, j ≤ 2 ∧ i = .int .i64 j ∧ wr = toW w x y j) (fun i _ => 2 - (intOf i).toNat)
  case atStart => exact ⟨0, by decide, rfl, rfl⟩
  case round =>
    obtain ⟨j, hj, rfl, rfl⟩ := hrel
    rcases (by omega : j = 0 ∨ j = 1 ∨ j = 2) with rfl | rfl | rfl
    · simp only [toW, toC]
      go_wp2
      go_roundw
      case rel => exact ⟨1, by decide, rfl, rfl⟩
      case measure => simp [intOf]
    · simp only [toW, toC]
      go_wp2
      go_roundw
      case rel => exact ⟨2, by decide, rfl, rfl⟩
      case measure => simp [intOf]
    · simp only [toW, toC]
      go_wp2
      exact bodyPost_ret (v := .agg #[.int .i64 x, .int .i64 y]) (by simp [results, Try.results81, go_sem]) rfl ⟨rfl, by repeat (first | exact bref _ | (refine balloc ?_ _) | (refine bset ?_ (by simp <;> omega) _))⟩

set_option maxHeartbeats 1000000 in
theorem toP2S_any (l : List P2) (A : Option Addr) (c : Nat) (w : World) (hr : RowAt 2 encP2 w A l) (hlen : l.length ≤ 1048576) :
    Calls Try.prog 37 #[.slice A l.length c] w (MkS 66 2 l.length (l.flatMap encP2) w) := by
  obtain ⟨i0, hi0, hz0, hz1, hz2⟩ := info_parts infoP2
  have hmk := fun W => run_make_rowN (P := Try.prog) 34 66 i0 _ Try.underlying34 hi0 hz0 .i64 .i64 l.length l.length (Nat.le_refl _) (by rw [hz2]; omega) (by omega) W
  rw [hz1] at hmk
  have hz := size_madeCells (Value.agg #[.int .i64 0, .int .i64 0]).cells (l.length * 2)
  generalize hcur : madeCells (Value.agg #[.int .i64 0, .int .i64 0]).cells (l.length * 2) = cur at hmk hz
  clear hcur hi0 hz0 hz1 hz2 i0
  have HZ := Lib.hid hz
  clear hz
  go_enter Try.func37, Try.ntmps37
  go_wp2_with fail
  clear hmk
  go_loopw [4] (fun i wr => ∃ k : Nat, k ≤ l.length ∧ i = .int .i64 k ∧ Below w.heap.size w wr ∧ wr.ownsRow w.heap.size 66 2 (.slice (some ⟨w.heap.size, 0, none⟩) l.length l.length) l.length (fillS encP2 2 l cur.toList k)) (fun i _ => l.length - (intOf i).toNat)
  case atStart => exact ⟨0, Nat.zero_le _, rfl, balloc (bref _) _, own_made (by rw [HZ.out]) (by unfold maxLen; omega)⟩
  case round =>
    obtain ⟨k, hk, rfl, hbr, hown⟩ := hrel
    by_cases hlt : k < l.length
    · obtain ⟨m, hm⟩ := some_get hlt
      obtain ⟨b, off, rfl, hb, q0, q1⟩ := (hr.below hbr).p2 hm
      have i0 := ib0 k
      have i1 := ib1 hlt
      have hgw : w.heap.size < wr.heap.size := (hown.lt _ rfl).2
      obtain ⟨o0, r0⟩ := own_cell hown (j := k * 2) (by omega)
      obtain ⟨o1, r1⟩ := own_cell hown (j := k * 2 + 1) (by omega)
      have z0 := hown.frozenAt (k * 2)
      have z1 := hown.frozenAt (k * 2 + 1)
      have HM := Lib.hid hm
      have HO := Lib.hid hown
      clear hr hm hown
      go_wp2_with (go_at_call 81; (with_reducible refine (toP2_any _ _ _).mono ?_); rintro e w1 ⟨rfl, hb1⟩; obtain ⟨hc_hb1, hf_hb1, hz_hb1⟩ := bcell (B := wr.heap.size) (by first | omega | (simp; done) | (simp; omega)) hb1)
      go_roundw
      case rel => exact ⟨k + 1, by omega, by go_num, (by repeat (first | (refine bset ?_ (by simp) _) | (refine bstep hbr hb1))), fillS_step HM.out (by rw [Array.length_toList, HZ.out]) hlt (encP2_len) (own_below HO.out hb1)⟩
      case measure => simp [intOf]; omega
    · obtain rfl : k = l.length := by omega
      have HO := Lib.hid hown
      clear hr hown
      go_wp2
      go_ret
      exact ⟨_, _, rfl, fillS_end (by rw [Array.length_toList, HZ.out]) HO.out, hbr⟩
end Go.Proofs.Ytlinjkfbcekepaa
