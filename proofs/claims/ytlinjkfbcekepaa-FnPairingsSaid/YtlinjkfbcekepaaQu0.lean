/-
  Quakes as plain data: the struct, its row in memory, and the laws' own helpers over it (size, copy, comparison, marks).
-/
import Derived.Test.YtlinjkfbcekepaaPlain0
import Derived.Test.YtlinjkfbcekepaaRows
namespace Go.Proofs.Ytlinjkfbcekepaa
set_option linter.unusedVariables false
set_option linter.unusedSimpArgs false
set_option linter.unnecessarySimpa false
open Go.RowKit
attribute [local go_sem] ext_cell ext_frozen

structure Qu where
  tk : Int
  x : Int
  y : Int
  sz : Int
def encQu (m : Qu) : List Value := [.int .i64 m.tk, .int .i64 m.x, .int .i64 m.y, .int .i64 m.sz]
theorem encQu_len (m : Qu) : (encQu m).length = 4 := rfl
theorem encQu_one (m : Qu) : ∀ v ∈ encQu m, v.oneCell' = true := by
  intro v hv
  simp [encQu] at hv
  rcases hv with rfl | rfl | rfl | rfl <;> rfl
theorem cellsQu_one (l : List Qu) : ∀ v ∈ l.flatMap encQu, v.oneCell' = true := by
  intro v hv
  obtain ⟨m, _, h⟩ := List.mem_flatMap.1 hv
  exact encQu_one m v h
theorem cellsQu_len (l : List Qu) : (l.flatMap encQu).length = l.length * 4 := by
  induction l with
  | nil => rfl
  | cons m l ih => rw [List.flatMap_cons, List.length_append, ih, encQu_len, List.length_cons]; omega
theorem infoQu : (Try.prog.info? 26).map (fun i => (i.zero, i.size, i.bytes)) = some (some (.agg #[.int .i64 0, .int .i64 0, .int .i64 0, .int .i64 0]), 4, 32) := by kernel_rfl

theorem RowAt.qu {w : World} {k : Nat} {A : Option Addr} {l : List Qu} {m : Qu} (h : RowAt 4 encQu w A l) (hm : l[k]? = some m) :
    ∃ b off, A = some ⟨b, off, none⟩ ∧ b < w.heap.size ∧ w.cell? ⟨b, off + k * 4, none⟩ = some (.int .i64 m.tk) ∧ w.cell? ⟨b, off + k * 4 + 1, none⟩ = some (.int .i64 m.x) ∧ w.cell? ⟨b, off + k * 4 + 2, none⟩ = some (.int .i64 m.y) ∧ w.cell? ⟨b, off + k * 4 + 3, none⟩ = some (.int .i64 m.sz) := by
  obtain ⟨b, off, e, hb, hc⟩ := h.at_ hm
  exact ⟨b, off, e, hb, hc k m hm 0 _ rfl, hc k m hm 1 _ rfl, hc k m hm 2 _ rfl, hc k m hm 3 _ rfl⟩

theorem RowAt.qu2 {w : World} {k j : Nat} {A : Option Addr} {l : List Qu} {m p : Qu} (h : RowAt 4 encQu w A l) (hm : l[k]? = some m) (hp : l[j]? = some p) :
    ∃ b off, A = some ⟨b, off, none⟩ ∧ b < w.heap.size ∧ w.cell? ⟨b, off + k * 4, none⟩ = some (.int .i64 m.tk) ∧ w.cell? ⟨b, off + k * 4 + 1, none⟩ = some (.int .i64 m.x) ∧ w.cell? ⟨b, off + k * 4 + 2, none⟩ = some (.int .i64 m.y) ∧ w.cell? ⟨b, off + k * 4 + 3, none⟩ = some (.int .i64 m.sz) ∧ w.cell? ⟨b, off + j * 4, none⟩ = some (.int .i64 p.tk) ∧ w.cell? ⟨b, off + j * 4 + 1, none⟩ = some (.int .i64 p.x) ∧ w.cell? ⟨b, off + j * 4 + 2, none⟩ = some (.int .i64 p.y) ∧ w.cell? ⟨b, off + j * 4 + 3, none⟩ = some (.int .i64 p.sz) := by
  obtain ⟨b, off, e, hb, hc⟩ := h.at_ hm
  exact ⟨b, off, e, hb, hc k m hm 0 _ rfl, hc k m hm 1 _ rfl, hc k m hm 2 _ rfl, hc k m hm 3 _ rfl, hc j p hp 0 _ rfl, hc j p hp 1 _ rfl, hc j p hp 2 _ rfl, hc j p hp 3 _ rfl⟩

set_option maxHeartbeats 400000 in
theorem szQu_fit (A : Option Addr) (n c : Nat) (w : World) (h : n ≤ 1048576) :
    Calls Try.prog 33 #[.slice A n c, .int .i64 1048576] w fun e w' => e = .returned (.int .i64 (1048576 - n)) ∧ w = w' := by
  go_enter Try.func33, Try.ntmps33
  go_wp2
  go_ret
  exact ⟨rfl, rfl⟩
set_option maxHeartbeats 400000 in
theorem szQu_big (A : Option Addr) (n c : Nat) (w : World) (h : 1048576 < n) (hn : n ≤ 9223372036854775807) :
    Calls Try.prog 33 #[.slice A n c, .int .i64 1048576] w fun e w' => e = .returned (.int .i64 (-1)) ∧ w = w' := by
  go_enter Try.func33, Try.ntmps33
  go_wp2
  go_ret
  exact ⟨rfl, rfl⟩

set_option maxHeartbeats 400000 in
theorem toQu_any (f0 : Int) (f1 : Int) (f2 : Int) (f3 : Int) (w : World) :
    Calls Try.prog 15 #[.agg #[.int .i64 f0, .int .i64 f1, .int .i64 f2, .int .i64 f3]] w fun e w' => e = .returned (.agg #[.int .i64 f0, .int .i64 f1, .int .i64 f2, .int .i64 f3]) ∧ Below w.heap.size w w' := by
  go_enter Try.func15, Try.ntmps15
  go_wp2
  exact bodyPost_ret (v := .agg #[.int .i64 f0, .int .i64 f1, .int .i64 f2, .int .i64 f3]) (by simp [results, Try.results15, go_sem]) rfl ⟨rfl, (by repeat (first | exact bref _ | (refine balloc ?_ _) | (refine bdrew ?_) | (refine bdrewN ?_ _) | (refine bstep ?_ (by assumption))))⟩

set_option maxHeartbeats 1000000 in
theorem toQuS_any (l : List Qu) (A : Option Addr) (c : Nat) (w : World) (hr : RowAt 4 encQu w A l) (hlen : l.length ≤ 1048576) :
    Calls Try.prog 34 #[.slice A l.length c] w (MkS 26 4 l.length (l.flatMap encQu) w) := by
  obtain ⟨i0, hi0, hz0, hz1, hz2⟩ := info_parts infoQu
  have hmk := fun W => run_make_rowN (P := Try.prog) 31 26 i0 _ Try.underlying31 hi0 hz0 .i64 .i64 l.length l.length (Nat.le_refl _) (by rw [hz2]; omega) (by omega) W
  rw [hz1] at hmk
  have hz := size_madeCells (Value.agg #[.int .i64 0, .int .i64 0, .int .i64 0, .int .i64 0]).cells (l.length * 4)
  generalize hcur : madeCells (Value.agg #[.int .i64 0, .int .i64 0, .int .i64 0, .int .i64 0]).cells (l.length * 4) = cur at hmk hz
  clear hcur hi0 hz0 hz1 hz2 i0
  have HZ := Lib.hid hz
  clear hz
  go_enter Try.func34, Try.ntmps34
  go_wp2_with fail
  clear hmk
  go_loopw [4] (fun i wr => ∃ k : Nat, k ≤ l.length ∧ i = .int .i64 k ∧ Below w.heap.size w wr ∧ wr.ownsRow w.heap.size 26 4 (.slice (some ⟨w.heap.size, 0, none⟩) l.length l.length) l.length (fillS encQu 4 l cur.toList k)) (fun i _ => l.length - (intOf i).toNat)
  case atStart => exact ⟨0, Nat.zero_le _, rfl, balloc (bref _) _, own_made (by rw [HZ.out]) (by unfold maxLen; omega)⟩
  case round =>
    obtain ⟨k, hk, rfl, hbr, hown⟩ := hrel
    by_cases hlt : k < l.length
    · obtain ⟨m, hm⟩ := some_get hlt
      obtain ⟨b, off, rfl, hb, q0, q1, q2, q3⟩ := (hr.below hbr).qu hm
      have i0 := ib0 k
      have i1 := ib1 hlt
      have hgw : w.heap.size < wr.heap.size := (hown.lt _ rfl).2
      obtain ⟨o0, r0⟩ := own_cell hown (j := k * 4) (by omega)
      obtain ⟨o1, r1⟩ := own_cell hown (j := k * 4 + 1) (by omega)
      obtain ⟨o2, r2⟩ := own_cell hown (j := k * 4 + 2) (by omega)
      obtain ⟨o3, r3⟩ := own_cell hown (j := k * 4 + 3) (by omega)
      have z0 := hown.frozenAt (k * 4)
      have z1 := hown.frozenAt (k * 4 + 1)
      have z2 := hown.frozenAt (k * 4 + 2)
      have z3 := hown.frozenAt (k * 4 + 3)
      have HM := Lib.hid hm
      have HO := Lib.hid hown
      clear hr hm hown
      go_wp2_with (go_at_call 15; (with_reducible refine (toQu_any _ _ _ _ _).mono ?_); rintro e w1 ⟨rfl, hb1⟩; obtain ⟨hc_hb1, hf_hb1, hz_hb1⟩ := bcell (B := wr.heap.size) (by first | omega | (simp; done) | (simp; omega)) hb1)
      go_roundw
      case rel => exact ⟨k + 1, by omega, by go_num, (by repeat (first | (refine bset ?_ (by simp) _) | (refine bstep hbr hb1))), fillS_step HM.out (by rw [Array.length_toList, HZ.out]) hlt (encQu_len) (own_below HO.out hb1)⟩
      case measure => simp [intOf]; omega
    · obtain rfl : k = l.length := by omega
      have HO := Lib.hid hown
      clear hr hown
      go_wp2
      go_ret
      exact ⟨_, _, rfl, fillS_end (by rw [Array.length_toList, HZ.out]) HO.out, hbr⟩

set_option maxHeartbeats 1000000 in
theorem eqQu_same (f0 : Int) (f1 : Int) (f2 : Int) (f3 : Int) (w : World) :
    Calls Try.prog 80 #[.agg #[.int .i64 f0, .int .i64 f1, .int .i64 f2, .int .i64 f3], .agg #[.int .i64 f0, .int .i64 f1, .int .i64 f2, .int .i64 f3]] w fun e w' => e = .returned (.bool true) ∧ Below w.heap.size w w' := by
  go_enter Try.func80, Try.ntmps80
  go_wp2
  go_ret
  exact ⟨rfl, (by repeat (first | exact bref _ | (refine balloc ?_ _) | (refine bdrew ?_) | (refine bdrewN ?_ _) | (refine bstep ?_ (by assumption))))⟩

set_option maxHeartbeats 1000000 in
theorem eqQuS_same (l : List Qu) (A A' : Option Addr) (c c' : Nat) (w : World) (hr : RowAt 4 encQu w A l) (hr' : RowAt 4 encQu w A' l) (hlen : l.length ≤ 2097152) :
    Calls Try.prog 35 #[.slice A l.length c, .slice A' l.length c'] w fun e w' => e = .returned (.bool true) ∧ Below w.heap.size w w' := by
  go_enter Try.func35, Try.ntmps35
  go_wp2_with fail
  go_loopw [5] (fun i wr => ∃ k : Nat, k ≤ l.length ∧ i = .int .i64 k ∧ Below w.heap.size w wr) (fun i _ => l.length - (intOf i).toNat)
  case atStart => exact ⟨0, Nat.zero_le _, rfl, bref _⟩
  case round =>
    obtain ⟨k, hk, rfl, hbr⟩ := hrel
    by_cases hlt : k < l.length
    · obtain ⟨m, hm⟩ := some_get hlt
      have i0 := ib0 k
      have i1 := ib1 hlt
      obtain ⟨b, off, rfl, hb, q0, q1, q2, q3⟩ := (hr.below hbr).qu hm
      obtain ⟨b', off', rfl, hb', r0, r1, r2, r3⟩ := (hr'.below hbr).qu hm
      clear hr hr' hm
      go_wp2_with fail
      (refine wp_region_calm (by kernel_rfl) (by kernel_rfl) ?_; (repeat (go_big_quiet_step (((go_at_call 80; exact calm_of (eqQu_same _ _ _ _ _)))))); refine wpQuiet_nil ?_; intro xw; have hb1 := xw.is; generalize xw.w = w1 at hb1 ⊢; clear xw)
      go_wp2
      go_roundw
      case rel => exact ⟨k + 1, by omega, by go_num, bstep hbr hb1⟩
      case measure => simp [intOf]; omega
    · obtain rfl : k = l.length := by omega
      clear hr hr'
      go_wp2
      go_ret
      exact ⟨rfl, hbr⟩

def markQu (k : Int) : Qu := ⟨k, k + 1, k + 1 + 1, k + 1 + 1 + 1⟩
def marksQu (k : Int) (n : Nat) : List Qu := (List.range n).map fun (i : Nat) => markQu (k + 4 * (i : Int))
theorem marksQu_len (k : Int) (n : Nat) : (marksQu k n).length = n := by simp [marksQu]
theorem marksQu_get {k : Int} {n i : Nat} (h : i < n) : (marksQu k n)[i]? = some (markQu (k + 4 * (i : Int))) := by simp [marksQu, h]

set_option maxHeartbeats 1000000 in
theorem markQuS_some (k0 : Int) (g n c base : Nat) (xs : List Value) (w : World) (hown : w.ownsRow base 26 4 (.slice (some ⟨g, 0, none⟩) n c) n xs) (hk0 : 0 ≤ k0) (hk1 : k0 ≤ 100000000) (hn : n ≤ 2097152) :
    Calls Try.prog 42 #[.slice (some ⟨g, 0, none⟩) n c, .int .i64 k0] w fun e w' => e = .returned (.int .i64 (k0 + 4 * (n : Int))) ∧
      w'.ownsRow base 26 4 (.slice (some ⟨g, 0, none⟩) n c) n ((marksQu k0 n).flatMap encQu) ∧ w.grownBy w' (some g) := by
  have HX := Lib.hid hown.1
  go_enter Try.func42, Try.ntmps42
  go_wp2_with fail
  go_loopw [1, 5] (fun kv i wr => ∃ k : Nat, k ≤ n ∧ i = .int .i64 k ∧ kv = .int .i64 (k0 + 4 * (k : Int)) ∧ w.grownBy wr (some g) ∧ wr.ownsRow base 26 4 (.slice (some ⟨g, 0, none⟩) n c) n (fillS encQu 4 (marksQu k0 n) xs k)) (fun _ i _ => n - (intOf i).toNat)
  case atStart => exact ⟨0, Nat.zero_le _, rfl, by go_num, World.grownBy.refl w _, by simpa [fillS] using hown⟩
  case round =>
    clear hown
    obtain ⟨k, hk, rfl, rfl, hgr, hown⟩ := hrel
    by_cases hlt : k < n
    · have i0 := ib0 k
      have i1 := ib1 hlt
      obtain ⟨o0, r0⟩ := own_cell hown (j := k * 4) (by omega)
      obtain ⟨o1, r1⟩ := own_cell hown (j := k * 4 + 1) (by omega)
      obtain ⟨o2, r2⟩ := own_cell hown (j := k * 4 + 2) (by omega)
      obtain ⟨o3, r3⟩ := own_cell hown (j := k * 4 + 3) (by omega)
      have z0 := hown.frozenAt (k * 4)
      have z1 := hown.frozenAt (k * 4 + 1)
      have z2 := hown.frozenAt (k * 4 + 2)
      have z3 := hown.frozenAt (k * 4 + 3)
      have HO := Lib.hid hown
      clear hown
      go_wp2
      go_roundw
      case rel =>
        refine ⟨k + 1, by omega, by go_num, by go_num, ?_, ?_⟩
        · exact only_setCell (only_setCell (only_setCell (only_setCell hgr (.inl rfl) _) (.inl rfl) _) (.inl rfl) _) (.inl rfl) _
        · have hs := fillS_step (marksQu_get hlt) (by rw [marksQu_len]; exact HX.out) (by rw [marksQu_len]; exact hlt) (encQu_len) HO.out
          exact hs
      case measure => simp [intOf]; omega
    · obtain rfl : k = n := by omega
      have HO := Lib.hid hown
      clear hown
      go_wp2
      go_ret
      exact ⟨rfl, fillS_end (by rw [marksQu_len]; exact HX.out) (by rw [marksQu_len]; exact HO.out), hgr⟩

set_option maxHeartbeats 1000000 in
theorem heldQuS_any (k0 : Int) (A : Option Addr) (n c : Nat) (w : World) (hr : RowAt 4 encQu w A (marksQu k0 n)) (hk0 : 0 ≤ k0) (hk1 : k0 ≤ 100000000) (hn : n ≤ 2097152) :
    Calls Try.prog 49 #[.slice A n c, .int .i64 k0] w fun e w' => e = .returned (.int .i64 (k0 + 4 * (n : Int))) ∧ w = w' := by
  go_enter Try.func49, Try.ntmps49
  go_wp2_with fail
  go_loop [1, 5] (fun kv i => ∃ k : Nat, k ≤ n ∧ i = .int .i64 k ∧ kv = .int .i64 (k0 + 4 * (k : Int))) (fun _ i => n - (intOf i).toNat)
  case atStart => exact ⟨0, Nat.zero_le _, rfl, by go_num⟩
  case round =>
    obtain ⟨k, hk, rfl, rfl⟩ := hrel
    by_cases hlt : k < n
    · have i0 := ib0 k
      have i1 := ib1 hlt
      obtain ⟨b, off, rfl, hb, q0, q1, q2, q3⟩ := hr.qu (marksQu_get hlt)
      simp only [markQu] at q0 q1 q2 q3
      clear hr
      go_wp2
      all_goals
        go_round
        case rel => exact ⟨k + 1, by omega, by go_num, by go_num⟩
        case measure => simp [intOf]; omega
    · obtain rfl : k = n := by omega
      clear hr
      go_wp2
      go_ret
      exact ⟨rfl, rfl⟩

set_option maxHeartbeats 400000 in
theorem markQuS_nil (k0 : Int) (w : World) :
    Calls Try.prog 42 #[.slice none 0 0, .int .i64 k0] w fun e w' => e = .returned (.int .i64 (k0 + 4 * ((0 : Nat) : Int))) ∧ w = w' := by
  go_enter Try.func42, Try.ntmps42
  go_wp2_with fail
  refine wp_loop_rounds 1 ?_
  rw [rounds_succ]
  go_wp2
  go_ret
  exact ⟨ret_int (by simp), rfl⟩

theorem markQuS_any (k0 : Int) (A : Option Addr) (n c base : Nat) (xs : List Value) (w : World) (hown : w.ownsRow base 26 4 (.slice A n c) n xs) (hk0 : 0 ≤ k0) (hk1 : k0 ≤ 100000000) (hn : n ≤ 2097152) :
    Calls Try.prog 42 #[.slice A n c, .int .i64 k0] w fun e w' => e = .returned (.int .i64 (k0 + 4 * (n : Int))) ∧
      w'.ownsRow base 26 4 (.slice A n c) n ((marksQu k0 n).flatMap encQu) ∧ w.grownBy w' (Value.slice A n c).ownBlock := by
  rcases own_form hown with ⟨rfl, rfl, rfl⟩ | ⟨g, rfl⟩
  · refine (markQuS_nil k0 w).mono fun e w' ⟨he, hw⟩ => ?_
    subst hw
    exact ⟨he, World.ownsRow_nil _ _ _ _, World.grownBy.refl _ _⟩
  · exact markQuS_some k0 g n c base xs w hown hk0 hk1 hn

end Go.Proofs.Ytlinjkfbcekepaa
