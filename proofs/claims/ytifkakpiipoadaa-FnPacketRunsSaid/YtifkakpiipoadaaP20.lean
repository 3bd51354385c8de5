/-
  Rows of pairs of ints ([][2]int): their rows in memory, and the laws' own helpers over them (comparison, marks).
-/
import Derived.Test.YtifkakpiipoadaaPlain0
import Derived.Test.YtifkakpiipoadaaRows
namespace Go.Proofs.Ytifkakpiipoadaa
set_option linter.unusedVariables false
set_option linter.unusedSimpArgs false
set_option linter.unnecessarySimpa false
open Go.RowKit
attribute [local go_sem] ext_cell ext_frozen

structure P2 where
  a : Int
  b : Int
def encP2 (m : P2) : List Value := [.int .i64 m.a, .int .i64 m.b]
theorem encP2_len (m : P2) : (encP2 m).length = 2 := rfl
theorem encP2_one (m : P2) : ∀ v ∈ encP2 m, v.oneCell' = true := by
  intro v hv
  simp [encP2] at hv
  rcases hv with rfl | rfl <;> rfl
theorem cellsP2_one (l : List P2) : ∀ v ∈ l.flatMap encP2, v.oneCell' = true := by
  intro v hv
  obtain ⟨m, _, h⟩ := List.mem_flatMap.1 hv
  exact encP2_one m v h
theorem infoP2 : (Try.prog.info? 55).map (fun i => (i.zero, i.size, i.bytes)) = some (some (.agg #[.int .i64 0, .int .i64 0]), 2, 16) := by kernel_rfl
theorem RowAt.p2 {w : World} {k : Nat} {A : Option Addr} {l : List P2} {m : P2} (h : RowAt 2 encP2 w A l) (hm : l[k]? = some m) :
    ∃ b off, A = some ⟨b, off, none⟩ ∧ b < w.heap.size ∧ w.cell? ⟨b, off + k * 2, none⟩ = some (.int .i64 m.a) ∧ w.cell? ⟨b, off + k * 2 + 1, none⟩ = some (.int .i64 m.b) := by
  obtain ⟨b, off, e, hb, hc⟩ := h.at_ hm
  exact ⟨b, off, e, hb, hc k m hm 0 _ rfl, hc k m hm 1 _ rfl⟩

set_option maxHeartbeats 2000000 in
theorem eqP2_same (x y : Int) (w : World) :
    Calls Try.prog 87 #[.agg #[.int .i64 x, .int .i64 y], .agg #[.int .i64 x, .int .i64 y]] w fun e w' => e = .returned (.bool true) ∧ Below w.heap.size w w' := by
  go_enter Try.func87, Try.ntmps87
  go_wp2_with fail
  go_loopw [5] (fun i wr => ∃ j : Nat, j ≤ 2 ∧ i = .int .i64 j ∧ Below (((w.alloc (.cells #[.int .i64 x, .int .i64 y] 55)).alloc (.cells #[.int .i64 x, .int .i64 y] 55))).heap.size ((w.alloc (.cells #[.int .i64 x, .int .i64 y] 55)).alloc (.cells #[.int .i64 x, .int .i64 y] 55)) wr) (fun i _ => 2 - (intOf i).toNat)
  case atStart => exact ⟨0, by decide, rfl, bref _⟩
  case round =>
    obtain ⟨j, hj, rfl, hbr⟩ := hrel
    have hs := hbr.size
    simp only [World.size_alloc] at hs
    have s1 : w.heap.size < wr.heap.size := by omega
    have s2 : w.heap.size + 1 < wr.heap.size := by omega
    have q0 : wr.cell? ⟨w.heap.size, 0, none⟩ = some (.int .i64 x) := (hbr.cell (p := ⟨w.heap.size, 0, none⟩) (by simp <;> omega)).trans (by simp [go_sem])
    have q1 : wr.cell? ⟨w.heap.size, 1, none⟩ = some (.int .i64 y) := (hbr.cell (p := ⟨w.heap.size, 1, none⟩) (by simp <;> omega)).trans (by simp [go_sem])
    have r0 : wr.cell? ⟨w.heap.size + 1, 0, none⟩ = some (.int .i64 x) := (hbr.cell (p := ⟨w.heap.size + 1, 0, none⟩) (by simp <;> omega)).trans (by simp [go_sem])
    have r1 : wr.cell? ⟨w.heap.size + 1, 1, none⟩ = some (.int .i64 y) := (hbr.cell (p := ⟨w.heap.size + 1, 1, none⟩) (by simp <;> omega)).trans (by simp [go_sem])
    rcases (by omega : j = 0 ∨ j = 1 ∨ j = 2) with rfl | rfl | rfl
    · go_wp2_with fail
      (refine wp_region_calm (by kernel_rfl) (by kernel_rfl) ?_; (repeat (go_big_quiet_step ((fail)))); refine wpQuiet_nil ?_; intro xw; have hb1 := xw.is; generalize xw.w = w1 at hb1 ⊢; clear xw)
      go_wp2
      go_roundw
      case rel => exact ⟨1, by decide, rfl, bstep hbr hb1⟩
      case measure => simp [intOf]
    · go_wp2_with fail
      (refine wp_region_calm (by kernel_rfl) (by kernel_rfl) ?_; (repeat (go_big_quiet_step ((fail)))); refine wpQuiet_nil ?_; intro xw; have hb1 := xw.is; generalize xw.w = w1 at hb1 ⊢; clear xw)
      go_wp2
      go_roundw
      case rel => exact ⟨2, by decide, rfl, bstep hbr hb1⟩
      case measure => simp [intOf]
    · go_wp2
      go_ret
      exact ⟨rfl, Below.trans (balloc (balloc (bref _) _) _) (hbr.mono (by simp <;> omega))⟩

set_option maxHeartbeats 1000000 in
theorem eqP2S_same (l : List P2) (A A' : Option Addr) (c c' : Nat) (w : World) (hr : RowAt 2 encP2 w A l) (hr' : RowAt 2 encP2 w A' l) (hlen : l.length ≤ 2097152) :
    Calls Try.prog 47 #[.slice A l.length c, .slice A' l.length c'] w fun e w' => e = .returned (.bool true) ∧ Below w.heap.size w w' := by
  go_enter Try.func47, Try.ntmps47
  go_wp2_with fail
  go_loopw [5] (fun i wr => ∃ k : Nat, k ≤ l.length ∧ i = .int .i64 k ∧ Below w.heap.size w wr) (fun i _ => l.length - (intOf i).toNat)
  case atStart => exact ⟨0, Nat.zero_le _, rfl, bref _⟩
  case round =>
    obtain ⟨k, hk, rfl, hbr⟩ := hrel
    by_cases hlt : k < l.length
    · obtain ⟨m, hm⟩ := some_get hlt
      have i0 := ib0 k
      have i1 := ib1 hlt
      obtain ⟨b, off, rfl, hb, q0, q1⟩ := (hr.below hbr).p2 hm
      obtain ⟨b', off', rfl, hb', r0, r1⟩ := (hr'.below hbr).p2 hm
      clear hr hr' hm
      go_wp2_with fail
      (refine wp_region_calm (by kernel_rfl) (by kernel_rfl) ?_; (repeat (go_big_quiet_step (((go_at_call 87; exact calm_of (eqP2_same _ _ _)))))); refine wpQuiet_nil ?_; intro xw; have hb1 := xw.is; generalize xw.w = w1 at hb1 ⊢; clear xw)
      go_wp2
      go_roundw
      case rel => exact ⟨k + 1, by omega, by go_num, bstep hbr hb1⟩
      case measure => simp [intOf]; omega
    · obtain rfl : k = l.length := by omega
      clear hr hr'
      go_wp2
      go_ret
      exact ⟨rfl, hbr⟩

def markP2 (k : Int) : P2 := ⟨k, k + 1⟩
def marksP2 (k : Int) (n : Nat) : List P2 := (List.range n).map fun (i : Nat) => markP2 (k + 2 * (i : Int))
theorem marksP2_len (k : Int) (n : Nat) : (marksP2 k n).length = n := by simp [marksP2]
theorem marksP2_get {k : Int} {n i : Nat} (h : i < n) : (marksP2 k n)[i]? = some (markP2 (k + 2 * (i : Int))) := by simp [marksP2, h]
def stepP (X : List Value) (k : Nat) (m : Int) : Nat → List Value
  | 0 => X
  | 1 => X.set (k * 2) (.int .i64 m)
  | _ => (X.set (k * 2) (.int .i64 m)).set (k * 2 + 1) (.int .i64 (m + 1))
def addP (m : Int) : Nat → Int
  | 0 => m
  | 1 => m + 1
  | _ => m + 1 + 1

set_option maxHeartbeats 2000000 in
theorem markP2S_some (k0 : Int) (g n c base : Nat) (xs : List Value) (w : World) (hown : w.ownsRow base 55 2 (.slice (some ⟨g, 0, none⟩) n c) n xs) (hk0 : 0 ≤ k0) (hk1 : k0 ≤ 100000000) (hn : n ≤ 2097152) :
    Calls Try.prog 48 #[.slice (some ⟨g, 0, none⟩) n c, .int .i64 k0] w fun e w' => e = .returned (.int .i64 (k0 + 2 * (n : Int))) ∧
      w'.ownsRow base 55 2 (.slice (some ⟨g, 0, none⟩) n c) n ((marksP2 k0 n).flatMap encP2) ∧ w.grownBy w' (some g) := by
  have HX := Lib.hid hown.1
  go_enter Try.func48, Try.ntmps48
  go_wp2_with fail
  go_loopw [1, 5] (fun kv i wr => ∃ k : Nat, k ≤ n ∧ i = .int .i64 k ∧ kv = .int .i64 (k0 + 2 * (k : Int)) ∧ w.grownBy wr (some g) ∧ wr.ownsRow base 55 2 (.slice (some ⟨g, 0, none⟩) n c) n (fillS encP2 2 (marksP2 k0 n) xs k)) (fun _ i _ => n - (intOf i).toNat)
  case atStart => exact ⟨0, Nat.zero_le _, rfl, by go_num, World.grownBy.refl w _, by simpa [fillS] using hown⟩
  case round =>
    clear hown
    obtain ⟨k, hk, rfl, rfl, hgr, hown⟩ := hrel
    by_cases hlt : k < n
    · have i0 := ib0 k
      have i1 := ib1 hlt
      have HS := Lib.hid (setFrom_fill (zs := xs) (marksP2_get (k := k0) hlt) (by rw [marksP2_len]; exact HX.out) (by rw [marksP2_len]; exact hlt) encP2_len)
      have HO := Lib.hid hown
      have hm0 : 0 ≤ k0 + 2 * (k : Int) := by omega
      have hm1 : k0 + 2 * (k : Int) ≤ 1000000000 := by omega
      clear hown
      go_wp2_with fail
      go_loopw [1, 6] (fun kv jv wj => ∃ j : Nat, j ≤ 2 ∧ jv = .int .i64 j ∧ kv = .int .i64 (addP (k0 + 2 * (k : Int)) j) ∧ w.grownBy wj (some g) ∧ wj.ownsRow base 55 2 (.slice (some ⟨g, 0, none⟩) n c) n (stepP (fillS encP2 2 (marksP2 k0 n) xs k) k (k0 + 2 * (k : Int)) j)) (fun _ jv _ => 2 - (intOf jv).toNat)
      case atStart => exact ⟨0, by decide, rfl, rfl, hgr, HO.out⟩
      case round =>
        obtain ⟨j, hj, rfl, rfl, hgj, hoj⟩ := hrel
        obtain ⟨o0, r0⟩ := own_cell hoj (j := k * 2) (by omega)
        obtain ⟨o1, r1⟩ := own_cell hoj (j := k * 2 + 1) (by omega)
        have z0 := hoj.frozenAt (k * 2)
        have z1 := hoj.frozenAt (k * 2 + 1)
        have HJ := Lib.hid hoj
        clear hoj
        rcases (by omega : j = 0 ∨ j = 1 ∨ j = 2) with rfl | rfl | rfl
        · simp only [addP]
          go_wp2
          go_roundw
          case rel => exact ⟨1, by decide, rfl, rfl, only_setCell hgj (.inl rfl) _, (HJ.out.stored (k * 2) _).1⟩
          case measure => simp [intOf]
        · simp only [addP]
          go_wp2
          go_roundw
          case rel => exact ⟨2, by decide, rfl, rfl, only_setCell hgj (.inl rfl) _, (HJ.out.stored (k * 2 + 1) _).1⟩
          case measure => simp [intOf]
        · simp only [addP]
          go_wp2
          go_roundw
          case rel => exact ⟨k + 1, by omega, by go_num, by go_num, hgj, (by rw [← HS.out]; exact HJ.out)⟩
          case measure => simp [intOf]; omega
    · obtain rfl : k = n := by omega
      have HO := Lib.hid hown
      clear hown
      go_wp2
      go_ret
      exact ⟨rfl, fillS_end (by rw [marksP2_len]; exact HX.out) (by rw [marksP2_len]; exact HO.out), hgr⟩
set_option maxHeartbeats 400000 in
theorem markP2S_nil (k0 : Int) (w : World) :
    Calls Try.prog 48 #[.slice none 0 0, .int .i64 k0] w fun e w' => e = .returned (.int .i64 (k0 + 2 * ((0 : Nat) : Int))) ∧ w = w' := by
  go_enter Try.func48, Try.ntmps48
  go_wp2_with fail
  refine wp_loop_rounds 1 ?_
  rw [rounds_succ]
  go_wp2
  go_ret
  exact ⟨ret_int (by simp), rfl⟩
theorem markP2S_any (k0 : Int) (A : Option Addr) (n c base : Nat) (xs : List Value) (w : World) (hown : w.ownsRow base 55 2 (.slice A n c) n xs) (hk0 : 0 ≤ k0) (hk1 : k0 ≤ 100000000) (hn : n ≤ 2097152) :
    Calls Try.prog 48 #[.slice A n c, .int .i64 k0] w fun e w' => e = .returned (.int .i64 (k0 + 2 * (n : Int))) ∧
      w'.ownsRow base 55 2 (.slice A n c) n ((marksP2 k0 n).flatMap encP2) ∧ w.grownBy w' (Value.slice A n c).ownBlock := by
  rcases own_form hown with ⟨rfl, rfl, rfl⟩ | ⟨g, rfl⟩
  · refine (markP2S_nil k0 w).mono fun e w' ⟨he, hw⟩ => ?_
    subst hw
    exact ⟨he, World.ownsRow_nil _ _ _ _, World.grownBy.refl _ _⟩
  · exact markP2S_some k0 g n c base xs w hown hk0 hk1 hn
set_option maxHeartbeats 1000000 in
theorem heldP2S_any (k0 : Int) (A : Option Addr) (n c : Nat) (w : World) (hr : RowAt 2 encP2 w A (marksP2 k0 n)) (hk0 : 0 ≤ k0) (hk1 : k0 ≤ 100000000) (hn : n ≤ 2097152) :
    Calls Try.prog 49 #[.slice A n c, .int .i64 k0] w fun e w' => e = .returned (.int .i64 (k0 + 2 * (n : Int))) ∧ w = w' := by
  go_enter Try.func49, Try.ntmps49
  go_wp2_with fail
  go_loop [1, 5] (fun kv i => ∃ k : Nat, k ≤ n ∧ i = .int .i64 k ∧ kv = .int .i64 (k0 + 2 * (k : Int))) (fun _ i => n - (intOf i).toNat)
  case atStart => exact ⟨0, Nat.zero_le _, rfl, by go_num⟩
  case round =>
    obtain ⟨k, hk, rfl, rfl⟩ := hrel
    by_cases hlt : k < n
    · have i0 := ib0 k
      have i1 := ib1 hlt
      obtain ⟨b, off, rfl, hb, q0, q1⟩ := hr.p2 (marksP2_get hlt)
      simp only [markP2] at q0 q1
      have hm0 : 0 ≤ k0 + 2 * (k : Int) := by omega
      have hm1 : k0 + 2 * (k : Int) ≤ 1000000000 := by omega
      clear hr
      go_wp2_with fail
      go_loop [1, 6] (fun kv jv => ∃ j : Nat, j ≤ 2 ∧ jv = .int .i64 j ∧ kv = .int .i64 (addP (k0 + 2 * (k : Int)) j)) (fun _ jv => 2 - (intOf jv).toNat)
      case atStart => exact ⟨0, by decide, rfl, rfl⟩
      case round =>
        obtain ⟨j, hj, rfl, rfl⟩ := hrel
        rcases (by omega : j = 0 ∨ j = 1 ∨ j = 2) with rfl | rfl | rfl
        · simp only [addP]
          go_wp2
          all_goals
            go_round
            case rel => exact ⟨1, by decide, rfl, rfl⟩
            case measure => simp [intOf]
        · simp only [addP]
          go_wp2
          all_goals
            go_round
            case rel => exact ⟨2, by decide, rfl, rfl⟩
            case measure => simp [intOf]
        · simp only [addP]
          go_wp2
          go_round
          case rel => exact ⟨k + 1, by omega, by go_num, by go_num⟩
          case measure => simp [intOf]; omega
    · obtain rfl : k = n := by omega
      clear hr
      go_wp2
      go_ret
      exact ⟨rfl, rfl⟩
end Go.Proofs.Ytifkakpiipoadaa
