/-
  Cubes as plain data: the struct, its row in memory, and the laws' own helpers over it (size, copy, comparison, marks).
-/
import Derived.Test.YtaobbkiepggafaaPlain0
import Derived.Test.YtaobbkiepggafaaRows
namespace Go.Proofs.Ytaobbkiepggafaa
set_option linter.unusedVariables false
set_option linter.unusedSimpArgs false
set_option linter.unnecessarySimpa false
open Go.RowKit
attribute [local go_sem] ext_cell ext_frozen

structure Cu where
  ws : Int
  so : Int
  sd : Int
  fr : Int
  to_ : Int
def encCu (m : Cu) : List Value := [.int .i64 m.ws, .int .i64 m.so, .int .i64 m.sd, .int .i64 m.fr, .int .i64 m.to_]
theorem encCu_len (m : Cu) : (encCu m).length = 5 := rfl
theorem encCu_one (m : Cu) : ∀ v ∈ encCu m, v.oneCell' = true := by
  intro v hv
  simp [encCu] at hv
  rcases hv with rfl | rfl | rfl | rfl | rfl <;> rfl
theorem cellsCu_one (l : List Cu) : ∀ v ∈ l.flatMap encCu, v.oneCell' = true := by
  intro v hv
  obtain ⟨m, _, h⟩ := List.mem_flatMap.1 hv
  exact encCu_one m v h
theorem cellsCu_len (l : List Cu) : (l.flatMap encCu).length = l.length * 5 := by
  induction l with
  | nil => rfl
  | cons m l ih => rw [List.flatMap_cons, List.length_append, ih, encCu_len, List.length_cons]; omega
theorem infoCu : (Try.prog.info? 37).map (fun i => (i.zero, i.size, i.bytes)) = some (some (.agg #[.int .i64 0, .int .i64 0, .int .i64 0, .int .i64 0, .int .i64 0]), 5, 40) := by kernel_rfl

theorem RowAt.cu {w : World} {k : Nat} {A : Option Addr} {l : List Cu} {m : Cu} (h : RowAt 5 encCu w A l) (hm : l[k]? = some m) :
    ∃ b off, A = some ⟨b, off, none⟩ ∧ b < w.heap.size ∧ w.cell? ⟨b, off + k * 5, none⟩ = some (.int .i64 m.ws) ∧ w.cell? ⟨b, off + k * 5 + 1, none⟩ = some (.int .i64 m.so) ∧ w.cell? ⟨b, off + k * 5 + 2, none⟩ = some (.int .i64 m.sd) ∧ w.cell? ⟨b, off + k * 5 + 3, none⟩ = some (.int .i64 m.fr) ∧ w.cell? ⟨b, off + k * 5 + 4, none⟩ = some (.int .i64 m.to_) := by
  obtain ⟨b, off, e, hb, hc⟩ := h.at_ hm
  exact ⟨b, off, e, hb, hc k m hm 0 _ rfl, hc k m hm 1 _ rfl, hc k m hm 2 _ rfl, hc k m hm 3 _ rfl, hc k m hm 4 _ rfl⟩

theorem RowAt.cu2 {w : World} {k j : Nat} {A : Option Addr} {l : List Cu} {m p : Cu} (h : RowAt 5 encCu w A l) (hm : l[k]? = some m) (hp : l[j]? = some p) :
    ∃ b off, A = some ⟨b, off, none⟩ ∧ b < w.heap.size ∧ w.cell? ⟨b, off + k * 5, none⟩ = some (.int .i64 m.ws) ∧ w.cell? ⟨b, off + k * 5 + 1, none⟩ = some (.int .i64 m.so) ∧ w.cell? ⟨b, off + k * 5 + 2, none⟩ = some (.int .i64 m.sd) ∧ w.cell? ⟨b, off + k * 5 + 3, none⟩ = some (.int .i64 m.fr) ∧ w.cell? ⟨b, off + k * 5 + 4, none⟩ = some (.int .i64 m.to_) ∧ w.cell? ⟨b, off + j * 5, none⟩ = some (.int .i64 p.ws) ∧ w.cell? ⟨b, off + j * 5 + 1, none⟩ = some (.int .i64 p.so) ∧ w.cell? ⟨b, off + j * 5 + 2, none⟩ = some (.int .i64 p.sd) ∧ w.cell? ⟨b, off + j * 5 + 3, none⟩ = some (.int .i64 p.fr) ∧ w.cell? ⟨b, off + j * 5 + 4, none⟩ = some (.int .i64 p.to_) := by
  obtain ⟨b, off, e, hb, hc⟩ := h.at_ hm
  exact ⟨b, off, e, hb, hc k m hm 0 _ rfl, hc k m hm 1 _ rfl, hc k m hm 2 _ rfl, hc k m hm 3 _ rfl, hc k m hm 4 _ rfl, hc j p hp 0 _ rfl, hc j p hp 1 _ rfl, hc j p hp 2 _ rfl, hc j p hp 3 _ rfl, hc j p hp 4 _ rfl⟩

set_option maxHeartbeats 400000 in
theorem toCu_any (f0 : Int) (f1 : Int) (f2 : Int) (f3 : Int) (f4 : Int) (w : World) :
    Calls Try.prog 16 #[.agg #[.int .i64 f0, .int .i64 f1, .int .i64 f2, .int .i64 f3, .int .i64 f4]] w fun e w' => e = .returned (.agg #[.int .i64 f0, .int .i64 f1, .int .i64 f2, .int .i64 f3, .int .i64 f4]) ∧ Below w.heap.size w w' := by
  go_enter Try.func16, Try.ntmps16
  go_wp2
  exact bodyPost_ret (v := .agg #[.int .i64 f0, .int .i64 f1, .int .i64 f2, .int .i64 f3, .int .i64 f4]) (by simp [results, Try.results16, go_sem]) rfl ⟨rfl, (by repeat (first | exact bref _ | (refine balloc ?_ _) | (refine bdrew ?_) | (refine bdrewN ?_ _) | (refine bstep ?_ (by assumption))))⟩

set_option maxHeartbeats 1000000 in
theorem eqCu_same (f0 : Int) (f1 : Int) (f2 : Int) (f3 : Int) (f4 : Int) (w : World) :
    Calls Try.prog 79 #[.agg #[.int .i64 f0, .int .i64 f1, .int .i64 f2, .int .i64 f3, .int .i64 f4], .agg #[.int .i64 f0, .int .i64 f1, .int .i64 f2, .int .i64 f3, .int .i64 f4]] w fun e w' => e = .returned (.bool true) ∧ Below w.heap.size w w' := by
  go_enter Try.func79, Try.ntmps79
  go_wp2
  go_ret
  exact ⟨rfl, (by repeat (first | exact bref _ | (refine balloc ?_ _) | (refine bdrew ?_) | (refine bdrewN ?_ _) | (refine bstep ?_ (by assumption))))⟩

set_option maxHeartbeats 1000000 in
theorem eqCuS_same (l : List Cu) (A A' : Option Addr) (c c' : Nat) (w : World) (hr : RowAt 5 encCu w A l) (hr' : RowAt 5 encCu w A' l) (hlen : l.length ≤ 2097152) :
    Calls Try.prog 37 #[.slice A l.length c, .slice A' l.length c'] w fun e w' => e = .returned (.bool true) ∧ Below w.heap.size w w' := by
  go_enter Try.func37, Try.ntmps37
  go_wp2_with fail
  go_loopw [5] (fun i wr => ∃ k : Nat, k ≤ l.length ∧ i = .int .i64 k ∧ Below w.heap.size w wr) (fun i _ => l.length - (intOf i).toNat)
  case atStart => exact ⟨0, Nat.zero_le _, rfl, bref _⟩
  case round =>
    obtain ⟨k, hk, rfl, hbr⟩ := hrel
    by_cases hlt : k < l.length
    · obtain ⟨m, hm⟩ := some_get hlt
      have i0 := ib0 k
      have i1 := ib1 hlt
      obtain ⟨b, off, rfl, hb, q0, q1, q2, q3, q4⟩ := (hr.below hbr).cu hm
      obtain ⟨b', off', rfl, hb', r0, r1, r2, r3, r4⟩ := (hr'.below hbr).cu hm
      clear hr hr' hm
      go_wp2_with fail
      (refine wp_region_calm (by kernel_rfl) (by kernel_rfl) ?_; (repeat (go_big_quiet_step (((go_at_call 79; exact calm_of (eqCu_same _ _ _ _ _ _)))))); refine wpQuiet_nil ?_; intro xw; have hb1 := xw.is; generalize xw.w = w1 at hb1 ⊢; clear xw)
      go_wp2
      go_roundw
      case rel => exact ⟨k + 1, by omega, by go_num, bstep hbr hb1⟩
      case measure => simp [intOf]; omega
    · obtain rfl : k = l.length := by omega
      clear hr hr'
      go_wp2
      go_ret
      exact ⟨rfl, hbr⟩

def markCu (k : Int) : Cu := ⟨k, k + 1, k + 1 + 1, k + 1 + 1 + 1, k + 1 + 1 + 1 + 1⟩
def marksCu (k : Int) (n : Nat) : List Cu := (List.range n).map fun (i : Nat) => markCu (k + 5 * (i : Int))
theorem marksCu_len (k : Int) (n : Nat) : (marksCu k n).length = n := by simp [marksCu]
theorem marksCu_get {k : Int} {n i : Nat} (h : i < n) : (marksCu k n)[i]? = some (markCu (k + 5 * (i : Int))) := by simp [marksCu, h]

set_option maxHeartbeats 1000000 in
theorem markCuS_some (k0 : Int) (g n c base : Nat) (xs : List Value) (w : World) (hown : w.ownsRow base 37 5 (.slice (some ⟨g, 0, none⟩) n c) n xs) (hk0 : 0 ≤ k0) (hk1 : k0 ≤ 100000000) (hn : n ≤ 2097152) :
    Calls Try.prog 39 #[.slice (some ⟨g, 0, none⟩) n c, .int .i64 k0] w fun e w' => e = .returned (.int .i64 (k0 + 5 * (n : Int))) ∧
      w'.ownsRow base 37 5 (.slice (some ⟨g, 0, none⟩) n c) n ((marksCu k0 n).flatMap encCu) ∧ w.grownBy w' (some g) := by
  have HX := Lib.hid hown.1
  go_enter Try.func39, Try.ntmps39
  go_wp2_with fail
  go_loopw [1, 5] (fun kv i wr => ∃ k : Nat, k ≤ n ∧ i = .int .i64 k ∧ kv = .int .i64 (k0 + 5 * (k : Int)) ∧ w.grownBy wr (some g) ∧ wr.ownsRow base 37 5 (.slice (some ⟨g, 0, none⟩) n c) n (fillS encCu 5 (marksCu k0 n) xs k)) (fun _ i _ => n - (intOf i).toNat)
  case atStart => exact ⟨0, Nat.zero_le _, rfl, by go_num, World.grownBy.refl w _, by simpa [fillS] using hown⟩
  case round =>
    clear hown
    obtain ⟨k, hk, rfl, rfl, hgr, hown⟩ := hrel
    by_cases hlt : k < n
    · have i0 := ib0 k
      have i1 := ib1 hlt
      obtain ⟨o0, r0⟩ := own_cell hown (j := k * 5) (by omega)
      obtain ⟨o1, r1⟩ := own_cell hown (j := k * 5 + 1) (by omega)
      obtain ⟨o2, r2⟩ := own_cell hown (j := k * 5 + 2) (by omega)
      obtain ⟨o3, r3⟩ := own_cell hown (j := k * 5 + 3) (by omega)
      obtain ⟨o4, r4⟩ := own_cell hown (j := k * 5 + 4) (by omega)
      have z0 := hown.frozenAt (k * 5)
      have z1 := hown.frozenAt (k * 5 + 1)
      have z2 := hown.frozenAt (k * 5 + 2)
      have z3 := hown.frozenAt (k * 5 + 3)
      have z4 := hown.frozenAt (k * 5 + 4)
      have HO := Lib.hid hown
      clear hown
      go_wp2
      go_roundw
      case rel =>
        refine ⟨k + 1, by omega, by go_num, by go_num, ?_, ?_⟩
        · exact only_setCell (only_setCell (only_setCell (only_setCell (only_setCell hgr (.inl rfl) _) (.inl rfl) _) (.inl rfl) _) (.inl rfl) _) (.inl rfl) _
        · have hs := fillS_step (marksCu_get hlt) (by rw [marksCu_len]; exact HX.out) (by rw [marksCu_len]; exact hlt) (encCu_len) HO.out
          exact hs
      case measure => simp [intOf]; omega
    · obtain rfl : k = n := by omega
      have HO := Lib.hid hown
      clear hown
      go_wp2
      go_ret
      exact ⟨rfl, fillS_end (by rw [marksCu_len]; exact HX.out) (by rw [marksCu_len]; exact HO.out), hgr⟩

set_option maxHeartbeats 1000000 in
theorem heldCuS_any (k0 : Int) (A : Option Addr) (n c : Nat) (w : World) (hr : RowAt 5 encCu w A (marksCu k0 n)) (hk0 : 0 ≤ k0) (hk1 : k0 ≤ 100000000) (hn : n ≤ 2097152) :
    Calls Try.prog 40 #[.slice A n c, .int .i64 k0] w fun e w' => e = .returned (.int .i64 (k0 + 5 * (n : Int))) ∧ w = w' := by
  go_enter Try.func40, Try.ntmps40
  go_wp2_with fail
  go_loop [1, 5] (fun kv i => ∃ k : Nat, k ≤ n ∧ i = .int .i64 k ∧ kv = .int .i64 (k0 + 5 * (k : Int))) (fun _ i => n - (intOf i).toNat)
  case atStart => exact ⟨0, Nat.zero_le _, rfl, by go_num⟩
  case round =>
    obtain ⟨k, hk, rfl, rfl⟩ := hrel
    by_cases hlt : k < n
    · have i0 := ib0 k
      have i1 := ib1 hlt
      obtain ⟨b, off, rfl, hb, q0, q1, q2, q3, q4⟩ := hr.cu (marksCu_get hlt)
      simp only [markCu] at q0 q1 q2 q3 q4
      clear hr
      go_wp2
      all_goals
        go_round
        case rel => exact ⟨k + 1, by omega, by go_num, by go_num⟩
        case measure => simp [intOf]; omega
    · obtain rfl : k = n := by omega
      clear hr
      go_wp2
      go_ret
      exact ⟨rfl, rfl⟩

set_option maxHeartbeats 400000 in
theorem markCuS_nil (k0 : Int) (w : World) :
    Calls Try.prog 39 #[.slice none 0 0, .int .i64 k0] w fun e w' => e = .returned (.int .i64 (k0 + 5 * ((0 : Nat) : Int))) ∧ w = w' := by
  go_enter Try.func39, Try.ntmps39
  go_wp2_with fail
  refine wp_loop_rounds 1 ?_
  rw [rounds_succ]
  go_wp2
  go_ret
  exact ⟨ret_int (by simp), rfl⟩

theorem markCuS_any (k0 : Int) (A : Option Addr) (n c base : Nat) (xs : List Value) (w : World) (hown : w.ownsRow base 37 5 (.slice A n c) n xs) (hk0 : 0 ≤ k0) (hk1 : k0 ≤ 100000000) (hn : n ≤ 2097152) :
    Calls Try.prog 39 #[.slice A n c, .int .i64 k0] w fun e w' => e = .returned (.int .i64 (k0 + 5 * (n : Int))) ∧
      w'.ownsRow base 37 5 (.slice A n c) n ((marksCu k0 n).flatMap encCu) ∧ w.grownBy w' (Value.slice A n c).ownBlock := by
  rcases own_form hown with ⟨rfl, rfl, rfl⟩ | ⟨g, rfl⟩
  · refine (markCuS_nil k0 w).mono fun e w' ⟨he, hw⟩ => ?_
    subst hw
    exact ⟨he, World.ownsRow_nil _ _ _ _, World.grownBy.refl _ _⟩
  · exact markCuS_some k0 g n c base xs w hown hk0 hk1 hn

end Go.Proofs.Ytaobbkiepggafaa
