/-
  Lists of ints: the laws' own helpers over them (size, copy, comparison, marks).
-/
import Derived.Test.YtifkakpiipoadaaInts0
import Derived.Test.YtifkakpiipoadaaRows
namespace Go.Proofs.Ytifkakpiipoadaa
set_option linter.unusedVariables false
set_option linter.unusedSimpArgs false
set_option linter.unnecessarySimpa false
open Go.RowKit
attribute [local go_sem] ext_cell ext_frozen

theorem infoI : (Try.prog.info? 3).map (fun i => (i.zero, i.size, i.bytes)) = some (some (.int .i64 0), 1, 8) := by kernel_rfl
theorem encI_one (n : Int) : ∀ v ∈ encI n, v.oneCell' = true := by
  intro v hv
  simp [encI] at hv
  rw [hv]
  rfl
theorem cellsI_one (l : List Int) : ∀ v ∈ l.flatMap encI, v.oneCell' = true := by
  intro v hv
  obtain ⟨m, _, h⟩ := List.mem_flatMap.1 hv
  exact encI_one m v h

set_option maxHeartbeats 1000000 in
theorem eqIS_same (l : List Int) (A A' : Option Addr) (c c' : Nat) (w : World) (hr : RowAt 1 encI w A l) (hr' : RowAt 1 encI w A' l) (hlen : l.length ≤ 2097152) :
    Calls Try.prog 22 #[.slice A l.length c, .slice A' l.length c'] w fun e w' => e = .returned (.bool true) ∧ Below w.heap.size w w' := by
  go_enter Try.func22, Try.ntmps22
  go_wp2_with fail
  go_loopw [5] (fun i wr => ∃ k : Nat, k ≤ l.length ∧ i = .int .i64 k ∧ Below w.heap.size w wr) (fun i _ => l.length - (intOf i).toNat)
  case atStart => exact ⟨0, Nat.zero_le _, rfl, bref _⟩
  case round =>
    obtain ⟨k, hk, rfl, hbr⟩ := hrel
    by_cases hlt : k < l.length
    · obtain ⟨m, hm⟩ := some_get hlt
      have i0 := ib0 k
      have i1 := ib1 hlt
      obtain ⟨b, off, rfl, hb, q0⟩ := (hr.below hbr).i hm
      obtain ⟨b', off', rfl, hb', r0⟩ := (hr'.below hbr).i hm
      clear hr hr' hm
      go_wp2_with fail
      (refine wp_region_calm (by kernel_rfl) (by kernel_rfl) ?_; (repeat (go_big_quiet_step ((fail)))); refine wpQuiet_nil ?_; intro xw; have hb1 := xw.is; generalize xw.w = w1 at hb1 ⊢; clear xw)
      go_wp2
      go_roundw
      case rel => exact ⟨k + 1, by omega, by go_num, bstep hbr hb1⟩
      case measure => simp [intOf]; omega
    · obtain rfl : k = l.length := by omega
      clear hr hr'
      go_wp2
      go_ret
      exact ⟨rfl, hbr⟩

def markI (k : Int) : Int := k
def marksI (k : Int) (n : Nat) : List Int := (List.range n).map fun (i : Nat) => markI (k + 1 * (i : Int))
theorem marksI_len (k : Int) (n : Nat) : (marksI k n).length = n := by simp [marksI]
theorem marksI_get {k : Int} {n i : Nat} (h : i < n) : (marksI k n)[i]? = some (markI (k + 1 * (i : Int))) := by simp [marksI, h]

set_option maxHeartbeats 1000000 in
theorem markIS_some (k0 : Int) (g n c base : Nat) (xs : List Value) (w : World) (hown : w.ownsRow base 3 1 (.slice (some ⟨g, 0, none⟩) n c) n xs) (hk0 : 0 ≤ k0) (hk1 : k0 ≤ 100000000) (hn : n ≤ 2097152) :
    Calls Try.prog 24 #[.slice (some ⟨g, 0, none⟩) n c, .int .i64 k0] w fun e w' => e = .returned (.int .i64 (k0 + 1 * (n : Int))) ∧
      w'.ownsRow base 3 1 (.slice (some ⟨g, 0, none⟩) n c) n ((marksI k0 n).flatMap encI) ∧ w.grownBy w' (some g) := by
  have HX := Lib.hid hown.1
  go_enter Try.func24, Try.ntmps24
  go_wp2_with fail
  go_loopw [1, 5] (fun kv i wr => ∃ k : Nat, k ≤ n ∧ i = .int .i64 k ∧ kv = .int .i64 (k0 + 1 * (k : Int)) ∧ w.grownBy wr (some g) ∧ wr.ownsRow base 3 1 (.slice (some ⟨g, 0, none⟩) n c) n (fillS encI 1 (marksI k0 n) xs k)) (fun _ i _ => n - (intOf i).toNat)
  case atStart => exact ⟨0, Nat.zero_le _, rfl, by go_num, World.grownBy.refl w _, by simpa [fillS] using hown⟩
  case round =>
    clear hown
    obtain ⟨k, hk, rfl, rfl, hgr, hown⟩ := hrel
    by_cases hlt : k < n
    · have i0 := ib0 k
      have i1 := ib1 hlt
      obtain ⟨o0, r0⟩ := own_cell hown (j := k) (by omega)
      have z0 := hown.frozenAt k
      have HO := Lib.hid hown
      clear hown
      go_wp2
      go_roundw
      case rel =>
        refine ⟨k + 1, by omega, by go_num, by go_num, ?_, ?_⟩
        · exact only_setCell hgr (.inl rfl) _
        · have hs := fillS_step (marksI_get hlt) (by rw [marksI_len]; exact HX.out) (by rw [marksI_len]; exact hlt) (encI_len) HO.out
          simpa [World.setCells, encI, markI] using hs
      case measure => simp [intOf]; omega
    · obtain rfl : k = n := by omega
      have HO := Lib.hid hown
      clear hown
      go_wp2
      go_ret
      exact ⟨rfl, fillS_end (by rw [marksI_len]; exact HX.out) (by rw [marksI_len]; exact HO.out), hgr⟩

set_option maxHeartbeats 1000000 in
theorem heldIS_any (k0 : Int) (A : Option Addr) (n c : Nat) (w : World) (hr : RowAt 1 encI w A (marksI k0 n)) (hk0 : 0 ≤ k0) (hk1 : k0 ≤ 100000000) (hn : n ≤ 2097152) :
    Calls Try.prog 25 #[.slice A n c, .int .i64 k0] w fun e w' => e = .returned (.int .i64 (k0 + 1 * (n : Int))) ∧ w = w' := by
  go_enter Try.func25, Try.ntmps25
  go_wp2_with fail
  go_loop [1, 5] (fun kv i => ∃ k : Nat, k ≤ n ∧ i = .int .i64 k ∧ kv = .int .i64 (k0 + 1 * (k : Int))) (fun _ i => n - (intOf i).toNat)
  case atStart => exact ⟨0, Nat.zero_le _, rfl, by go_num⟩
  case round =>
    obtain ⟨k, hk, rfl, rfl⟩ := hrel
    by_cases hlt : k < n
    · have i0 := ib0 k
      have i1 := ib1 hlt
      obtain ⟨b, off, rfl, hb, q0⟩ := hr.i (marksI_get hlt)
      simp only [markI] at q0
      clear hr
      go_wp2
      all_goals
        go_round
        case rel => exact ⟨k + 1, by omega, by go_num, by go_num⟩
        case measure => simp [intOf]; omega
    · obtain rfl : k = n := by omega
      clear hr
      go_wp2
      go_ret
      exact ⟨rfl, rfl⟩

set_option maxHeartbeats 400000 in
theorem markIS_nil (k0 : Int) (w : World) :
    Calls Try.prog 24 #[.slice none 0 0, .int .i64 k0] w fun e w' => e = .returned (.int .i64 (k0 + 1 * ((0 : Nat) : Int))) ∧ w = w' := by
  go_enter Try.func24, Try.ntmps24
  go_wp2_with fail
  refine wp_loop_rounds 1 ?_
  rw [rounds_succ]
  go_wp2
  go_ret
  exact ⟨ret_int (by simp), rfl⟩

theorem markIS_any (k0 : Int) (A : Option Addr) (n c base : Nat) (xs : List Value) (w : World) (hown : w.ownsRow base 3 1 (.slice A n c) n xs) (hk0 : 0 ≤ k0) (hk1 : k0 ≤ 100000000) (hn : n ≤ 2097152) :
    Calls Try.prog 24 #[.slice A n c, .int .i64 k0] w fun e w' => e = .returned (.int .i64 (k0 + 1 * (n : Int))) ∧
      w'.ownsRow base 3 1 (.slice A n c) n ((marksI k0 n).flatMap encI) ∧ w.grownBy w' (Value.slice A n c).ownBlock := by
  rcases own_form hown with ⟨rfl, rfl, rfl⟩ | ⟨g, rfl⟩
  · refine (markIS_nil k0 w).mono fun e w' ⟨he, hw⟩ => ?_
    subst hw
    exact ⟨he, World.ownsRow_nil _ _ _ _, World.grownBy.refl _ _⟩
  · exact markIS_some k0 g n c base xs w hown hk0 hk1 hn
end Go.Proofs.Ytifkakpiipoadaa
