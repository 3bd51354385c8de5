/-
  slices.IndexFunc, slices.ContainsFunc and impl.all over Packets, with any predicate that only makes memory.
-/
import Derived.Test.YtifkakpiipoadaaPkPred
import Derived.Test.YtifkakpiipoadaaListed
import Derived.Laws.EntriesVeiled
namespace Go.Proofs.Ytifkakpiipoadaa
set_option linter.unusedVariables false
set_option linter.unusedSimpArgs false
set_option linter.unnecessarySimpa false
open Go.RowKit
attribute [local go_sem] ext_cell ext_frozen

set_option maxRecDepth 100000 in
set_option maxHeartbeats 1000000 in
theorem indexFuncPk_any (l : List Pk) (A : Option Addr) (c g : Nat) (caps : Array Value) (p : Pk → Bool) (eg : ∀ (args : Array Value) (w : World), (callFunc g args).run Try.prog w = .ok (.enter g args) w) (w : World) (hr : RowAt 2 encPk w A l) (hlen : l.length ≤ 2097152) (hp : PredPk g caps p l w) :
    Calls Try.prog 99 #[.slice A l.length c, .func (.func g) #[] caps] w fun e w' => e = .returned (.int .i64 (idxL p l 0)) ∧ Below w.heap.size w w' := by
  have HP := Lib.hid hp
  clear hp
  go_enter Try.func99, Try.ntmps99
  go_wp2_with fail
  go_loopw [8] (fun i wr => ∃ k : Nat, k ≤ l.length ∧ i = .int .i64 k ∧ Hid (idxL p (l.drop k) k = idxL p l 0) ∧ Below w.heap.size w wr) (fun i _ => l.length - (intOf i).toNat)
  case atStart => exact ⟨0, Nat.zero_le _, rfl, rfl, bref _⟩
  case round =>
    obtain ⟨k, hk, rfl, HI, hbr⟩ := hrel
    by_cases hlt : k < l.length
    · obtain ⟨m, hm⟩ := some_get hlt
      have i0 := ib0 k
      have i1 := ib1 hlt
      obtain ⟨b, off, rfl, hb, q0, q1⟩ := (hr.below hbr).pkc hm
      have HD := Lib.hid (drop_cons hm)
      have HM := Lib.hid (List.mem_of_getElem? hm)
      clear hr hm
      cases hpm : p m
      · have HF := Lib.hid (show idxL p (l.drop (k + 1)) (k + 1) = idxL p l 0 by rw [← HI.out, HD.out]; simp [idxL, hpm])
        go_wp2_with fail
        refine (HP.out _ hbr m HM.out).mono ?_; rintro e w1 ⟨rfl, hb1⟩
        clear HP HI HD
        go_wp2
        go_roundw
        case rel => exact ⟨k + 1, by omega, by go_num, HF, bstep hbr hb1⟩
        case measure => simp [intOf]; omega
      · have HF := Lib.hid (show idxL p l 0 = k by rw [← HI.out, HD.out]; simp [idxL, hpm])
        go_wp2_with fail
        refine (HP.out _ hbr m HM.out).mono ?_; rintro e w1 ⟨rfl, hb1⟩
        clear HP HI HD
        go_wp2
        go_ret
        exact ⟨ret_int HF.out.symm, bstep hbr hb1⟩
    · obtain rfl : k = l.length := by omega
      have HF := Lib.hid (show idxL p l 0 = -1 by rw [← HI.out, List.drop_length]; rfl)
      clear hr HP HI
      go_wp2
      go_ret
      exact ⟨ret_int HF.out.symm, hbr⟩

set_option maxHeartbeats 400000 in
theorem containsFuncPk_any (l : List Pk) (A : Option Addr) (c g : Nat) (caps : Array Value) (p : Pk → Bool) (eg : ∀ (args : Array Value) (w : World), (callFunc g args).run Try.prog w = .ok (.enter g args) w) (w : World) (hr : RowAt 2 encPk w A l) (hlen : l.length ≤ 2097152) (hp : PredPk g caps p l w) :
    Calls Try.prog 95 #[.slice A l.length c, .func (.func g) #[] caps] w fun e w' => e = .returned (.bool (l.any p)) ∧ Below w.heap.size w w' := by
  have HP := Lib.hid hp
  have HR := Lib.hid hr
  clear hp hr
  go_enter Try.func95, Try.ntmps95
  go_wp2_with fail
  refine (indexFuncPk_any l _ _ _ _ p eg _ HR.out hlen HP.out).mono ?_; rintro e w1 ⟨rfl, hb1⟩
  go_wp2
  go_ret
  exact ⟨ret_bool (idxL_any p l), hb1⟩

set_option maxRecDepth 100000 in
set_option maxHeartbeats 1000000 in
theorem all1Pk_any (m : Pk) (b g : Nat) (caps : Array Value) (v : Bool) (eg : ∀ (args : Array Value) (w : World), (callFunc g args).run Try.prog w = .ok (.enter g args) w) (w : World) (hc : w.cell? ⟨b, 0, none⟩ = some (.func (.func g) #[] caps))
    (hp : ∀ w1, Below w.heap.size w w1 → Calls Try.prog g (#[.agg #[.int .i64 m.no, .slice m.A m.sm.length m.c]] ++ caps) w1 fun e w' => e = .returned (.bool v) ∧ Below w1.heap.size w1 w') :
    Calls Try.prog 96 #[.agg #[.int .i64 m.no, .slice m.A m.sm.length m.c], .pointer (some ⟨b, 0, none⟩)] w fun e w' => e = .returned (.bool !v) ∧ Below w.heap.size w w' := by
  have HP := Lib.hid hp
  have hb : b < w.heap.size := World.block_lt_of_cell? w ⟨b, 0, none⟩ hc
  clear hp
  go_enter Try.func96, Try.ntmps96
  go_wp2_with fail
  refine (HP.out _ (balloc (bref _) _)).mono ?_; rintro e w1 ⟨rfl, hb1⟩
  clear HP
  go_wp2
  go_ret
  exact ⟨rfl, (by repeat (first | exact bref _ | (refine balloc ?_ _) | (refine bdrew ?_) | (refine bdrewN ?_ _) | (refine bstep ?_ (by assumption))))⟩

set_option maxRecDepth 100000 in
set_option maxHeartbeats 1000000 in
theorem allPk_any (l : List Pk) (A : Option Addr) (c g : Nat) (caps : Array Value) (p : Pk → Bool) (eg : ∀ (args : Array Value) (w : World), (callFunc g args).run Try.prog w = .ok (.enter g args) w) (w : World) (hr : RowAt 2 encPk w A l) (hlen : l.length ≤ 2097152) (hp : PredPk g caps p l w) :
    Calls Try.prog 62 #[.slice A l.length c, .func (.func g) #[] caps] w fun e w' => e = .returned (.bool (l.all p)) ∧ Below w.heap.size w w' := by
  have hmf : ∀ (fn : Fn) (first cap : Array Value) (w : World), (Instr.makeFunc fn first cap).run Try.prog w = .ok (.func fn first cap) w := fun _ _ _ _ => rfl
  have HP := Lib.hid hp
  have HR := Lib.hid hr
  clear hp hr
  go_enter Try.func62, Try.ntmps62
  go_wp2_with fail
  refine (containsFuncPk_any l _ _ _ _ (fun m => !p m) (enters_of Try.func96 (by kernel_rfl) rfl) _ (HR.out.below (balloc (bref _) _)) hlen ?_).mono ?_
  · intro w1 hb1 m hm
    have h0 : (w.alloc (.cells #[.func (.func g) #[] caps] 62)).cell? ⟨w.heap.size, 0, none⟩ = some (.func (.func g) #[] caps) := by simp [go_sem]
    exact all1Pk_any m w.heap.size g caps (p m) eg w1 ((hb1.cell (p := ⟨w.heap.size, 0, none⟩) (by simp)).trans h0) (fun w2 hb2 => HP.out w2 (bstep (bstep (balloc (bref _) _) hb1) hb2) m hm)
  · rintro e w1 ⟨rfl, hb1⟩
    clear HP HR hmf
    go_wp2
    go_ret
    exact ⟨ret_bool (by simp [List.all_eq_not_any_not]), (by repeat (first | exact bref _ | (refine balloc ?_ _) | (refine bdrew ?_) | (refine bdrewN ?_ _) | (refine bstep ?_ (by assumption))))⟩
end Go.Proofs.Ytifkakpiipoadaa
