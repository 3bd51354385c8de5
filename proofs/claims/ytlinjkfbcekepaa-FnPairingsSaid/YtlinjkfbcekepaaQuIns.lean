/-
  spec.l16Put: a quake put into an ascending list in its place, if it is not there.
-/
import Derived.Test.YtlinjkfbcekepaaApp
import Derived.Test.YtlinjkfbcekepaaQuPut
import Derived.Test.YtlinjkfbcekepaaQuOnly
import Derived.Laws.StructEq
import Derived.Deep.RegionHeld3
namespace Go.Proofs.Ytlinjkfbcekepaa
set_option linter.unusedVariables false
set_option linter.unusedSimpArgs false
set_option linter.unnecessarySimpa false
open Go.RowKit

def eqQ (a b : Qu) : Bool := a.tk == b.tk && (a.x == b.x && (a.y == b.y && a.sz == b.sz))
theorem eqQ_iff {a b : Qu} : eqQ a b = true ↔ a = b := by
  constructor
  · intro h
    simp [eqQ] at h
    cases a; cases b; simp_all
  · rintro rfl; simp [eqQ]
set_option maxHeartbeats 1000000 in
theorem eqQ_in (a b : Qu) (w : World) : (Op.equalIn 10000 26 (.agg #[.int .i64 a.tk, .int .i64 a.x, .int .i64 a.y, .int .i64 a.sz]) (.agg #[.int .i64 b.tk, .int .i64 b.x, .int .i64 b.y, .int .i64 b.sz])).run Try.prog w = .ok (eqQ a b) w := by
  rw [show (10000 : Nat) = 9999 + 1 from rfl, run_equalIn_struct w 9999 26 _ _ (by kernel_rfl) (by kernel_rfl)]
  have u3 := Try.underlying3
  have a3 := Try.isAgg3
  have z3 := Try.sizeOf3
  simp only [Program.fieldsOf, Try.underlying26]
  go_simp
  by_cases h1 : a.tk = b.tk <;> by_cases h2 : a.x = b.x <;> by_cases h3 : a.y = b.y <;> by_cases h4 : a.sz = b.sz <;> simp [eqQ, h1, h2, h3, h4]
theorem eqQ_guard (x y : Operand) (xs ys : Array Value) (w : World) : (eqGuard .eql 26 x y (.agg xs) (.agg ys)).run Try.prog w = .ok () w := run_eqGuard_agg w .eql 26 x y xs ys (by kernel_rfl)
/-- Four integers in one value: the law below asks less of the values' form than the library's own on '==' at structs, so it is tried ahead of that. -/
def isQ (x : Value) : Bool := match x with
  | .agg xs => match xs.toList with
    | [.int .i64 _, .int .i64 _, .int .i64 _, .int .i64 _] => true
    | _ => false
  | _ => false
def quOf (x : Value) : Qu := match x with
  | .agg xs => match xs.toList with
    | [.int .i64 a, .int .i64 b, .int .i64 c, .int .i64 d] => ⟨a, b, c, d⟩
    | _ => ⟨0, 0, 0, 0⟩
  | _ => ⟨0, 0, 0, 0⟩
theorem isQ_mk (a b c d : Int) : isQ (.agg #[.int .i64 a, .int .i64 b, .int .i64 c, .int .i64 d]) = true := by simp [isQ]
theorem eqQ_mk (a b : Qu) : eqQ (quOf (.agg #[.int .i64 a.tk, .int .i64 a.x, .int .i64 a.y, .int .i64 a.sz])) (quOf (.agg #[.int .i64 b.tk, .int .i64 b.x, .int .i64 b.y, .int .i64 b.sz])) = eqQ a b := by simp [quOf]
theorem isQ_of {x : Value} (h : isQ x = true) : ∃ a : Qu, x = .agg #[.int .i64 a.tk, .int .i64 a.x, .int .i64 a.y, .int .i64 a.sz] := by
  unfold isQ at h
  split at h
  · split at h
    · rename_i xs _ a b c d hx
      refine ⟨⟨a, b, c, d⟩, ?_⟩
      congr 1
      exact Array.toList_inj.1 hx
    · simp at h
  · simp at h
theorem eqQ_run {P : Program} (t : TypeId) (x y : Value) (w : World) (hp : P = Try.prog) (ht : t = 26) (hx : isQ x = true) (hy : isQ y = true) : (binOp .eql t x y).run P w = .ok (.bool (eqQ (quOf x) (quOf y))) w := by
  subst hp ht
  obtain ⟨a, rfl⟩ := isQ_of hx
  obtain ⟨b, rfl⟩ := isQ_of hy
  rw [run_eql_struct, eqQ_in, eqQ_mk]; rfl
attribute [local go_sem] ext_cell ext_frozen eqQ_run eqQ_guard isQ_mk eqQ_mk

theorem cell4Z {w W : World} {b : Nat} {m : Qu} (hb : b < w.heap.size) (h : w.cell? ⟨b, 0, none⟩ = some (.int .i64 m.tk) ∧ w.cell? ⟨b, 1, none⟩ = some (.int .i64 m.x) ∧ w.cell? ⟨b, 2, none⟩ = some (.int .i64 m.y) ∧ w.cell? ⟨b, 3, none⟩ = some (.int .i64 m.sz)) (hW : Below w.heap.size w W) :
    W.cell? ⟨b, 0, none⟩ = some (.int .i64 m.tk) ∧ W.cell? ⟨b, 1, none⟩ = some (.int .i64 m.x) ∧ W.cell? ⟨b, 2, none⟩ = some (.int .i64 m.y) ∧ W.cell? ⟨b, 3, none⟩ = some (.int .i64 m.sz) :=
  ⟨(hW.cell (p := ⟨b, 0, none⟩) hb).trans h.1, (hW.cell (p := ⟨b, 1, none⟩) hb).trans h.2.1, (hW.cell (p := ⟨b, 2, none⟩) hb).trans h.2.2.1, (hW.cell (p := ⟨b, 3, none⟩) hb).trans h.2.2.2⟩
theorem box4Z (w : World) (T : Nat) (m : Qu) : (w.alloc (.cells #[.int .i64 m.tk, .int .i64 m.x, .int .i64 m.y, .int .i64 m.sz] T)).cell? ⟨w.heap.size, 0, none⟩ = some (.int .i64 m.tk) ∧ (w.alloc (.cells #[.int .i64 m.tk, .int .i64 m.x, .int .i64 m.y, .int .i64 m.sz] T)).cell? ⟨w.heap.size, 1, none⟩ = some (.int .i64 m.x) ∧
    (w.alloc (.cells #[.int .i64 m.tk, .int .i64 m.x, .int .i64 m.y, .int .i64 m.sz] T)).cell? ⟨w.heap.size, 2, none⟩ = some (.int .i64 m.y) ∧ (w.alloc (.cells #[.int .i64 m.tk, .int .i64 m.x, .int .i64 m.y, .int .i64 m.sz] T)).cell? ⟨w.heap.size, 3, none⟩ = some (.int .i64 m.sz) := by
  simp [go_sem]
theorem own_some {w' : World} {base E K n c g0 q : Nat} {A : Option Addr} {xs : List Value} (h : w'.ownsRow base E K (.slice A n c) n xs) (hl : some g0 = (Value.slice A n c).ownBlock ∨ some q = (Value.slice A n c).ownBlock) : ∃ g, A = some ⟨g, 0, none⟩ := by
  rcases own_form h with ⟨rfl, _, _⟩ | ⟨g, rfl⟩
  · simp [Value.ownBlock] at hl
  · exact ⟨g, rfl⟩

def AF (A : Option Addr) (n c : Nat) : Prop := (A = none ∧ n = 0 ∧ c = 0) ∨ ∃ b off, A = some ⟨b, off, none⟩
theorem af_own {w : World} {base E K n c : Nat} {A : Option Addr} {xs : List Value} (h : w.ownsRow base E K (.slice A n c) n xs) : AF A n c := by
  rcases own_form h with h | ⟨g, rfl⟩
  · exact .inl h
  · exact .inr ⟨g, 0, rfl⟩
set_option maxRecDepth 100000 in
set_option maxHeartbeats 4000000 in
theorem l16Put_any (l : List Qu) (q : Qu) (A : Option Addr) (c : Nat) (w : World) (hr : RowAt 4 encQu w A l) (haf : AF A l.length c) (hcap : l.length ≤ c) (hlen : l.length ≤ 2097152) :
    Calls Try.prog 84 #[.slice A l.length c, .agg #[.int .i64 q.tk, .int .i64 q.x, .int .i64 q.y, .int .i64 q.sz]] w fun e w' => ∃ A' c', e = .returned (.slice A' (putQ q l).length c') ∧ Below w.heap.size w w' ∧
      ((A' = A ∧ c' = c ∧ putQ q l = l) ∨ w'.ownsRow w.heap.size 26 4 (.slice A' (putQ q l).length c') (putQ q l).length ((putQ q l).flatMap encQu)) := by
  have HR0 := Lib.hid hr
  have HAF := Lib.hid haf
  have HB0 := Lib.hid (box4Z w 26 q)
  clear hr haf
  go_enter Try.func84, Try.ntmps84
  go_wp2_with fail
  go_loopw [5] (fun i wr => ∃ k : Nat, k ≤ l.length ∧ i = .int .i64 k ∧ Hid (∀ i, i < k → ∀ y, l[i]? = some y → ltQu y q = true) ∧ Below (w.alloc (.cells #[.int .i64 q.tk, .int .i64 q.x, .int .i64 q.y, .int .i64 q.sz] 26)).heap.size (w.alloc (.cells #[.int .i64 q.tk, .int .i64 q.x, .int .i64 q.y, .int .i64 q.sz] 26)) wr) (fun i _ => l.length - (intOf i).toNat)
  case atStart => exact ⟨0, Nat.zero_le _, rfl, Lib.hid (fun i h => absurd h (by omega)), bref _⟩
  case round =>
    obtain ⟨k, hk, rfl, HU, hbr⟩ := hrel
    have i0 := ib0 k
    have hbw := bstep (balloc (bref w) _) hbr
    have hs := hbr.size
    simp only [World.size_alloc] at hs
    have s1 : w.heap.size < wr.heap.size := by omega
    obtain ⟨x0, x1, x2, x3⟩ := cell4Z (by simp) HB0.out hbr
    by_cases hlt : k < l.length
    · obtain ⟨m, hm⟩ := some_get hlt
      have i1 := ib1 hlt
      obtain ⟨b, off, rfl, hb, q0, q1, q2, q3⟩ := (HR0.out.below hbw).qu hm
      have HM := Lib.hid hm
      clear hm
      cases h2 : ltQu m q
      · go_wp2_with fail
        (refine wp_region_calm (by kernel_rfl) (by kernel_rfl) ?_; (repeat (go_big_quiet_step (((go_at_call 105; exact calm_of (l16Before_any m q _)))))); refine wpQuiet_nil ?_; intro xw; have hb1 := xw.is; generalize xw.w = v1 at hb1 ⊢; clear xw)
        have hbw1 := bstep hbw hb1
        obtain ⟨x0, x1, x2, x3⟩ := cell4Z (by simp) HB0.out (bstep hbr hb1)
        have s2 : w.heap.size < v1.heap.size := Nat.lt_of_lt_of_le s1 hb1.size
        obtain ⟨b', off', e, hb', q0, q1, q2, q3⟩ := (HR0.out.below hbw1).qu HM.out
        cases e
        cases h3 : eqQ m q
        · have hne : m ≠ q := fun e => by rw [eqQ_iff.2 e] at h3; cases h3
          have HF := Lib.hid (putQ_mid HM.out HU.out h2 hne)
          go_wp2_with fail
          (refine wp_region_calm (by kernel_rfl) (by kernel_rfl) ?_; (repeat (go_big_quiet_step ((fail)))); refine wpQuiet_nil ?_; intro xw; have hb2 := xw.is; generalize xw.w = v2 at hb2 ⊢; clear xw)
          have hbw2 := bstep hbw1 hb2
          have k1 : (k : Int) ≤ (c : Int) := by omega
          have k2 : (k : Int) ≤ (l.length : Int) := by omega
          have k3 : (l.length : Int) ≤ (c : Int) := by omega
          have k4 : ¬ c = k := by omega
          have HS2 := Lib.hid (Nat.lt_of_lt_of_le s2 hb2.size)
          have HX2 := Lib.hid (cell4Z (by simp) HB0.out (bstep (bstep hbr hb1) hb2))
          have HR := Lib.hid (HR0.out.below hbw2)
          have HK := Lib.hid (show ((l.take k).flatMap encQu).length = k * 4 by rw [flat_len encQu_len, List.length_take, Nat.min_eq_left hk])
          have HN := Lib.hid (show k + 1 + (l.length - k) = (putQ q l).length by rw [HF.out]; simp; omega)
          have HY := Lib.hid (show (l.take k).flatMap encQu ++ encQu q ++ (l.drop k).flatMap encQu = (putQ q l).flatMap encQu by rw [HF.out]; simp)
          have HK2 := Lib.hid (show ((l.drop k).flatMap encQu).length = (l.length - k) * 4 by rw [flat_len encQu_len, List.length_drop])
          have hNl : (putQ q l).length ≤ 4194304 := by have := (putQ_len q l).1; omega
          clear q0 q1 q2 q3 x0 x1 x2 x3 h2 h3
          go_wp2_with fail
          go_region_held3 (fun w' => w'.cell? ⟨w.heap.size, 0, none⟩ = some (.int .i64 q.tk) ∧ w'.cell? ⟨w.heap.size, 1, none⟩ = some (.int .i64 q.x) ∧ w'.cell? ⟨w.heap.size, 2, none⟩ = some (.int .i64 q.y) ∧ w'.cell? ⟨w.heap.size, 3, none⟩ = some (.int .i64 q.sz)) (exact cell4Z HS2.out HX2.out (by repeat (first | exact bref _ | exact hbI1 | exact hbI2 | exact hbI3 | (refine balloc ?_ _) | (refine bdrew ?_) | (refine bdrewN ?_ _)))) (first
            | ((refine step_appS (by rfl) (.tmp 33) (.tmp 36) 31 26 4 32 _ (by rfl) Try.underlying31 infoQu rfl (by decide) v2.heap.size _ 0 [] (by rfl) (own_empty (by first | exact heap_new1 _ _ | exact heap_new2 _ _ _ | exact heap_old2 _ _ _) (by first | exact Nat.le_refl _ | (simp; done))) _ _ _ ((l.take k).flatMap encQu) (by rfl) HK.out ((RowAt.below (HR.out.takeR k) (by repeat (first | exact bref _ | exact hbI1 | exact hbI2 | exact hbI3 | (refine balloc ?_ _) | (refine bdrew ?_) | (refine bdrewN ?_ _)))).news encQu_len) (cellsQu_one _) k (Nat.zero_add _) _ (List.nil_append _) (by omega) (by decide) (Below.size (B := v2.heap.size) (by repeat (first | exact bref _ | exact hbI1 | exact hbI2 | exact hbI3 | (refine balloc ?_ _) | (refine bdrew ?_) | (refine bdrewN ?_ _)))) ?_); intro A1 c1 w1 hoI1 hgI1 hlI1; have hbI1 : Below v2.heap.size v2 w1 := bgrown (by repeat (first | exact bref _ | exact hbI1 | exact hbI2 | exact hbI3 | (refine balloc ?_ _) | (refine bdrew ?_) | (refine bdrewN ?_ _))) hgI1 (by intro j hj; simp [Value.ownBlock] at hj; omega))
            | ((refine step_appS (by rfl) (.tmp 37) (.tmp 39) 31 26 4 32 _ (by rfl) Try.underlying31 infoQu rfl (by decide) v2.heap.size (.slice A1 k c1) k _ (by rfl) (by first | exact hoI1 | exact hoI1.alloc _ | exact own_drew (hoI1.alloc _)) _ 1 _ (encQu q) (by rfl) rfl (news1 (by first | exact heap_new1 _ _ | exact (hgI1.block _ (by simp <;> omega) (by simp [Value.ownBlock] <;> omega)).trans (heap_new2 _ _ _) | exact (hgI1.block _ (by simp <;> omega) (by simp [Value.ownBlock] <;> omega)).trans (heap_old2 _ _ _)) rfl) (encQu_one q) (k + 1) rfl _ rfl (by omega) (by decide) (Below.size (B := v2.heap.size) (by repeat (first | exact bref _ | exact hbI1 | exact hbI2 | exact hbI3 | (refine balloc ?_ _) | (refine bdrew ?_) | (refine bdrewN ?_ _)))) ?_); intro A2 c2 w2 hoI2 hgI2 hlI2; have hbI2 : Below v2.heap.size v2 w2 := bgrown (by repeat (first | exact bref _ | exact hbI1 | exact hbI2 | exact hbI3 | (refine balloc ?_ _) | (refine bdrew ?_) | (refine bdrewN ?_ _))) hgI2 (row_mine hoI1))
            | ((refine step_appS (by rfl) (.tmp 40) (.tmp 43) 31 26 4 32 _ (by rfl) Try.underlying31 infoQu rfl (by decide) v2.heap.size (.slice A2 (k + 1) c2) (k + 1) _ (by rfl) (by first | exact hoI2 | exact own_drew hoI2) _ _ _ ((l.drop k).flatMap encQu) (by rfl) HK2.out ((RowAt.below (HR.out.drop k) (by repeat (first | exact bref _ | exact hbI1 | exact hbI2 | exact hbI3 | (refine balloc ?_ _) | (refine bdrew ?_) | (refine bdrewN ?_ _)))).news encQu_len) (cellsQu_one _) ((putQ q l).length) HN.out _ HY.out (by have := HN.out; omega) (by decide) (Below.size (B := v2.heap.size) (by repeat (first | exact bref _ | exact hbI1 | exact hbI2 | exact hbI3 | (refine balloc ?_ _) | (refine bdrew ?_) | (refine bdrewN ?_ _)))) ?_); intro A3 c3 w3 hoI3 hgI3 hlI3; have hbI3 : Below v2.heap.size v2 w3 := bgrown (by repeat (first | exact bref _ | exact hbI1 | exact hbI2 | exact hbI3 | (refine balloc ?_ _) | (refine bdrew ?_) | (refine bdrewN ?_ _))) hgI3 (row_mine hoI2))
            | fail)
          all_goals
            go_wp2
            go_ret
            exact ⟨A3, c3, rfl, bstep hbw2 hbI3, .inr (own_base hoI3 hbw2.size)⟩
        · have he := eqQ_iff.1 h3
          subst he
          have HF := Lib.hid (putQ_same HM.out HU.out)
          clear HM
          go_wp2_with fail
          (refine wp_region_calm (by kernel_rfl) (by kernel_rfl) ?_; (repeat (go_big_quiet_step ((fail)))); refine wpQuiet_nil ?_; intro xw; have hb2 := xw.is; generalize xw.w = v2 at hb2 ⊢; clear xw)
          go_wp2
          go_ret
          rw [HF.out]
          exact ⟨_, _, rfl, bstep hbw1 hb2, .inl ⟨rfl, rfl, rfl⟩⟩
      · go_wp2_with fail
        (refine wp_region_calm (by kernel_rfl) (by kernel_rfl) ?_; (repeat (go_big_quiet_step (((go_at_call 105; exact calm_of (l16Before_any m q _)))))); refine wpQuiet_nil ?_; intro xw; have hb1 := xw.is; generalize xw.w = v1 at hb1 ⊢; clear xw)
        go_wp2
        go_roundw
        case rel => exact ⟨k + 1, by omega, by go_num, Lib.hid (fun i hi y hy => by
            rcases Nat.lt_or_ge i k with h | h
            · exact HU.out i h y hy
            · obtain rfl : i = k := by omega
              rw [HM.out] at hy
              cases hy
              exact h2), bstep hbr hb1⟩
        case measure => simp [intOf]; omega
    · obtain rfl : k = l.length := by omega
      have HF := Lib.hid (putQ_end HU.out)
      have hNl : (putQ q l).length ≤ 4194304 := by have := (putQ_len q l).1; omega
      rcases HAF.out with ⟨rfl, h0, rfl⟩ | ⟨b, off, rfl⟩
      · obtain rfl : l = [] := List.eq_nil_of_length_eq_zero h0
        have e0 : ((0 : Nat) : Int) = 0 := rfl
        simp only [List.length_nil, e0]
        go_wp2_with fail
        (refine wp_region_calm (by kernel_rfl) (by kernel_rfl) ?_; (repeat (go_big_quiet_step ((fail)))); refine wpQuiet_nil ?_; intro xw; have hb1 := xw.is; generalize xw.w = v1 at hb1 ⊢; clear xw)
        go_wp2_with fail
        (refine wp_region_calm (by kernel_rfl) (by kernel_rfl) ?_; (repeat (go_big_quiet_step ((fail)))); refine wpQuiet_nil ?_; intro xw; have hb2 := xw.is; generalize xw.w = v2 at hb2 ⊢; clear xw)
        have hbw2 := bstep (bstep hbw hb1) hb2
        have HS2 := Lib.hid (Nat.lt_of_lt_of_le s1 (bstep hb1 hb2).size)
        have HX2 := Lib.hid (cell4Z (by simp) HB0.out (bstep (bstep hbr hb1) hb2))
        have HN := Lib.hid (show 0 + 1 + 0 = (putQ q []).length from rfl)
        have HY := Lib.hid (show ([] : List Value) ++ encQu q ++ [] = (putQ q []).flatMap encQu by simp [putQ])
        clear x0 x1 x2 x3
        have s2 := HS2.out
        go_wp2_with fail
        go_region_held3 (fun w' => w'.cell? ⟨w.heap.size, 0, none⟩ = some (.int .i64 q.tk) ∧ w'.cell? ⟨w.heap.size, 1, none⟩ = some (.int .i64 q.x) ∧ w'.cell? ⟨w.heap.size, 2, none⟩ = some (.int .i64 q.y) ∧ w'.cell? ⟨w.heap.size, 3, none⟩ = some (.int .i64 q.sz)) (exact cell4Z HS2.out HX2.out (by repeat (first | exact bref _ | exact hbI1 | exact hbI2 | exact hbI3 | (refine balloc ?_ _) | (refine bdrew ?_) | (refine bdrewN ?_ _)))) (first
            | ((refine step_appS (by rfl) (.tmp 33) (.tmp 36) 31 26 4 32 _ (by rfl) Try.underlying31 infoQu rfl (by decide) v2.heap.size _ 0 [] (by rfl) (own_empty (by first | exact heap_new1 _ _ | exact heap_new2 _ _ _ | exact heap_old2 _ _ _) (by first | exact Nat.le_refl _ | (simp; done))) _ _ _ [] (by rfl) rfl (fun j u hj => by simp at hj) (fun u hu => by simp at hu) 0 (by rfl) [] rfl (by omega) (by decide) (Below.size (B := v2.heap.size) (by repeat (first | exact bref _ | exact hbI1 | exact hbI2 | exact hbI3 | (refine balloc ?_ _) | (refine bdrew ?_) | (refine bdrewN ?_ _)))) ?_); intro A1 c1 w1 hoI1 hgI1 hlI1; have hbI1 : Below v2.heap.size v2 w1 := bgrown (by repeat (first | exact bref _ | exact hbI1 | exact hbI2 | exact hbI3 | (refine balloc ?_ _) | (refine bdrew ?_) | (refine bdrewN ?_ _))) hgI1 (by intro j hj; simp [Value.ownBlock] at hj; omega))
            | ((refine step_appS (by rfl) (.tmp 37) (.tmp 39) 31 26 4 32 _ (by rfl) Try.underlying31 infoQu rfl (by decide) v2.heap.size (.slice A1 0 c1) 0 _ (by rfl) (by first | exact hoI1 | exact hoI1.alloc _ | exact own_drew (hoI1.alloc _)) _ 1 _ (encQu q) (by rfl) rfl (news1 (by first | exact heap_new1 _ _ | exact (hgI1.block _ (by simp <;> omega) (by simp [Value.ownBlock] <;> omega)).trans (heap_new2 _ _ _) | exact (hgI1.block _ (by simp <;> omega) (by simp [Value.ownBlock] <;> omega)).trans (heap_old2 _ _ _)) rfl) (encQu_one q) (0 + 1) rfl _ rfl (by omega) (by decide) (Below.size (B := v2.heap.size) (by repeat (first | exact bref _ | exact hbI1 | exact hbI2 | exact hbI3 | (refine balloc ?_ _) | (refine bdrew ?_) | (refine bdrewN ?_ _)))) ?_); intro A2 c2 w2 hoI2 hgI2 hlI2; have hbI2 : Below v2.heap.size v2 w2 := bgrown (by repeat (first | exact bref _ | exact hbI1 | exact hbI2 | exact hbI3 | (refine balloc ?_ _) | (refine bdrew ?_) | (refine bdrewN ?_ _))) hgI2 (row_mine hoI1))
            | ((refine step_appS (by rfl) (.tmp 40) (.tmp 43) 31 26 4 32 _ (by rfl) Try.underlying31 infoQu rfl (by decide) v2.heap.size (.slice A2 (0 + 1) c2) (0 + 1) _ (by rfl) (by first | exact hoI2 | exact own_drew hoI2) _ _ _ [] (by rfl) (by simp) (fun j u hj => by simp at hj) (fun u hu => by simp at hu) ((putQ q []).length) (by first | exact HN.out | (simp; done) | (have := HN.out; simpa using this)) _ HY.out (by have := HN.out; omega) (by decide) (Below.size (B := v2.heap.size) (by repeat (first | exact bref _ | exact hbI1 | exact hbI2 | exact hbI3 | (refine balloc ?_ _) | (refine bdrew ?_) | (refine bdrewN ?_ _)))) ?_); intro A3 c3 w3 hoI3 hgI3 hlI3; have hbI3 : Below v2.heap.size v2 w3 := bgrown (by repeat (first | exact bref _ | exact hbI1 | exact hbI2 | exact hbI3 | (refine balloc ?_ _) | (refine bdrew ?_) | (refine bdrewN ?_ _))) hgI3 (row_mine hoI2))
            | fail)
        all_goals
          go_wp2
          go_ret
          exact ⟨A3, c3, rfl, bstep hbw2 hbI3, .inr (own_base hoI3 hbw2.size)⟩
      · have k1 : (l.length : Int) ≤ (c : Int) := by omega
        go_wp2_with fail
        (refine wp_region_calm (by kernel_rfl) (by kernel_rfl) ?_; (repeat (go_big_quiet_step ((fail)))); refine wpQuiet_nil ?_; intro xw; have hb1 := xw.is; generalize xw.w = v1 at hb1 ⊢; clear xw)
        go_wp2_with fail
        (refine wp_region_calm (by kernel_rfl) (by kernel_rfl) ?_; (repeat (go_big_quiet_step ((fail)))); refine wpQuiet_nil ?_; intro xw; have hb2 := xw.is; generalize xw.w = v2 at hb2 ⊢; clear xw)
        have hbw2 := bstep (bstep hbw hb1) hb2
        have HS2 := Lib.hid (Nat.lt_of_lt_of_le s1 (bstep hb1 hb2).size)
        have HX2 := Lib.hid (cell4Z (by simp) HB0.out (bstep (bstep hbr hb1) hb2))
        have HR := Lib.hid (HR0.out.below hbw2)
        have HK := Lib.hid (show (l.flatMap encQu).length = l.length * 4 by rw [flat_len encQu_len])
        have HN := Lib.hid (show l.length + 1 + 0 = (putQ q l).length by rw [HF.out]; simp)
        have HY := Lib.hid (show l.flatMap encQu ++ encQu q ++ [] = (putQ q l).flatMap encQu by rw [HF.out]; simp)
        clear x0 x1 x2 x3
        have s2 := HS2.out
        obtain ⟨x0, x1, x2, x3⟩ := HX2.out
        by_cases hck : c = l.length
        all_goals
          go_wp2_with fail
          go_region_held3 (fun w' => w'.cell? ⟨w.heap.size, 0, none⟩ = some (.int .i64 q.tk) ∧ w'.cell? ⟨w.heap.size, 1, none⟩ = some (.int .i64 q.x) ∧ w'.cell? ⟨w.heap.size, 2, none⟩ = some (.int .i64 q.y) ∧ w'.cell? ⟨w.heap.size, 3, none⟩ = some (.int .i64 q.sz)) (exact cell4Z HS2.out HX2.out (by repeat (first | exact bref _ | exact hbI1 | exact hbI2 | exact hbI3 | (refine balloc ?_ _) | (refine bdrew ?_) | (refine bdrewN ?_ _)))) (first
            | ((refine step_appS (by rfl) (.tmp 33) (.tmp 36) 31 26 4 32 _ (by rfl) Try.underlying31 infoQu rfl (by decide) v2.heap.size _ 0 [] (by rfl) (own_empty (by first | exact heap_new1 _ _ | exact heap_new2 _ _ _ | exact heap_old2 _ _ _) (by first | exact Nat.le_refl _ | (simp; done))) _ _ _ (l.flatMap encQu) (by rfl) HK.out ((RowAt.below HR.out (by repeat (first | exact bref _ | exact hbI1 | exact hbI2 | exact hbI3 | (refine balloc ?_ _) | (refine bdrew ?_) | (refine bdrewN ?_ _)))).news encQu_len) (cellsQu_one _) l.length (Nat.zero_add _) _ (List.nil_append _) (by omega) (by decide) (Below.size (B := v2.heap.size) (by repeat (first | exact bref _ | exact hbI1 | exact hbI2 | exact hbI3 | (refine balloc ?_ _) | (refine bdrew ?_) | (refine bdrewN ?_ _)))) ?_); intro A1 c1 w1 hoI1 hgI1 hlI1; have hbI1 : Below v2.heap.size v2 w1 := bgrown (by repeat (first | exact bref _ | exact hbI1 | exact hbI2 | exact hbI3 | (refine balloc ?_ _) | (refine bdrew ?_) | (refine bdrewN ?_ _))) hgI1 (by intro j hj; simp [Value.ownBlock] at hj; omega))
            | ((refine step_appS (by rfl) (.tmp 37) (.tmp 39) 31 26 4 32 _ (by rfl) Try.underlying31 infoQu rfl (by decide) v2.heap.size (.slice A1 l.length c1) l.length _ (by rfl) (by first | exact hoI1 | exact hoI1.alloc _ | exact own_drew (hoI1.alloc _)) _ 1 _ (encQu q) (by rfl) rfl (news1 (by first | exact heap_new1 _ _ | exact (hgI1.block _ (by simp <;> omega) (by simp [Value.ownBlock] <;> omega)).trans (heap_new2 _ _ _) | exact (hgI1.block _ (by simp <;> omega) (by simp [Value.ownBlock] <;> omega)).trans (heap_old2 _ _ _)) rfl) (encQu_one q) (l.length + 1) rfl _ rfl (by omega) (by decide) (Below.size (B := v2.heap.size) (by repeat (first | exact bref _ | exact hbI1 | exact hbI2 | exact hbI3 | (refine balloc ?_ _) | (refine bdrew ?_) | (refine bdrewN ?_ _)))) ?_); intro A2 c2 w2 hoI2 hgI2 hlI2; have hbI2 : Below v2.heap.size v2 w2 := bgrown (by repeat (first | exact bref _ | exact hbI1 | exact hbI2 | exact hbI3 | (refine balloc ?_ _) | (refine bdrew ?_) | (refine bdrewN ?_ _))) hgI2 (row_mine hoI1))
            | ((refine step_appS (by rfl) (.tmp 40) (.tmp 43) 31 26 4 32 _ (by rfl) Try.underlying31 infoQu rfl (by decide) v2.heap.size (.slice A2 (l.length + 1) c2) (l.length + 1) _ (by rfl) (by first | exact hoI2 | exact own_drew hoI2) _ _ _ [] (by rfl) (by simp) (fun j u hj => by simp at hj) (fun u hu => by simp at hu) ((putQ q l).length) (by first | exact HN.out | (simp; done) | (have := HN.out; simpa using this)) _ HY.out (by have := HN.out; omega) (by decide) (Below.size (B := v2.heap.size) (by repeat (first | exact bref _ | exact hbI1 | exact hbI2 | exact hbI3 | (refine balloc ?_ _) | (refine bdrew ?_) | (refine bdrewN ?_ _)))) ?_); intro A3 c3 w3 hoI3 hgI3 hlI3; have hbI3 : Below v2.heap.size v2 w3 := bgrown (by repeat (first | exact bref _ | exact hbI1 | exact hbI2 | exact hbI3 | (refine balloc ?_ _) | (refine bdrew ?_) | (refine bdrewN ?_ _))) hgI3 (row_mine hoI2))
            | fail)
          all_goals
            go_wp2
            go_ret
            exact ⟨A3, c3, rfl, bstep hbw2 hbI3, .inr (own_base hoI3 hbw2.size)⟩
end Go.Proofs.Ytlinjkfbcekepaa
