/-
  The first packet with a number; the packets for which a condition holds.
-/
import Derived.Test.YtifkakpiipoadaaPkGood
namespace Go.Proofs.Ytifkakpiipoadaa
set_option linter.unusedVariables false
set_option linter.unusedSimpArgs false
set_option linter.unnecessarySimpa false
open Go.RowKit
attribute [local go_sem] ext_cell ext_frozen

theorem PkAt.row {w : World} {A : Option Addr} {l : List Pk} (h : PkAt w A l) : RowAt 2 encPk w A l := h.1
def firstP (n : Int) (l : List PP) : Int := idxL (fun p => p.1 == n) l 0
theorem idxL_map {α β : Type} (f : α → β) (p : β → Bool) : ∀ (l : List α) (i : Nat), idxL p (l.map f) i = idxL (fun a => p (f a)) l i
  | [], _ => rfl
  | x :: l, i => by simp only [List.map_cons, idxL, idxL_map f p l (i + 1)]
theorem firstP_pl (n : Int) (l : List Pk) : firstP n (plS l) = idxL (fun p : Pk => p.no == n) l 0 := idxL_map Pk.pl _ l 0
theorem idxL_bd {α : Type} (p : α → Bool) : ∀ (l : List α) (i : Nat), -1 ≤ idxL p l i ∧ idxL p l i < i + l.length ∧ (idxL p l i = -1 ∨ (i : Int) ≤ idxL p l i)
  | [], i => by simp [idxL]; omega
  | x :: l, i => by
    have ih := idxL_bd p l (i + 1)
    simp only [idxL, List.length_cons]
    split
    · omega
    · omega
theorem idxL_le {α : Type} (p : α → Bool) : ∀ (l : List α) (i k : Nat) (m : α), l[k]? = some m → p m = true → (i : Int) ≤ idxL p l i ∧ idxL p l i ≤ i + k
  | [], _, _, _, h, _ => by simp at h
  | x :: l, i, 0, m, h, hp => by
    simp at h
    subst h
    simp [idxL, hp]
  | x :: l, i, k + 1, m, h, hp => by
    have ih := idxL_le p l (i + 1) k m (by simpa using h) hp
    simp only [idxL]
    split
    · omega
    · omega
theorem idxL_get {α : Type} (p : α → Bool) : ∀ (l : List α) (i : Nat), 0 ≤ idxL p l i → ∃ (j : Nat) (m : α), idxL p l i = i + j ∧ l[j]? = some m ∧ p m = true
  | [], i, h => by simp [idxL] at h
  | x :: l, i, h => by
    simp only [idxL] at h ⊢
    by_cases hx : p x = true
    · rw [if_pos hx]; exact ⟨0, x, by omega, rfl, hx⟩
    · rw [if_neg hx] at h ⊢
      obtain ⟨j, m, e, hm, hp⟩ := idxL_get p l (i + 1) h
      exact ⟨j + 1, m, by omega, by simpa using hm, hp⟩
theorem first_le {l : List PP} {k : Nat} {p : PP} (h : l[k]? = some p) : 0 ≤ firstP p.1 l ∧ firstP p.1 l ≤ k := by
  have := idxL_le (fun q : PP => q.1 == p.1) l 0 k p h (by simp)
  unfold firstP
  omega
theorem first_get {n : Int} {l : List PP} (h : 0 ≤ firstP n l) : ∃ (j : Nat) (m : PP), firstP n l = j ∧ l[j]? = some m ∧ m.1 = n := by
  obtain ⟨j, m, e, hm, hp⟩ := idxL_get (fun q : PP => q.1 == n) l 0 h
  exact ⟨j, m, by unfold firstP; omega, hm, by simpa using hp⟩

set_option maxHeartbeats 1000000 in
theorem firstClos_any (n : Int) (m : Pk) (bx : Nat) (w : World) (c0 : w.cell? ⟨bx, 0, none⟩ = some (.int .i64 n)) :
    Calls Try.prog 100 #[.agg #[.int .i64 m.no, .slice m.A m.sm.length m.c], .pointer (some ⟨bx, 0, none⟩)] w fun e w' => e = .returned (.bool (m.no == n)) ∧ Below w.heap.size w w' := by
  have l1 : bx < w.heap.size := World.block_lt_of_cell? w ⟨bx, 0, none⟩ c0
  go_enter Try.func100, Try.ntmps100
  go_wp2_with fail
  go_ret
  exact ⟨rfl, (by repeat (first | exact bref _ | (refine balloc ?_ _) | (refine bdrew ?_) | (refine bdrewN ?_ _) | (refine bstep ?_ (by assumption))))⟩
set_option maxHeartbeats 1000000 in
theorem firstWith_any (l : List Pk) (A : Option Addr) (c : Nat) (n : Int) (w : World) (hr : RowAt 2 encPk w A l) (hlen : l.length ≤ 2097152) :
    Calls Try.prog 67 #[.slice A l.length c, .int .i64 n] w fun e w' => e = .returned (.int .i64 (firstP n (plS l))) ∧ Below w.heap.size w w' := by
  have hmf : ∀ (fn : Fn) (first cap : Array Value) (w : World), (Instr.makeFunc fn first cap).run Try.prog w = .ok (.func fn first cap) w := fun _ _ _ _ => rfl
  have HR := Lib.hid hr
  rw [firstP_pl]
  clear hr
  go_enter Try.func67, Try.ntmps67
  go_wp2_with fail
  refine (indexFuncPk_any l _ _ _ _ (fun p => p.no == n) (enters_of Try.func100 (by kernel_rfl) rfl) _ (HR.out.below (balloc (bref _) _)) hlen ?_).mono ?_
  · intro w1 hb1 m _
    exact firstClos_any n m w.heap.size w1 ((hb1.cell (p := ⟨w.heap.size, 0, none⟩) (by simp)).trans (by simp [go_sem]))
  · rintro e w1 ⟨rfl, hb1⟩
    clear hmf HR
    go_wp2
    go_ret
    exact ⟨rfl, (by repeat (first | exact bref _ | (refine balloc ?_ _) | (refine bdrew ?_) | (refine bdrewN ?_ _) | (refine bstep ?_ (by assumption))))⟩
set_option maxHeartbeats 1000000 in
theorem l15First_any (l : List Pk) (A : Option Addr) (c : Nat) (n : Int) (w : World) (hr : RowAt 2 encPk w A l) (hlen : l.length ≤ 2097152) :
    Calls Try.prog 64 #[.slice A l.length c, .int .i64 n] w fun e w' => e = .returned (.int .i64 (firstP n (plS l))) ∧ w = w' := by
  have HR := Lib.hid hr
  rw [firstP_pl]
  clear hr
  go_enter Try.func64, Try.ntmps64
  go_wp2_with fail
  go_loop [5] (fun i => ∃ k : Nat, k ≤ l.length ∧ i = .int .i64 k ∧ Hid (idxL (fun p : Pk => p.no == n) (l.drop k) k = idxL (fun p : Pk => p.no == n) l 0)) (fun i => l.length - (intOf i).toNat)
  case atStart => exact ⟨0, Nat.zero_le _, rfl, rfl⟩
  case round =>
    obtain ⟨k, hk, rfl, HI⟩ := hrel
    by_cases hlt : k < l.length
    · obtain ⟨m, hm⟩ := some_get hlt
      have i0 := ib0 k
      have i1 := ib1 hlt
      obtain ⟨b, off, rfl, hb, q0, q1⟩ := HR.out.pkc hm
      have HD := Lib.hid (drop_cons hm)
      clear hm
      cases hc : (m.no == n)
      · have HF := Lib.hid (show idxL (fun p : Pk => p.no == n) (l.drop (k + 1)) (k + 1) = idxL (fun p : Pk => p.no == n) l 0 by rw [← HI.out, HD.out]; simp [idxL, hc])
        go_wp2
        go_round
        case rel => exact ⟨k + 1, by omega, by go_num, HF⟩
        case measure => simp [intOf]; omega
      · have HF := Lib.hid (show idxL (fun p : Pk => p.no == n) l 0 = k by rw [← HI.out, HD.out]; simp [idxL, hc])
        go_wp2
        go_ret
        exact ⟨ret_int HF.out.symm, rfl⟩
    · obtain rfl : k = l.length := by omega
      have HF := Lib.hid (show idxL (fun p : Pk => p.no == n) l 0 = -1 by rw [← HI.out, List.drop_length]; rfl)
      clear HI
      go_wp2
      go_ret
      exact ⟨ret_int HF.out.symm, rfl⟩

/-- The places below k at which p holds. -/
def plcs (p : Nat → Bool) (k : Nat) : List Int := ((List.range k).filter p).map fun (i : Nat) => (i : Int)
theorem plcs_hit {p : Nat → Bool} {k : Nat} (h : p k = true) : plcs p (k + 1) = plcs p k ++ [(k : Int)] := by
  unfold plcs; rw [List.range_succ, List.filter_append]; simp [h]
theorem plcs_miss {p : Nat → Bool} {k : Nat} (h : p k = false) : plcs p (k + 1) = plcs p k := by
  unfold plcs; rw [List.range_succ, List.filter_append]; simp [h]
theorem plcs_le (p : Nat → Bool) (k : Nat) : (plcs p k).length ≤ k := by
  unfold plcs; simpa using List.length_filter_le p (List.range k)
theorem plcs_congr {p q : Nat → Bool} {k : Nat} (h : ∀ i, i < k → p i = q i) : plcs p k = plcs q k := by
  unfold plcs
  rw [List.filter_congr (fun i hi => h i (by simpa using hi))]
def idxR (l : List PP) (p : Nat → Bool) : List Int := if goodP l then plcs p l.length else []
theorem idxR_le (l : List PP) (p : Nat → Bool) : (idxR l p).length ≤ 10 := by
  unfold idxR; split
  · rename_i h
    have := plcs_le p l.length
    unfold goodP at h
    simp only [Bool.and_eq_true, decide_eq_true_eq] at h
    omega
  · simp

theorem box2 {w W : World} {T : Nat} {x y : Value} (hb : Below (w.alloc (.cells #[x, y] T)).heap.size (w.alloc (.cells #[x, y] T)) W) : W.cell? ⟨w.heap.size, 0, none⟩ = some x ∧ W.cell? ⟨w.heap.size, 1, none⟩ = some y ∧ w.heap.size < W.heap.size := by
  have hs := hb.size
  simp only [World.size_alloc] at hs
  exact ⟨(hb.cell (p := ⟨w.heap.size, 0, none⟩) (by simp)).trans (by simp [go_sem]), (hb.cell (p := ⟨w.heap.size, 1, none⟩) (by simp)).trans (by simp [go_sem]), by omega⟩

set_option maxRecDepth 100000 in
set_option maxHeartbeats 2000000 in
theorem indices_any (l : List Pk) (A : Option Addr) (c g : Nat) (caps : Array Value) (p : Nat → Bool) (eg : ∀ (args : Array Value) (w : World), (callFunc g args).run Try.prog w = .ok (.enter g args) w) (w : World) (hr : PkAt w A l) (hlen : tot l ≤ 1048576)
    (hp : goodP (plS l) = true → ∀ w1, Below w.heap.size w w1 → ∀ i m, l[i]? = some m → Calls Try.prog g (#[.int .i64 (i : Int), .agg #[.int .i64 m.no, .slice m.A m.sm.length m.c]] ++ caps) w1 fun e w' => e = .returned (.bool (p i)) ∧ Below w1.heap.size w1 w') :
    Calls Try.prog 65 #[.slice A l.length c, .func (.func g) #[] caps] w (MkS2 3 1 (idxR (plS l) p).length ((idxR (plS l) p).flatMap encI) (goodP (plS l)) w) := by
  have hl : l.length ≤ 1048576 := by unfold tot at hlen; omega
  have HR := Lib.hid hr
  have HP := Lib.hid hp
  have HT := Lib.hid hlen
  clear hr hp hlen
  cases hg : goodP (plS l)
  · have HE := Lib.hid (show idxR (plS l) p = [] by simp [idxR, hg])
    go_enter Try.func65, Try.ntmps65
    go_wp2_with (go_at_call 18; (with_reducible refine (iAreP_any l _ _ _ HR.out (by have := HT.out; omega)).mono ?_); rw [hg]; rintro e w1 ⟨rfl, hb1⟩)
    go_ret2
    rw [HE.out]
    exact ⟨none, 0, rfl, World.ownsRow_nil _ _ _ _, hb1⟩
  · have HE := Lib.hid (show idxR (plS l) p = plcs p l.length by simp [idxR, hg, plS_len])
    have HQ := Lib.hid (HP.out hg)
    have h10 := goodP_len hg
    go_enter Try.func65, Try.ntmps65
    go_wp2_with (go_at_call 18; (with_reducible refine (iAreP_any l _ _ _ HR.out (by have := HT.out; omega)).mono ?_); rw [hg]; rintro e w1 ⟨rfl, hb1⟩)
    have b1 := balloc hb1 (.cells #[] 3)
    have HO0 := Lib.hid (own_base (base' := w.heap.size) (own_made (E := 3) (K := 1) (n := 0) (cur := #[]) (w := w1) rfl (Nat.zero_le _)) hb1.size)
    clear hg HP
    go_loopw [6, 15] (fun v i wr => ∃ (k : Nat) (D : List Int) (A' : Option Addr) (c' : Nat), k ≤ l.length ∧ i = .int .i64 k ∧ v = .slice A' D.length c' ∧ D.length ≤ k ∧ Hid (D = plcs p k) ∧ Below w.heap.size w wr ∧ wr.ownsRow w.heap.size 3 1 (.slice A' D.length c') D.length (D.flatMap encI)) (fun _ i _ => l.length - (intOf i).toNat)
    case atStart => exact ⟨0, [], some ⟨w1.heap.size, 0, none⟩, 0, Nat.zero_le _, rfl, rfl, Nat.le_refl _, rfl, b1, HO0.out⟩
    case round =>
      obtain ⟨k, D, A', c', hk, rfl, rfl, hDl, HD, hbr, hown⟩ := hrel
      have HO := Lib.hid hown
      have hsz := hbr.size
      clear hown hb1
      by_cases hlt : k < l.length
      · obtain ⟨m, hm⟩ := some_get hlt
        have i0 := ib0 k
        have i1 := ib1 hlt
        obtain ⟨b, off, rfl, hb, q0, q1, _⟩ := (HR.out.below hbr).pk hm
        have HM := Lib.hid hm
        clear hm
        cases hpk : p k
        · have HN := Lib.hid (plcs_miss hpk)
          have hq := fun W (hW : Below w.heap.size w W) => HQ.out W hW k m HM.out
          rw [hpk] at hq
          have HC := Lib.hid hq
          clear hq hpk
          go_wp2_with fail
          refine (HC.out _ (balloc hbr _)).mono ?_; rintro e w2 ⟨rfl, hb2⟩
          go_wp2
          go_roundw
          case rel => exact ⟨k + 1, D, A', c', by omega, by go_num, rfl, by omega, Lib.hid (by rw [HN.out]; exact HD.out), bstep (balloc hbr _) hb2, own_below (HO.out.alloc _) hb2⟩
          case measure => simp [intOf]; omega
        · have HN := Lib.hid (plcs_hit hpk)
          have hq := fun W (hW : Below w.heap.size w W) => HQ.out W hW k m HM.out
          rw [hpk] at hq
          have HC := Lib.hid hq
          clear hq hpk
          go_wp2_with fail
          refine (HC.out _ (balloc hbr _)).mono ?_; rintro e w2 ⟨rfl, hb2⟩
          have HO1 := Lib.hid (own_below (HO.out.alloc _) hb2)
          have hs2 := hb2.size
          simp only [World.size_alloc] at hs2
          go_wp2_with (at_builtin; refine wpList_app rfl _ _ 29 3 1 8 _ rfl Try.underlying29 infoI rfl (by decide) w.heap.size _ D.length _ (by rfl) (HO1.out.alloc _) _ _ (by rfl) (heap_new1 _ _) rfl (encI_one (k : Int)) (by omega) (by decide) (by simp; omega) ?_; intro g5 c5 w5 ho5 hg5 hl5)
          go_roundw
          case rel => exact ⟨k + 1, D ++ [(k : Int)], some ⟨g5, 0, none⟩, c5, by omega, by go_num, by simp, by simp; omega, Lib.hid (by rw [HN.out, ← HD.out]), bgrown (balloc (bstep (balloc hbr _) hb2) _) hg5 (fun k hk => row_mine HO.out k hk), by simpa [encI] using ho5⟩
          case measure => simp [intOf]; omega
      · obtain rfl : k = l.length := by omega
        have HF := Lib.hid (show idxR (plS l) p = D by rw [HE.out, HD.out])
        go_wp2
        go_ret2
        refine ⟨A', c', ?_, ?_, hbr⟩
        · rw [HF.out]; rfl
        · rw [HF.out]; exact HO.out
end Go.Proofs.Ytifkakpiipoadaa
