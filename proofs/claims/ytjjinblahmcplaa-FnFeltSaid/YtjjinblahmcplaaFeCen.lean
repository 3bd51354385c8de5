/-
  The center of felt reports, weighed by their people: impl and spec compute one thing.
-/
import Derived.Test.YtjjinblahmcplaaFeGood
namespace Go.Proofs.Ytjjinblahmcplaa
open Go.RowKit
attribute [local go_sem] ext_cell ext_frozen

def cenS (least : Int) (s : Int × Int × Int) (m : Fe) : Int × Int × Int := if least ≤ m.lv then (s.1 + m.x * m.pp, s.2.1 + m.y * m.pp, s.2.2 + m.pp) else s
def cenL (least : Int) (l : List Fe) (k : Nat) : Int × Int × Int := (l.take k).foldl (cenS least) (0, 0, 0)
theorem cenL_zero (least : Int) (l : List Fe) : cenL least l 0 = (0, 0, 0) := rfl
theorem cenL_succ {least : Int} {l : List Fe} {k : Nat} {m : Fe} (hm : l[k]? = some m) : cenL least l (k + 1) = cenS least (cenL least l k) m := by
  unfold cenL
  rw [List.take_add_one, hm]
  simp [List.foldl_append]
theorem oneFe_bounds {i x y v p : Int} (h : oneFe i x y v p = true) : (1 ≤ i ∧ i ≤ 9999) ∧ (0 ≤ x ∧ x ≤ 999) ∧ (0 ≤ y ∧ y ≤ 999) ∧ (1 ≤ v ∧ v ≤ 12) ∧ (1 ≤ p ∧ p ≤ 1000) := by
  unfold oneFe placeB at h
  simp only [Bool.and_eq_true] at h
  exact ⟨inB_true h.1.1.1, inB_true h.1.1.2.1, inB_true h.1.1.2.2, inB_true h.1.2, inB_true h.2⟩
theorem mul_bd {a b : Int} (ha : 0 ≤ a ∧ a ≤ 999) (hb : 1 ≤ b ∧ b ≤ 1000) : 0 ≤ a * b ∧ a * b ≤ 999000 := by
  refine ⟨Int.mul_nonneg ha.1 (by omega), ?_⟩
  have h := Int.mul_le_mul ha.2 hb.2 (by omega) (by omega)
  omega
theorem cenL_bd {least : Int} {l : List Fe} (hg : goodFe l = true) : ∀ k, k ≤ l.length → (0 ≤ (cenL least l k).1 ∧ (cenL least l k).1 ≤ 999000 * k) ∧ (0 ≤ (cenL least l k).2.1 ∧ (cenL least l k).2.1 ≤ 999000 * k) ∧ (0 ≤ (cenL least l k).2.2 ∧ (cenL least l k).2.2 ≤ 1000 * k)
  | 0, _ => by simp [cenL_zero]
  | k + 1, h => by
    have ih := cenL_bd (least := least) hg k (by omega)
    obtain ⟨m, hm⟩ := some_get (show k < l.length by omega)
    obtain ⟨_, hx, hy, _, hp⟩ := oneFe_bounds (goodFe_one hg hm)
    have h1 := mul_bd hx hp
    have h2 := mul_bd hy hp
    rw [cenL_succ hm]
    unfold cenS
    split <;> (try dsimp only) <;> omega

def centerL (least : Int) (l : List Fe) : Int × Int × Bool :=
  if goodFe l && inB least 1 12 then
    (if (cenL least l l.length).2.2 = 0 then (0, 0, false) else ((cenL least l l.length).1 / (cenL least l l.length).2.2, (cenL least l l.length).2.1 / (cenL least l l.length).2.2, true))
  else (0, 0, false)
theorem centerL_bad {least : Int} {l : List Fe} (h : (goodFe l && inB least 1 12) = false) : centerL least l = (0, 0, false) := by simp [centerL, h]
theorem centerL_good {least : Int} {l : List Fe} (h1 : goodFe l = true) (h2 : inB least 1 12 = true) : centerL least l = if (cenL least l l.length).2.2 = 0 then (0, 0, false) else ((cenL least l l.length).1 / (cenL least l l.length).2.2, (cenL least l l.length).2.1 / (cenL least l l.length).2.2, true) := by
  simp [centerL, h1, h2]

set_option maxHeartbeats 2000000 in
theorem iCenter_any (l : List Fe) (A : Option Addr) (c : Nat) (least : Int) (w : World) (hr : RowAt 5 encFe w A l) (hlen : l.length ≤ 2097152) :
    Calls Try.prog 26 #[.slice A l.length c, .int .i64 least] w fun e w' => e = .returned (.tuple #[.int .i64 (centerL least l).1, .int .i64 (centerL least l).2.1, .bool (centerL least l).2.2]) ∧ Below w.heap.size w w' := by
  cases hg : goodFe l <;> cases h2 : inB least 1 12
  case true.true =>
    have HC := Lib.hid (centerL_good hg h2)
    have hb2 := inB_true h2
    go_enter Try.func26, Try.ntmps26
    go_wp2_with (first | (go_at_call 21; (with_reducible refine (iAreFe_any l _ _ _ hr hlen).mono ?_); rintro e w1 ⟨rfl, hb1⟩; obtain ⟨hc_hb1, hf_hb1, hz_hb1⟩ := bcell (B := w.heap.size) (by first | omega | (simp; done) | (simp; omega)) hb1) | (go_at_call 62; (with_reducible refine (in_any _ _ _ _).mono ?_); rintro e w' ⟨rfl, rfl⟩))
    have HR := Lib.hid hr
    have HG := Lib.hid hg
    have H2 := Lib.hid h2
    have hl12 := goodFe_len hg
    clear hr hg h2 hc_hb1 hf_hb1
    go_loopw [7, 8, 9, 22] (fun xv yv tv i wr => ∃ (k : Nat) (X Y T : Int), k ≤ l.length ∧ i = .int .i64 k ∧ xv = .int .i64 X ∧ yv = .int .i64 Y ∧ tv = .int .i64 T ∧ Hid (cenL least l k = (X, Y, T)) ∧ Below w.heap.size w wr) (fun _ _ _ i _ => l.length - (intOf i).toNat)
    case atStart => exact ⟨0, 0, 0, 0, Nat.zero_le _, rfl, rfl, rfl, rfl, cenL_zero _ _, hb1⟩
    case round =>
      obtain ⟨k, X, Y, T, hk, rfl, rfl, rfl, rfl, HS, hbr⟩ := hrel
      obtain ⟨bX, bY, bT⟩ := cenL_bd (least := least) HG.out k hk
      rw [HS.out] at bX bY bT
      dsimp only at bX bY bT
      by_cases hlt : k < l.length
      · obtain ⟨m, hm⟩ := some_get hlt
        have i0 := ib0 k
        have i1 := ib1 hlt
        obtain ⟨_, hx, hy, _, hp⟩ := oneFe_bounds (goodFe_one HG.out hm)
        obtain ⟨b, off, rfl, hb, q0, q1, q2, q3, q4⟩ := (HR.out.below hbr).fe hm
        have p1 := mul_bd hx hp
        have p2 := mul_bd hy hp
        have HN := Lib.hid (cenL_succ (least := least) hm)
        clear hm
        by_cases hv : least ≤ m.lv
        · go_wp2_with fail
          (refine wp_region_calm (by kernel_rfl) (by kernel_rfl) ?_; (repeat (go_big_quiet_step ((fail)))); refine wpQuiet_nil ?_; intro xw; have hb9 := xw.is; generalize xw.w = w9 at hb9 ⊢; clear xw)
          go_wp2
          go_roundw
          case rel => exact ⟨k + 1, X + m.x * m.pp, Y + m.y * m.pp, T + m.pp, by omega, by go_num, rfl, rfl, rfl, Lib.hid (by rw [HN.out, HS.out]; simp [cenS, hv]), bstep (balloc hbr _) hb9⟩
          case measure => simp [intOf]; omega
        · go_wp2
          go_roundw
          case rel => exact ⟨k + 1, X, Y, T, by omega, by go_num, rfl, rfl, rfl, Lib.hid (by rw [HN.out, HS.out]; simp [cenS, hv]), balloc hbr _⟩
          case measure => simp [intOf]; omega
      · obtain rfl : k = l.length := by omega
        rw [HS.out] at HC
        by_cases hT : T = 0
        · subst hT
          have HC2 := Lib.hid (show centerL least l = (0, 0, false) from by rw [HC.out]; simp)
          clear HC
          go_wp2
          go_ret3
          exact ⟨ret_iib HC2.out, hbr⟩
        · have hT1 : 1 ≤ T := by omega
          have HC2 := Lib.hid (show centerL least l = (X / T, Y / T, true) from by rw [HC.out]; simp [hT])
          clear HC hT
          go_wp2_with fail
          (refine wp_region_calm (by kernel_rfl) (by kernel_rfl) ?_; (repeat (go_big_quiet_step ((fail)))); refine wpQuiet_nil ?_; intro xw; have hb9 := xw.is; generalize xw.w = w9 at hb9 ⊢; clear xw)
          go_wp2
          go_ret3
          exact ⟨ret_iib HC2.out, bstep hbr hb9⟩
  all_goals
    have e : centerL least l = (0, 0, false) := centerL_bad (by simp [hg, h2])
    rw [e]
    clear e
    go_enter Try.func26, Try.ntmps26
    go_wp2_with (first | (go_at_call 21; (with_reducible refine (iAreFe_any l _ _ _ hr hlen).mono ?_); rintro e w1 ⟨rfl, hb1⟩; obtain ⟨hc_hb1, hf_hb1, hz_hb1⟩ := bcell (B := w.heap.size) (by first | omega | (simp; done) | (simp; omega)) hb1) | (go_at_call 62; (with_reducible refine (in_any _ _ _ _).mono ?_); rintro e w' ⟨rfl, rfl⟩))
    go_ret3
    exact ⟨rfl, (by repeat (first | exact bref _ | (refine balloc ?_ _) | (refine bdrew ?_) | (refine bdrewN ?_ _) | (refine bstep ?_ (by assumption))))⟩

set_option maxHeartbeats 2000000 in
theorem sCenter_any (l : List Fe) (A : Option Addr) (c : Nat) (least : Int) (w : World) (hr : RowAt 5 encFe w A l) (hlen : l.length ≤ 2097152) :
    Calls Try.prog 25 #[.slice A l.length c, .int .i64 least] w fun e w' => e = .returned (.tuple #[.int .i64 (centerL least l).1, .int .i64 (centerL least l).2.1, .bool (centerL least l).2.2]) ∧ Below w.heap.size w w' := by
  cases hg : goodFe l <;> cases h2 : inB least 1 12
  case true.true =>
    have HC := Lib.hid (centerL_good hg h2)
    have hb2 := inB_true h2
    go_enter Try.func25, Try.ntmps25
    go_wp2_with (first | (go_at_call 64; (with_reducible refine (sgoodFe_any l _ _ _ hr hlen).mono ?_); rintro e w1 ⟨rfl, hb1⟩; obtain ⟨hc_hb1, hf_hb1, hz_hb1⟩ := bcell (B := w.heap.size) (by first | omega | (simp; done) | (simp; omega)) hb1) | (go_at_call 70; (with_reducible refine (l14Level_any _ _).mono ?_); rintro e w' ⟨rfl, rfl⟩))
    have HR := Lib.hid hr
    have HG := Lib.hid hg
    have H2 := Lib.hid h2
    have hl12 := goodFe_len hg
    clear hr hg h2 hc_hb1 hf_hb1
    go_loopw [7, 8, 9, 10] (fun xv yv tv i wr => ∃ (k : Nat) (X Y T : Int), k ≤ l.length ∧ i = .int .i64 k ∧ xv = .int .i64 X ∧ yv = .int .i64 Y ∧ tv = .int .i64 T ∧ Hid (cenL least l k = (X, Y, T)) ∧ Below w.heap.size w wr) (fun _ _ _ i _ => l.length - (intOf i).toNat)
    case atStart => exact ⟨0, 0, 0, 0, Nat.zero_le _, rfl, rfl, rfl, rfl, cenL_zero _ _, hb1⟩
    case round =>
      obtain ⟨k, X, Y, T, hk, rfl, rfl, rfl, rfl, HS, hbr⟩ := hrel
      obtain ⟨bX, bY, bT⟩ := cenL_bd (least := least) HG.out k hk
      rw [HS.out] at bX bY bT
      dsimp only at bX bY bT
      by_cases hlt : k < l.length
      · obtain ⟨m, hm⟩ := some_get hlt
        have i0 := ib0 k
        have i1 := ib1 hlt
        obtain ⟨_, hx, hy, _, hp⟩ := oneFe_bounds (goodFe_one HG.out hm)
        obtain ⟨b, off, rfl, hb, q0, q1, q2, q3, q4⟩ := (HR.out.below hbr).fe hm
        have p1 := mul_bd hx hp
        have p2 := mul_bd hy hp
        have HN := Lib.hid (cenL_succ (least := least) hm)
        clear hm
        by_cases hv : least ≤ m.lv
        · go_wp2
          go_roundw
          case rel => exact ⟨k + 1, X + m.x * m.pp, Y + m.y * m.pp, T + m.pp, by omega, by go_num, rfl, rfl, rfl, Lib.hid (by rw [HN.out, HS.out]; simp [cenS, hv]), balloc hbr _⟩
          case measure => simp [intOf]; omega
        · go_wp2
          go_roundw
          case rel => exact ⟨k + 1, X, Y, T, by omega, by go_num, rfl, rfl, rfl, Lib.hid (by rw [HN.out, HS.out]; simp [cenS, hv]), balloc hbr _⟩
          case measure => simp [intOf]; omega
      · obtain rfl : k = l.length := by omega
        rw [HS.out] at HC
        by_cases hT : T = 0
        · subst hT
          have HC2 := Lib.hid (show centerL least l = (0, 0, false) from by rw [HC.out]; simp)
          clear HC
          go_wp2
          go_ret3
          exact ⟨ret_iib HC2.out, hbr⟩
        · have hT1 : 1 ≤ T := by omega
          have HC2 := Lib.hid (show centerL least l = (X / T, Y / T, true) from by rw [HC.out]; simp [hT])
          clear HC hT
          go_wp2_with fail
          (refine wp_region_calm (by kernel_rfl) (by kernel_rfl) ?_; (repeat (go_big_quiet_step ((fail)))); refine wpQuiet_nil ?_; intro xw; have hb9 := xw.is; generalize xw.w = w9 at hb9 ⊢; clear xw)
          go_wp2
          go_ret3
          exact ⟨ret_iib HC2.out, bstep hbr hb9⟩
  all_goals
    have e : centerL least l = (0, 0, false) := centerL_bad (by simp [hg, h2])
    rw [e]
    clear e
    go_enter Try.func25, Try.ntmps25
    go_wp2_with (first | (go_at_call 64; (with_reducible refine (sgoodFe_any l _ _ _ hr hlen).mono ?_); rintro e w1 ⟨rfl, hb1⟩; obtain ⟨hc_hb1, hf_hb1, hz_hb1⟩ := bcell (B := w.heap.size) (by first | omega | (simp; done) | (simp; omega)) hb1) | (go_at_call 70; (with_reducible refine (l14Level_any _ _).mono ?_); rintro e w' ⟨rfl, rfl⟩))
    go_ret3
    exact ⟨rfl, (by repeat (first | exact bref _ | (refine balloc ?_ _) | (refine bdrew ?_) | (refine bdrewN ?_ _) | (refine bstep ?_ (by assumption))))⟩
end Go.Proofs.Ytjjinblahmcplaa
