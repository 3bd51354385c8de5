/-
  The distance within which all felt something: impl and spec compute one thing.
-/
import Derived.Test.YtjjinblahmcplaaFeCen
namespace Go.Proofs.Ytjjinblahmcplaa
open Go.RowKit
attribute [local go_sem] ext_cell ext_frozen

/-- r raised till its square is at least sq, at most n times. -/
def up (sq : Int) : Nat → Int → Int
  | 0, r => r
  | n + 1, r => if r * r < sq then up sq n (r + 1) else r
theorem up_stop {sq r : Int} (h : ¬ r * r < sq) : ∀ n, up sq n r = r
  | 0 => rfl
  | n + 1 => by simp [up, h]
theorem up_go {sq r : Int} {n : Nat} (h : r * r < sq) : up sq (n + 1) r = up sq n (r + 1) := by simp [up, h]
theorem sq_bd {d : Int} (h : -999 ≤ d ∧ d ≤ 999) : 0 ≤ d * d ∧ d * d ≤ 998001 := by
  have h1 : d * d = d.natAbs * d.natAbs := (Int.natAbs_mul_self (a := d)).symm
  have h2 : d.natAbs ≤ 999 := by omega
  have h3 := Nat.mul_le_mul h2 h2
  have h4 : ((d.natAbs * d.natAbs : Nat) : Int) = (d.natAbs : Int) * (d.natAbs : Int) := Int.natCast_mul _ _
  constructor
  · rw [h1, ← h4]; omega
  · rw [h1, ← h4]; omega
theorem rr_bd {r : Int} (h : 0 ≤ r ∧ r ≤ 1500) : 0 ≤ r * r ∧ r * r ≤ 2250000 := by
  refine ⟨Int.mul_nonneg h.1 h.1, ?_⟩
  have h := Int.mul_le_mul h.2 h.2 h.1 (by omega)
  omega
theorem r_lt {r sq : Int} (h : r * r < sq) (hs : sq ≤ 1996002) (hr : 0 ≤ r) : r ≤ 1412 := by
  rcases Int.lt_or_le 1412 r with h1 | h1
  · have h2 := Int.mul_le_mul (show (1413 : Int) ≤ r by omega) (show (1413 : Int) ≤ r by omega) (by omega) (by omega)
    omega
  · exact h1

def sqFe (x y : Int) (m : Fe) : Int := (m.x - x) * (m.x - x) + (m.y - y) * (m.y - y)
def radS (x y : Int) (r : Int) (m : Fe) : Int := if 2 ≤ m.lv then up (sqFe x y m) 2000 r else r
def radL (x y : Int) (l : List Fe) (k : Nat) : Int := (l.take k).foldl (radS x y) 0
theorem radL_succ {x y : Int} {l : List Fe} {k : Nat} {m : Fe} (hm : l[k]? = some m) : radL x y l (k + 1) = radS x y (radL x y l k) m := by
  unfold radL
  rw [List.take_add_one, hm]
  simp [List.foldl_append]
def radiusL (x y : Int) (l : List Fe) : Int × Bool := if goodFe l && placeB x y then (radL x y l l.length, true) else (0, false)

set_option maxHeartbeats 400000 in
theorem square_any (a b : Int) (w : World) (ha : -999 ≤ a ∧ a ≤ 999) (hb : -999 ≤ b ∧ b ≤ 999) :
    Calls Try.prog 69 #[.int .i64 a, .int .i64 b] w fun e w' => e = .returned (.int .i64 (a * a + b * b)) ∧ w = w' := by
  have h1 := sq_bd ha
  have h2 := sq_bd hb
  go_enter Try.func69, Try.ntmps69
  go_wp2
  go_ret
  exact ⟨rfl, rfl⟩

theorem ext9 {W w1 : World} {b o : Nat} {v : Value} (hb : Below W.heap.size W w1) (h : b < W.heap.size) (hc : W.cell? ⟨b, o, none⟩ = some v) : w1.cell? ⟨b, o, none⟩ = some v :=
  (hb.cell (p := ⟨b, o, none⟩) h).trans hc

set_option maxHeartbeats 2000000 in
theorem iRadius_any (l : List Fe) (A : Option Addr) (c : Nat) (x y : Int) (w : World) (hr : RowAt 5 encFe w A l) (hlen : l.length ≤ 2097152) :
    Calls Try.prog 24 #[.slice A l.length c, .int .i64 x, .int .i64 y] w fun e w' => e = .returned (.tuple #[.int .i64 (radiusL x y l).1, .bool (radiusL x y l).2]) ∧ Below w.heap.size w w' := by
  cases hg : goodFe l <;> cases h2 : placeB x y
  case true.true =>
    have HC := Lib.hid (show radiusL x y l = (radL x y l l.length, true) by simp [radiusL, hg, h2])
    have hxy : (0 ≤ x ∧ x ≤ 999) ∧ (0 ≤ y ∧ y ≤ 999) := by
      unfold placeB at h2
      rw [Bool.and_eq_true] at h2
      exact ⟨inB_true h2.1, inB_true h2.2⟩
    go_enter Try.func24, Try.ntmps24
    go_wp2_with (first | (go_at_call 21; (with_reducible refine (iAreFe_any l _ _ _ hr hlen).mono ?_); rintro e w1 ⟨rfl, hb1⟩; obtain ⟨hc_hb1, hf_hb1, hz_hb1⟩ := bcell (B := w.heap.size) (by first | omega | (simp; done) | (simp; omega)) hb1) | (go_at_call 63; (with_reducible refine (isPlace_any _ _ _).mono ?_); rintro e w' ⟨rfl, rfl⟩))
    have HR := Lib.hid hr
    have HG := Lib.hid hg
    clear hr hg h2 hc_hb1 hf_hb1
    go_loopw [8, 22] (fun rv i wr => ∃ (k : Nat) (R : Int), k ≤ l.length ∧ i = .int .i64 k ∧ rv = .int .i64 R ∧ 0 ≤ R ∧ R ≤ 1413 ∧ Hid (radL x y l k = R) ∧ Below w.heap.size w wr) (fun _ i _ => l.length - (intOf i).toNat)
    case atStart => exact ⟨0, 0, Nat.zero_le _, rfl, rfl, by omega, by omega, rfl, hb1⟩
    case round =>
      obtain ⟨k, R, hk, rfl, rfl, hR0, hR1, HS, hbr⟩ := hrel
      obtain ⟨wo, rfl⟩ : ∃ wo : World, wo = wr := ⟨_, rfl⟩
      by_cases hlt : k < l.length
      · obtain ⟨m, hm⟩ := some_get hlt
        have i0 := ib0 k
        have i1 := ib1 hlt
        obtain ⟨_, hx, hy, _, hp⟩ := oneFe_bounds (goodFe_one HG.out hm)
        obtain ⟨b, off, rfl, hb, q0, q1, q2, q3, q4⟩ := (HR.out.below hbr).fe hm
        have HN := Lib.hid (radL_succ (x := x) (y := y) hm)
        clear hm
        by_cases hv : 2 ≤ m.lv
        · have p1 := sq_bd (d := m.x - x) (by omega)
          have p2 := sq_bd (d := m.y - y) (by omega)
          go_wp2_with fail
          go_loop [8] (fun rv => ∃ (n : Nat) (R' : Int), rv = .int .i64 R' ∧ 0 ≤ R' ∧ R' ≤ 1413 ∧ Hid (R' + n = R + 2000) ∧ Hid (up (sqFe x y m) n R' = up (sqFe x y m) 2000 R)) (fun rv => (1413 - intOf rv).toNat)
          case atStart => exact ⟨2000, R, rfl, hR0, hR1, rfl, rfl⟩
          case round =>
            obtain ⟨n, R', rfl, hR'0, hR'1, HE, HU⟩ := hrel
            have p3 := rr_bd (r := R') (by omega)
            by_cases hlt2 : R' * R' < (m.x - x) * (m.x - x) + (m.y - y) * (m.y - y)
            · have hle := r_lt hlt2 (by omega) hR'0
              obtain ⟨n', rfl⟩ : ∃ n', n = n' + 1 := ⟨n - 1, by have := HE.out; omega⟩
              go_wp2_with (go_at_call 69; (with_reducible refine (square_any _ _ _ (by omega) (by omega)).mono ?_); rintro e w' ⟨rfl, rfl⟩)
              go_round
              case rel => exact ⟨n', R' + 1, rfl, by omega, by omega, by have := HE.out; show _ = _; omega, Lib.hid ((up_go (sq := sqFe x y m) hlt2).symm.trans HU.out)⟩
              case measure => simp [intOf]; omega
            · go_wp2_with (go_at_call 69; (with_reducible refine (square_any _ _ _ (by omega) (by omega)).mono ?_); rintro e w' ⟨rfl, rfl⟩)
              go_roundw
              case rel => exact ⟨k + 1, R', by omega, by go_num, rfl, hR'0, hR'1, Lib.hid (by rw [HN.out, HS.out]; simp only [radS, if_pos hv]; rw [← HU.out]; exact up_stop (sq := sqFe x y m) (fun hh => by unfold sqFe at hh; omega) n), balloc hbr _⟩
              case measure => simp [intOf]; omega
        · go_wp2_with fail
          refine wp_loop_rounds 1 ?_
          rw [rounds_succ]
          go_wp2
          go_roundw
          case rel => exact ⟨k + 1, R, by omega, by go_num, rfl, hR0, hR1, Lib.hid (by rw [HN.out, HS.out]; unfold radS; rw [if_neg (by omega)]), balloc hbr _⟩
          case measure => simp [intOf]; omega
      · obtain rfl : k = l.length := by omega
        have HC2 := Lib.hid (show radiusL x y l = (R, true) by rw [HC.out, HS.out])
        clear HC
        go_wp2
        go_ret2
        exact ⟨ret_ib HC2.out, hbr⟩
  all_goals
    have e : radiusL x y l = (0, false) := by simp [radiusL, hg, h2]
    rw [e]
    clear e
    go_enter Try.func24, Try.ntmps24
    go_wp2_with (first | (go_at_call 21; (with_reducible refine (iAreFe_any l _ _ _ hr hlen).mono ?_); rintro e w1 ⟨rfl, hb1⟩; obtain ⟨hc_hb1, hf_hb1, hz_hb1⟩ := bcell (B := w.heap.size) (by first | omega | (simp; done) | (simp; omega)) hb1) | (go_at_call 63; (with_reducible refine (isPlace_any _ _ _).mono ?_); rintro e w' ⟨rfl, rfl⟩))
    go_ret2
    exact ⟨rfl, (by repeat (first | exact bref _ | (refine balloc ?_ _) | (refine bdrew ?_) | (refine bdrewN ?_ _) | (refine bstep ?_ (by assumption))))⟩

set_option maxHeartbeats 2000000 in
theorem sRadius_any (l : List Fe) (A : Option Addr) (c : Nat) (x y : Int) (w : World) (hr : RowAt 5 encFe w A l) (hlen : l.length ≤ 2097152) :
    Calls Try.prog 23 #[.slice A l.length c, .int .i64 x, .int .i64 y] w fun e w' => e = .returned (.tuple #[.int .i64 (radiusL x y l).1, .bool (radiusL x y l).2]) ∧ Below w.heap.size w w' := by
  cases hg : goodFe l <;> cases h2 : placeB x y
  case true.true =>
    have HC := Lib.hid (show radiusL x y l = (radL x y l l.length, true) by simp [radiusL, hg, h2])
    have hxy : (0 ≤ x ∧ x ≤ 999) ∧ (0 ≤ y ∧ y ≤ 999) := by
      unfold placeB at h2
      rw [Bool.and_eq_true] at h2
      exact ⟨inB_true h2.1, inB_true h2.2⟩
    go_enter Try.func23, Try.ntmps23
    go_wp2_with (first | (go_at_call 64; (with_reducible refine (sgoodFe_any l _ _ _ hr hlen).mono ?_); rintro e w1 ⟨rfl, hb1⟩; obtain ⟨hc_hb1, hf_hb1, hz_hb1⟩ := bcell (B := w.heap.size) (by first | omega | (simp; done) | (simp; omega)) hb1) | (go_at_call 68; (with_reducible refine (l2Place_any _ _ _).mono ?_); rintro e w' ⟨rfl, rfl⟩))
    have HR := Lib.hid hr
    have HG := Lib.hid hg
    clear hr hg h2 hc_hb1 hf_hb1
    go_loopw [8, 9] (fun rv i wr => ∃ (k : Nat) (R : Int), k ≤ l.length ∧ i = .int .i64 k ∧ rv = .int .i64 R ∧ 0 ≤ R ∧ R ≤ 1413 ∧ Hid (radL x y l k = R) ∧ Below w.heap.size w wr) (fun _ i _ => l.length - (intOf i).toNat)
    case atStart => exact ⟨0, 0, Nat.zero_le _, rfl, rfl, by omega, by omega, rfl, hb1⟩
    case round =>
      obtain ⟨k, R, hk, rfl, rfl, hR0, hR1, HS, hbr⟩ := hrel
      obtain ⟨wo, rfl⟩ : ∃ wo : World, wo = wr := ⟨_, rfl⟩
      by_cases hlt : k < l.length
      · obtain ⟨m, hm⟩ := some_get hlt
        have i0 := ib0 k
        have i1 := ib1 hlt
        obtain ⟨_, hx, hy, _, hp⟩ := oneFe_bounds (goodFe_one HG.out hm)
        obtain ⟨b, off, rfl, hb, q0, q1, q2, q3, q4⟩ := (HR.out.below hbr).fe hm
        have HN := Lib.hid (radL_succ (x := x) (y := y) hm)
        clear hm
        by_cases hv : 2 ≤ m.lv
        · have p1 := sq_bd (d := m.x - x) (by omega)
          have p2 := sq_bd (d := m.y - y) (by omega)
          go_wp2_with fail
          (refine wp_region_calm (by kernel_rfl) (by kernel_rfl) ?_; (repeat (go_big_quiet_step ((fail)))); refine wpQuiet_nil ?_; intro xw; have hb9 := xw.is; generalize xw.w = w9 at hb9 ⊢; clear xw)
          have r3 := (ext9 hb9 hb q3)
          go_wp2_with fail
          go_loop [8] (fun rv => ∃ (n : Nat) (R' : Int), rv = .int .i64 R' ∧ 0 ≤ R' ∧ R' ≤ 1413 ∧ Hid (R' + n = R + 2000) ∧ Hid (up (sqFe x y m) n R' = up (sqFe x y m) 2000 R)) (fun rv => (1413 - intOf rv).toNat)
          case atStart => exact ⟨2000, R, rfl, hR0, hR1, rfl, rfl⟩
          case round =>
            obtain ⟨n, R', rfl, hR'0, hR'1, HE, HU⟩ := hrel
            have p3 := rr_bd (r := R') (by omega)
            by_cases hlt2 : R' * R' < (m.x - x) * (m.x - x) + (m.y - y) * (m.y - y)
            · have hle := r_lt hlt2 (by omega) hR'0
              obtain ⟨n', rfl⟩ : ∃ n', n = n' + 1 := ⟨n - 1, by have := HE.out; omega⟩
              go_wp2
              go_round
              case rel => exact ⟨n', R' + 1, rfl, by omega, by omega, by have := HE.out; show _ = _; omega, Lib.hid ((up_go (sq := sqFe x y m) hlt2).symm.trans HU.out)⟩
              case measure => simp [intOf]; omega
            · go_wp2
              go_roundw
              case rel => exact ⟨k + 1, R', by omega, by go_num, rfl, hR'0, hR'1, Lib.hid (by rw [HN.out, HS.out]; simp only [radS, if_pos hv]; rw [← HU.out]; exact up_stop (sq := sqFe x y m) (fun hh => by unfold sqFe at hh; omega) n), bstep hbr hb9⟩
              case measure => simp [intOf]; omega
        · have p1 := sq_bd (d := m.x - x) (by omega)
          have p2 := sq_bd (d := m.y - y) (by omega)
          go_wp2_with fail
          (refine wp_region_calm (by kernel_rfl) (by kernel_rfl) ?_; (repeat (go_big_quiet_step ((fail)))); refine wpQuiet_nil ?_; intro xw; have hb9 := xw.is; generalize xw.w = w9 at hb9 ⊢; clear xw)
          have r3 := (ext9 hb9 hb q3)
          go_wp2_with fail
          refine wp_loop_rounds 1 ?_
          rw [rounds_succ]
          go_wp2
          go_roundw
          case rel => exact ⟨k + 1, R, by omega, by go_num, rfl, hR0, hR1, Lib.hid (by rw [HN.out, HS.out]; unfold radS; rw [if_neg (by omega)]), bstep hbr hb9⟩
          case measure => simp [intOf]; omega
      · obtain rfl : k = l.length := by omega
        have HC2 := Lib.hid (show radiusL x y l = (R, true) by rw [HC.out, HS.out])
        clear HC
        go_wp2
        go_ret2
        exact ⟨ret_ib HC2.out, hbr⟩
  all_goals
    have e : radiusL x y l = (0, false) := by simp [radiusL, hg, h2]
    rw [e]
    clear e
    go_enter Try.func23, Try.ntmps23
    go_wp2_with (first | (go_at_call 64; (with_reducible refine (sgoodFe_any l _ _ _ hr hlen).mono ?_); rintro e w1 ⟨rfl, hb1⟩; obtain ⟨hc_hb1, hf_hb1, hz_hb1⟩ := bcell (B := w.heap.size) (by first | omega | (simp; done) | (simp; omega)) hb1) | (go_at_call 68; (with_reducible refine (l2Place_any _ _ _).mono ?_); rintro e w' ⟨rfl, rfl⟩))
    go_ret2
    exact ⟨rfl, (by repeat (first | exact bref _ | (refine balloc ?_ _) | (refine bdrew ?_) | (refine bdrewN ?_ _) | (refine bstep ?_ (by assumption))))⟩
end Go.Proofs.Ytjjinblahmcplaa
