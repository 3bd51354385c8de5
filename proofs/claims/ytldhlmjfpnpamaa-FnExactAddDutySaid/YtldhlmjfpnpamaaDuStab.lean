/-
  slices.symMergeCmpFunc at []impl.Duty, and what it calls: they end, and the row still holds as many duties.
-/
import Derived.Test.YtldhlmjfpnpamaaDuSort
import Derived.Shelf.SlSortCmp.KitK
namespace Go.Proofs.Ytldhlmjfpnpamaa
open Go.RowKit Go.Lib
variable {α : Type} [Inhabited α]

def StRes (enc : α → List Value) (K : Nat) (w0 : World) (blk off n : Nat) (e : Ending) (w' : World) : Prop := e = .returned (.tuple #[]) ∧ ∃ d' : Array α, d'.size = n ∧ SWK enc K w0 blk off d' w'
set_option maxHeartbeats 8000000 in
set_option maxRecDepth 1000000 in
theorem swapRange_st (K : Nat) (aE : ∀ w, (isAgg 25).run Try.prog w = .ok true w) (zE : ∀ w, (Go.sizeOf 25).run Try.prog w = .ok K w) (enc : α → List Value) (cf : α → α → Int) (g : Nat) (cb : Array Value) (blk off cap : Nat) (a b m : Nat) (d0 d : Array α) (w0 w : World)
    (eg : ∀ args w, (callFunc g args).run Try.prog w = .ok (.enter g args) w) (hcmp : ∀ W, CmpLays Try.prog g cb enc K cf blk off d0.size W) (R : RowK enc K w0 blk off d0) (hs : d0.size = d.size) (S : SWK enc K w0 blk off d w) (hsz : d.size < 1073741824) (ha : a + m ≤ d.size) (hb : b + m ≤ d.size) :
    Calls Try.prog 115 #[.slice (some ⟨blk, off, none⟩) d.size cap, .int .i64 a, .int .i64 b, .int .i64 m, .func (.func g) #[] cb] w (StRes enc K w0 blk off d.size) := by
  have mixed : Try.prog.follows .mixedOrders = true := by kernel_rfl
  have HC : Aside _ := hcmp
  have S0 : Aside (SWK enc K w0 blk off d w) := S
  clear S hcmp
  go_enter Try.func115, Try.ntmps115
  go_wp2
  go_loopw [10] (fun s7 wr => ∃ (i : Nat) (dk : Array α), s7 = .int .i64 i ∧ i ≤ m ∧ dk.size = d.size ∧ Aside (SWK enc K w0 blk off dk wr)) (fun s7 _ => m - (intOf s7).toNat)
  case atStart => exact ⟨0, d, rfl, Nat.zero_le _, rfl, S0⟩
  case round =>
    clear S0
    obtain ⟨i, dk, rfl, him, hds, S1⟩ := hrel
    by_cases hlt : i < m
    · have hltz : (i : Int) < (m : Int) := by omega
      go_wp2_with fail
      have ea1 : ((a : Int) + (i : Int)).toNat = a + i := by omega
      have pa1 : (0 : Int) ≤ (a : Int) + (i : Int) := by omega
      have ba1 : (a : Int) + (i : Int) < (d.size : Int) := by omega
      have ra1 : IntKind.i64.wrap ((a : Int) + (i : Int)) = (a : Int) + (i : Int) := by rw [IntKind.wrap_i64]; omega
      have ec1 : ((b : Int) + (i : Int)).toNat = b + i := by omega
      have pc1 : (0 : Int) ≤ (b : Int) + (i : Int) := by omega
      have bc1 : (b : Int) + (i : Int) < (d.size : Int) := by omega
      have rc1 : IntKind.i64.wrap ((b : Int) + (i : Int)) = (b : Int) + (i : Int) := by rw [IntKind.wrap_i64]; omega
      have S2 : Aside (SWK enc K w0 blk off (Go.Sort.swp dk (a + i) (b + i)) ((wr.drew.setCells blk (off + (a + i) * K) (enc dk[b + i]!)).setCells blk (off + (b + i) * K) (enc dk[a + i]!))) := S1.out.swapped R (a + i) (b + i) (by omega) (by omega)
      have l1a := S1.out.ld1 R (by omega) Try.prog (a + i) (by omega)
      have l1b := S1.out.ld1 R (by omega) Try.prog (b + i) (by omega)
      have s1a := S1.out.st1 R (by omega) Try.prog (a + i) (by omega) dk[b + i]!
      have s1b := S1.out.st2 R (by omega) Try.prog (a + i) (b + i) (by omega) (by omega) dk[b + i]! dk[a + i]!
      have n1a : (enc dk[a + i]!).length = K := R.hk _
      have n1b : (enc dk[b + i]!).length = K := R.hk _
      generalize enc dk[a + i]! = cI1 at S2 l1a s1b n1a
      generalize enc dk[b + i]! = cJ1 at S2 l1b s1a s1b n1b
      clear S1
      go_wp2_with fail
      go_big_region_o
      clear l1a l1b s1a s1b
      generalize (wr.drew.setCells blk (off + (a + i) * K) cJ1).setCells blk (off + (b + i) * K) cI1 = w2 at S2 ⊢
      go_wp2
      go_roundw
      case rel => exact ⟨i + 1, Go.Sort.swp dk (a + i) (b + i), by go_num, by omega, by rw [Go.Sort.size_swp]; exact hds, S2⟩
      case measure => simp [intOf] <;> omega
    · go_wp2
      go_end0
      exact ⟨rfl, dk, hds, S1.out⟩
set_option maxHeartbeats 8000000 in
set_option maxRecDepth 1000000 in
theorem rotate_st (K : Nat) (aE : ∀ w, (isAgg 25).run Try.prog w = .ok true w) (zE : ∀ w, (Go.sizeOf 25).run Try.prog w = .ok K w) (enc : α → List Value) (cf : α → α → Int) (g : Nat) (cb : Array Value) (blk off cap : Nat) (a m b : Nat) (d0 d : Array α) (w0 w : World)
    (eg : ∀ args w, (callFunc g args).run Try.prog w = .ok (.enter g args) w) (hcmp : ∀ W, CmpLays Try.prog g cb enc K cf blk off d0.size W) (R : RowK enc K w0 blk off d0) (hs : d0.size = d.size) (S : SWK enc K w0 blk off d w) (hsz : d.size < 1073741824) (ha : a < m) (hm : m < b) (hb : b ≤ d.size) :
    Calls Try.prog 103 #[.slice (some ⟨blk, off, none⟩) d.size cap, .int .i64 a, .int .i64 m, .int .i64 b, .func (.func g) #[] cb] w (StRes enc K w0 blk off d.size) := by
  have mixed : Try.prog.follows .mixedOrders = true := by kernel_rfl
  have HC : Aside _ := hcmp
  have S0 : Aside (SWK enc K w0 blk off d w) := S
  clear S hcmp
  go_enter Try.func103, Try.ntmps103
  go_wp2
  go_loopw [10, 11] (fun s7 s8 wr => ∃ (i j : Nat) (dk : Array α), s7 = .int .i64 i ∧ s8 = .int .i64 j ∧ 0 < i ∧ 0 < j ∧ i ≤ m ∧ m + j ≤ d.size ∧ dk.size = d.size ∧ Aside (SWK enc K w0 blk off dk wr)) (fun s7 s8 _ => (intOf s7).toNat + (intOf s8).toNat)
  case atStart => exact ⟨m - a, b - m, d, by go_num, by go_num, by omega, by omega, by omega, by omega, rfl, S0⟩
  case round =>
    clear S0
    obtain ⟨i, j, dk, rfl, rfl, hi0, hj0, him, hjb, hds, S1⟩ := hrel
    by_cases he : i = j
    · subst he
      have hez : ((i : Int) == (i : Int)) = true := by simp
      have HH := fun W (S : Aside (SWK enc K w0 blk off dk W)) => swapRange_st K aE zE enc cf g cb blk off cap (m - i) m i d0 dk w0 W eg HC.out R (by omega) S.out (by omega) (by omega) (by omega)
      rw [hds] at HH
      have em : ((m - i : Nat) : Int) = (m : Int) - (i : Int) := by omega
      rw [em] at HH
      have H2 := Lib.hid (HH _ S1)
      clear HH
      go_wp2_with fail
      refine H2.out.mono ?_; rintro e w2 ⟨rfl, d2, hd2, S2⟩
      go_wp2_with fail
      go_end0
      exact ⟨rfl, d2, hd2, S2⟩
    · have hez : ((i : Int) == (j : Int)) = false := by simp; omega
      have hez2 : ¬ (i : Int) = (j : Int) := by omega
      by_cases hij : j < i
      · have hijz : (j : Int) < (i : Int) := by omega
        have HH := fun W (S : Aside (SWK enc K w0 blk off dk W)) => swapRange_st K aE zE enc cf g cb blk off cap (m - i) m j d0 dk w0 W eg HC.out R (by omega) S.out (by omega) (by omega) (by omega)
        rw [hds] at HH
        have em : ((m - i : Nat) : Int) = (m : Int) - (i : Int) := by omega
        rw [em] at HH
        have H2 := Lib.hid (HH _ S1)
        clear HH
        go_wp2_with fail
        refine H2.out.mono ?_; rintro e w2 ⟨rfl, d2, hd2, S2⟩
        go_wp2_with fail
        go_roundw
        case rel => exact ⟨i - j, j, d2, by go_num, rfl, by omega, by omega, by omega, by omega, hd2, S2⟩
        case measure => simp [intOf] <;> omega
      · have hijz : ¬ (j : Int) < (i : Int) := by omega
        have HH := fun W (S : Aside (SWK enc K w0 blk off dk W)) => swapRange_st K aE zE enc cf g cb blk off cap (m - i) (m + j - i) i d0 dk w0 W eg HC.out R (by omega) S.out (by omega) (by omega) (by omega)
        rw [hds] at HH
        have em : ((m - i : Nat) : Int) = (m : Int) - (i : Int) := by omega
        have em2 : ((m + j - i : Nat) : Int) = (m : Int) + (j : Int) - (i : Int) := by omega
        rw [em, em2] at HH
        have H2 := Lib.hid (HH _ S1)
        clear HH
        go_wp2_with fail
        refine H2.out.mono ?_; rintro e w2 ⟨rfl, d2, hd2, S2⟩
        go_wp2_with fail
        go_roundw
        case rel => exact ⟨i, j - i, d2, rfl, by go_num, by omega, by omega, by omega, by omega, hd2, S2⟩
        case measure => simp [intOf] <;> omega
set_option maxHeartbeats 8000000 in
set_option maxRecDepth 1000000 in
theorem symOne_st (K : Nat) (aE : ∀ w, (isAgg 25).run Try.prog w = .ok true w) (zE : ∀ w, (Go.sizeOf 25).run Try.prog w = .ok K w) (enc : α → List Value) (cf : α → α → Int) (g : Nat) (cb : Array Value) (blk off cap : Nat) (a m b : Nat) (d0 d : Array α) (w0 w : World)
    (eg : ∀ args w, (callFunc g args).run Try.prog w = .ok (.enter g args) w) (hcmp : ∀ W, CmpLays Try.prog g cb enc K cf blk off d0.size W) (R : RowK enc K w0 blk off d0) (hs : d0.size = d.size) (S : SWK enc K w0 blk off d w) (hsz : d.size < 1073741824) (ha : a < m) (hm : m < b) (hb : b ≤ d.size) (h1 : m = a + 1) :
    Calls Try.prog 99 #[.slice (some ⟨blk, off, none⟩) d.size cap, .int .i64 a, .int .i64 m, .int .i64 b, .func (.func g) #[] cb] w (StRes enc K w0 blk off d.size) := by
  have mixed : Try.prog.follows .mixedOrders = true := by kernel_rfl
  have HC : Aside _ := hcmp
  have S0 : Aside (SWK enc K w0 blk off d w) := S
  clear S hcmp
  have g0 : a + 1 ≤ m ∧ m ≤ a + 1 := by omega
  have g1 : (m : Int) - (a : Int) = 1 := by omega
  have g1b : ((m : Int) - (a : Int) == 1) = true := by simp; omega
  clear h1
  go_enter Try.func99, Try.ntmps99
  go_wp2_with fail
  go_loopw [10, 11] (fun si sj wr => ∃ (i j : Nat), si = .int .i64 i ∧ sj = .int .i64 j ∧ m ≤ i ∧ i ≤ j ∧ j ≤ b ∧ Aside (SWK enc K w0 blk off d wr)) (fun si sj _ => (intOf sj).toNat - (intOf si).toNat)
  case atStart => exact ⟨m, b, rfl, rfl, Nat.le_refl _, by omega, Nat.le_refl _, S0⟩
  case round =>
    clear S0
    obtain ⟨i, j, rfl, rfl, hai, hij, hjb, S1⟩ := hrel
    by_cases hlt : i < j
    · have hltz : (i : Int) < (j : Int) := by omega
      obtain ⟨h, hh⟩ : ∃ h : Nat, h = (i + j) / 2 := ⟨_, rfl⟩
      have eh : ((i : Int) + (j : Int)) / 2 = (h : Int) := by omega
      have hb1 : i ≤ h ∧ h < j := by omega
      clear hh
      have ea2 : ((h : Int)).toNat = h := by omega
      have pa2 : (0 : Int) ≤ (h : Int) := by omega
      have ba2 : (h : Int) < (d.size : Int) := by omega
      have ra2 : IntKind.i64.wrap ((h : Int)) = (h : Int) := by rw [IntKind.wrap_i64]; omega
      have ec2 : ((a : Int)).toNat = a := by omega
      have pc2 : (0 : Int) ≤ (a : Int) := by omega
      have bc2 : (a : Int) < (d.size : Int) := by omega
      have rc2 : IntKind.i64.wrap ((a : Int)) = (a : Int) := by rw [IntKind.wrap_i64]; omega
      obtain ⟨x2, hx2⟩ : ∃ x, x = d[h]! := ⟨_, rfl⟩
      obtain ⟨y2, hy2⟩ : ∃ x, x = d[a]! := ⟨_, rfl⟩
      have l2a := S1.out.ld R (by omega) Try.prog (h) (by omega)
      have l2b := S1.out.ld R (by omega) Try.prog (a) (by omega)
      rw [← hx2] at l2a
      rw [← hy2] at l2b
      have hc2 := S1.out.cmp (HC.out w0) (by omega) x2 y2
      clear hx2 hy2
      by_cases hv2 : cf x2 y2 < 0
      case pos =>
        have hd2 : decide (cf x2 y2 < 0) = true := decide_eq_true hv2
        go_wp2_with fail
        go_quiet_grown (first | (go_at_fn g; refine Calls.grown_of (hc2 _ _)))
        have S2 : Aside (SWK enc K w0 blk off d (Go.Sort.grow (wr.drewN nq) osq)) := S1.out.grown nq osq
        clear l2a l2b hc2 S1
        generalize Go.Sort.grow (wr.drewN nq) osq = w2 at S2 ⊢
        clear nq osq
        go_wp2
        go_roundw
        case rel => exact ⟨h + 1, j, by go_num, rfl, by omega, by omega, by omega, S2⟩
        case measure => simp [intOf] <;> omega
      case neg =>
        have hd2 : decide (cf x2 y2 < 0) = false := decide_eq_false hv2
        go_wp2_with fail
        go_quiet_grown (first | (go_at_fn g; refine Calls.grown_of (hc2 _ _)))
        have S2 : Aside (SWK enc K w0 blk off d (Go.Sort.grow (wr.drewN nq) osq)) := S1.out.grown nq osq
        clear l2a l2b hc2 S1
        generalize Go.Sort.grow (wr.drewN nq) osq = w2 at S2 ⊢
        clear nq osq
        go_wp2
        go_roundw
        case rel => exact ⟨i, h, rfl, rfl, by omega, by omega, by omega, S2⟩
        case measure => simp [intOf] <;> omega
    · obtain rfl : i = j := by omega
      go_wp2_with fail
      go_loopw [13] (fun sk wr => ∃ (q : Nat) (dk : Array α), sk = .int .i64 q ∧ a ≤ q ∧ q ≤ i ∧ dk.size = d.size ∧ Aside (SWK enc K w0 blk off dk wr)) (fun sk _ => i - (intOf sk).toNat)
      case atStart => exact ⟨a, d, rfl, Nat.le_refl _, by omega, rfl, S1⟩
      case round =>
        clear S1
        obtain ⟨q, dk, rfl, haq, hqi, hds, S1⟩ := hrel
        by_cases hq : q + 1 < i
        · have hqz : (q : Int) < (i : Int) - 1 := by omega
          go_wp2_with fail
          have ea3 : ((q : Int)).toNat = q := by omega
          have pa3 : (0 : Int) ≤ (q : Int) := by omega
          have ba3 : (q : Int) < (d.size : Int) := by omega
          have ra3 : IntKind.i64.wrap ((q : Int)) = (q : Int) := by rw [IntKind.wrap_i64]; omega
          have ec3 : ((q : Int) + 1).toNat = q + 1 := by omega
          have pc3 : (0 : Int) ≤ (q : Int) + 1 := by omega
          have bc3 : (q : Int) + 1 < (d.size : Int) := by omega
          have rc3 : IntKind.i64.wrap ((q : Int) + 1) = (q : Int) + 1 := by rw [IntKind.wrap_i64]; omega
          have S2 : Aside (SWK enc K w0 blk off (Go.Sort.swp dk (q) (q + 1)) ((wr.drew.setCells blk (off + (q) * K) (enc dk[q + 1]!)).setCells blk (off + (q + 1) * K) (enc dk[q]!))) := S1.out.swapped R (q) (q + 1) (by omega) (by omega)
          have l3a := S1.out.ld1 R (by omega) Try.prog (q) (by omega)
          have l3b := S1.out.ld1 R (by omega) Try.prog (q + 1) (by omega)
          have s3a := S1.out.st1 R (by omega) Try.prog (q) (by omega) dk[q + 1]!
          have s3b := S1.out.st2 R (by omega) Try.prog (q) (q + 1) (by omega) (by omega) dk[q + 1]! dk[q]!
          have n3a : (enc dk[q]!).length = K := R.hk _
          have n3b : (enc dk[q + 1]!).length = K := R.hk _
          generalize enc dk[q]! = cI3 at S2 l3a s3b n3a
          generalize enc dk[q + 1]! = cJ3 at S2 l3b s3a s3b n3b
          clear S1
          go_wp2_with fail
          go_big_region_o
          clear l3a l3b s3a s3b
          generalize (wr.drew.setCells blk (off + (q) * K) cJ3).setCells blk (off + (q + 1) * K) cI3 = w2 at S2 ⊢
          go_wp2
          go_roundw
          case rel => exact ⟨q + 1, Go.Sort.swp dk q (q + 1), by go_num, by omega, by omega, by rw [Go.Sort.size_swp]; exact hds, S2⟩
          case measure => simp [intOf] <;> omega
        · have hqz : ¬ (q : Int) < (i : Int) - 1 := by omega
          go_wp2_with fail
          go_end0
          exact ⟨rfl, dk, hds, S1.out⟩
set_option maxHeartbeats 8000000 in
set_option maxRecDepth 1000000 in
theorem symTwo_st (K : Nat) (aE : ∀ w, (isAgg 25).run Try.prog w = .ok true w) (zE : ∀ w, (Go.sizeOf 25).run Try.prog w = .ok K w) (enc : α → List Value) (cf : α → α → Int) (g : Nat) (cb : Array Value) (blk off cap : Nat) (a m b : Nat) (d0 d : Array α) (w0 w : World)
    (eg : ∀ args w, (callFunc g args).run Try.prog w = .ok (.enter g args) w) (hcmp : ∀ W, CmpLays Try.prog g cb enc K cf blk off d0.size W) (R : RowK enc K w0 blk off d0) (hs : d0.size = d.size) (S : SWK enc K w0 blk off d w) (hsz : d.size < 1073741824) (ha : a < m) (hm : m < b) (hb : b ≤ d.size) (h1 : m ≠ a + 1) (h2 : b = m + 1) :
    Calls Try.prog 99 #[.slice (some ⟨blk, off, none⟩) d.size cap, .int .i64 a, .int .i64 m, .int .i64 b, .func (.func g) #[] cb] w (StRes enc K w0 blk off d.size) := by
  have mixed : Try.prog.follows .mixedOrders = true := by kernel_rfl
  have HC : Aside _ := hcmp
  have S0 : Aside (SWK enc K w0 blk off d w) := S
  clear S hcmp
  have g0 : m + 1 ≤ b ∧ b ≤ m + 1 := by omega
  have g2 : (b : Int) - (m : Int) = 1 := by omega
  have g2b : ((b : Int) - (m : Int) == 1) = true := by simp; omega
  clear h2
  go_enter Try.func99, Try.ntmps99
  have g1 : ¬ (m : Int) - (a : Int) = 1 := by omega
  have g1b : ((m : Int) - (a : Int) == 1) = false := by simpa using g1
  go_wp2_with fail
  go_loopw [14, 15] (fun si sj wr => ∃ (i j : Nat), si = .int .i64 i ∧ sj = .int .i64 j ∧ a ≤ i ∧ i ≤ j ∧ j ≤ m ∧ Aside (SWK enc K w0 blk off d wr)) (fun si sj _ => (intOf sj).toNat - (intOf si).toNat)
  case atStart => exact ⟨a, m, rfl, rfl, Nat.le_refl _, by omega, Nat.le_refl _, S0⟩
  case round =>
    clear S0
    obtain ⟨i, j, rfl, rfl, hai, hij, hjb, S1⟩ := hrel
    by_cases hlt : i < j
    · have hltz : (i : Int) < (j : Int) := by omega
      obtain ⟨h, hh⟩ : ∃ h : Nat, h = (i + j) / 2 := ⟨_, rfl⟩
      have eh : ((i : Int) + (j : Int)) / 2 = (h : Int) := by omega
      have hb1 : i ≤ h ∧ h < j := by omega
      clear hh
      have ea2 : ((m : Int)).toNat = m := by omega
      have pa2 : (0 : Int) ≤ (m : Int) := by omega
      have ba2 : (m : Int) < (d.size : Int) := by omega
      have ra2 : IntKind.i64.wrap ((m : Int)) = (m : Int) := by rw [IntKind.wrap_i64]; omega
      have ec2 : ((h : Int)).toNat = h := by omega
      have pc2 : (0 : Int) ≤ (h : Int) := by omega
      have bc2 : (h : Int) < (d.size : Int) := by omega
      have rc2 : IntKind.i64.wrap ((h : Int)) = (h : Int) := by rw [IntKind.wrap_i64]; omega
      obtain ⟨x2, hx2⟩ : ∃ x, x = d[m]! := ⟨_, rfl⟩
      obtain ⟨y2, hy2⟩ : ∃ x, x = d[h]! := ⟨_, rfl⟩
      have l2a := S1.out.ld R (by omega) Try.prog (m) (by omega)
      have l2b := S1.out.ld R (by omega) Try.prog (h) (by omega)
      rw [← hx2] at l2a
      rw [← hy2] at l2b
      have hc2 := S1.out.cmp (HC.out w0) (by omega) x2 y2
      clear hx2 hy2
      by_cases hv2 : cf x2 y2 < 0
      case pos =>
        have hd2 : decide (cf x2 y2 < 0) = true := decide_eq_true hv2
        go_wp2_with fail
        go_quiet_grown (first | (go_at_fn g; refine Calls.grown_of (hc2 _ _)))
        have S2 : Aside (SWK enc K w0 blk off d (Go.Sort.grow (wr.drewN nq) osq)) := S1.out.grown nq osq
        clear l2a l2b hc2 S1
        generalize Go.Sort.grow (wr.drewN nq) osq = w2 at S2 ⊢
        clear nq osq
        go_wp2
        go_roundw
        case rel => exact ⟨i, h, rfl, rfl, by omega, by omega, by omega, S2⟩
        case measure => simp [intOf] <;> omega
      case neg =>
        have hd2 : decide (cf x2 y2 < 0) = false := decide_eq_false hv2
        go_wp2_with fail
        go_quiet_grown (first | (go_at_fn g; refine Calls.grown_of (hc2 _ _)))
        have S2 : Aside (SWK enc K w0 blk off d (Go.Sort.grow (wr.drewN nq) osq)) := S1.out.grown nq osq
        clear l2a l2b hc2 S1
        generalize Go.Sort.grow (wr.drewN nq) osq = w2 at S2 ⊢
        clear nq osq
        go_wp2
        go_roundw
        case rel => exact ⟨h + 1, j, by go_num, rfl, by omega, by omega, by omega, S2⟩
        case measure => simp [intOf] <;> omega
    · obtain rfl : i = j := by omega
      go_wp2_with fail
      go_loopw [17] (fun sk wr => ∃ (q : Nat) (dk : Array α), sk = .int .i64 q ∧ i ≤ q ∧ q ≤ m ∧ dk.size = d.size ∧ Aside (SWK enc K w0 blk off dk wr)) (fun sk _ => (intOf sk).toNat)
      case atStart => exact ⟨m, d, rfl, by omega, Nat.le_refl _, rfl, S1⟩
      case round =>
        clear S1
        obtain ⟨q, dk, rfl, haq, hqi, hds, S1⟩ := hrel
        by_cases hq : i < q
        · obtain ⟨q', rfl⟩ : ∃ q', q = q' + 1 := ⟨q - 1, by omega⟩
          have hqz : (i : Int) < (q' : Int) + 1 := by omega
          go_wp2_with fail
          have ea3 : ((q' : Int) + 1).toNat = q' + 1 := by omega
          have pa3 : (0 : Int) ≤ (q' : Int) + 1 := by omega
          have ba3 : (q' : Int) + 1 < (d.size : Int) := by omega
          have ra3 : IntKind.i64.wrap ((q' : Int) + 1) = (q' : Int) + 1 := by rw [IntKind.wrap_i64]; omega
          have ec3 : ((q' : Int)).toNat = q' := by omega
          have pc3 : (0 : Int) ≤ (q' : Int) := by omega
          have bc3 : (q' : Int) < (d.size : Int) := by omega
          have rc3 : IntKind.i64.wrap ((q' : Int)) = (q' : Int) := by rw [IntKind.wrap_i64]; omega
          have S2 : Aside (SWK enc K w0 blk off (Go.Sort.swp dk (q' + 1) (q')) ((wr.drew.setCells blk (off + (q' + 1) * K) (enc dk[q']!)).setCells blk (off + (q') * K) (enc dk[q' + 1]!))) := S1.out.swapped R (q' + 1) (q') (by omega) (by omega)
          have l3a := S1.out.ld1 R (by omega) Try.prog (q' + 1) (by omega)
          have l3b := S1.out.ld1 R (by omega) Try.prog (q') (by omega)
          have s3a := S1.out.st1 R (by omega) Try.prog (q' + 1) (by omega) dk[q']!
          have s3b := S1.out.st2 R (by omega) Try.prog (q' + 1) (q') (by omega) (by omega) dk[q']! dk[q' + 1]!
          have n3a : (enc dk[q' + 1]!).length = K := R.hk _
          have n3b : (enc dk[q']!).length = K := R.hk _
          generalize enc dk[q' + 1]! = cI3 at S2 l3a s3b n3a
          generalize enc dk[q']! = cJ3 at S2 l3b s3a s3b n3b
          clear S1
          go_wp2_with fail
          go_big_region_o
          clear l3a l3b s3a s3b
          generalize (wr.drew.setCells blk (off + (q' + 1) * K) cJ3).setCells blk (off + (q') * K) cI3 = w2 at S2 ⊢
          go_wp2
          go_roundw
          case rel => exact ⟨q', Go.Sort.swp dk (q' + 1) q', by go_num, by omega, by omega, by rw [Go.Sort.size_swp]; exact hds, S2⟩
          case measure => simp [intOf] <;> omega
        · have hqz : ¬ (i : Int) < (q : Int) := by omega
          go_wp2_with fail
          go_end0
          exact ⟨rfl, dk, hds, S1.out⟩
set_option maxHeartbeats 16000000 in
set_option maxRecDepth 1000000 in
theorem symMerge_st (K : Nat) (aE : ∀ w, (isAgg 25).run Try.prog w = .ok true w) (zE : ∀ w, (Go.sizeOf 25).run Try.prog w = .ok K w) (enc : α → List Value) (cf : α → α → Int) (g : Nat) (cb : Array Value) (blk off cap : Nat) (d0 : Array α) (w0 : World)
    (eg : ∀ args w, (callFunc g args).run Try.prog w = .ok (.enter g args) w) (hcmp : ∀ W, CmpLays Try.prog g cb enc K cf blk off d0.size W) (R : RowK enc K w0 blk off d0) (N : Nat) : ∀ (a m b : Nat) (d : Array α) (w : World), b - a < N → d0.size = d.size → SWK enc K w0 blk off d w → a < m → m < b → b ≤ d.size → d.size < 1073741824 →
    Calls Try.prog 99 #[.slice (some ⟨blk, off, none⟩) d.size cap, .int .i64 a, .int .i64 m, .int .i64 b, .func (.func g) #[] cb] w (StRes enc K w0 blk off d.size) := by
  induction N with
  | zero => intro a m b d w hN; omega
  | succ N ih =>
    intro a m b d w hN hs S ha hm hb hsz
    by_cases h1 : m = a + 1
    · exact symOne_st K aE zE enc cf g cb blk off cap a m b d0 d w0 w eg hcmp R hs S hsz ha hm hb h1
    by_cases h2 : b = m + 1
    · exact symTwo_st K aE zE enc cf g cb blk off cap a m b d0 d w0 w eg hcmp R hs S hsz ha hm hb h1 h2
    have mixed : Try.prog.follows .mixedOrders = true := by kernel_rfl
    have HC : Aside _ := hcmp
    have S0 : Aside (SWK enc K w0 blk off d w) := S
    have IH : Aside _ := ih
    clear S hcmp ih
    obtain ⟨mid, hmid⟩ : ∃ mid : Nat, mid = (a + b) / 2 := ⟨_, rfl⟩
    have em : ((a : Int) + (b : Int)) / 2 = (mid : Int) := by omega
    have hm1 : a < mid ∧ mid < b ∧ 2 * mid ≤ a + b ∧ a + b ≤ 2 * mid + 1 := by omega
    clear hmid
    have g1 : ¬ (m : Int) - (a : Int) = 1 := by omega
    have g1b : ((m : Int) - (a : Int) == 1) = false := by simpa using g1
    have g2 : ¬ (b : Int) - (m : Int) = 1 := by omega
    have g2b : ((b : Int) - (m : Int) == 1) = false := by simpa using g2
    by_cases hmm : mid < m
    case' pos =>
      have hmz : (mid : Int) < (m : Int) := by omega
      obtain ⟨s0, hs0⟩ : ∃ s0 : Nat, (s0 : Int) = (mid : Int) + (m : Int) - (b : Int) := ⟨mid + m - b, by omega⟩
      obtain ⟨r0, hr0⟩ : ∃ r0 : Nat, r0 = mid := ⟨_, rfl⟩
      have hs0' : s0 + b = mid + m := by omega
      have hS := Lib.hid (show (mid : Int) + (m : Int) - (b : Int) = (s0 : Int) from hs0.symm)
      have hR := Lib.hid (show (mid : Int) = (r0 : Int) by omega)
    case' neg =>
      have hmz : ¬ (mid : Int) < (m : Int) := by omega
      obtain ⟨s0, hs0⟩ : ∃ s0 : Nat, s0 = a := ⟨_, rfl⟩
      obtain ⟨r0, hr0⟩ : ∃ r0 : Nat, r0 = m := ⟨_, rfl⟩
      have hS := Lib.hid (show (a : Int) = (s0 : Int) by omega)
      have hR := Lib.hid (show (m : Int) = (r0 : Int) by omega)
    all_goals
      have hF : s0 ≤ r0 ∧ a ≤ s0 ∧ mid + m ≤ s0 + b ∧ r0 ≤ m ∧ r0 ≤ mid := by omega
      clear hs0 hr0
      go_enter Try.func99, Try.ntmps99
      go_wp2_with fail
      go_loopw [20, 21] (fun ss sr wr => ∃ (s r : Nat), ss = .int .i64 s ∧ sr = .int .i64 r ∧ s ≤ r ∧ a ≤ s ∧ mid + m ≤ s + b ∧ r ≤ m ∧ r ≤ mid ∧ Aside (SWK enc K w0 blk off d wr)) (fun ss sr _ => (intOf sr).toNat - (intOf ss).toNat)
      case atStart => exact ⟨s0, r0, by first | rfl | (congr 1 <;> first | exact hS.out | omega), by first | rfl | (congr 1 <;> first | exact hR.out | omega), hF.1, hF.2.1, hF.2.2.1, hF.2.2.2.1, hF.2.2.2.2, S0⟩
      case round =>
        clear S0 hF hS hR
        obtain ⟨s, r, rfl, rfl, hsr, has, hsb, hrm, hrd, S1⟩ := hrel
        by_cases hlt : s < r
        · have hltz : (s : Int) < (r : Int) := by omega
          obtain ⟨h, hh⟩ : ∃ h : Nat, h = (s + r) / 2 := ⟨_, rfl⟩
          have eh : ((s : Int) + (r : Int)) / 2 = (h : Int) := by omega
          have hb1 : s ≤ h ∧ h < r := by omega
          clear hh
          obtain ⟨u, hu⟩ : ∃ u : Nat, u + h + 1 = mid + m := ⟨mid + m - 1 - h, by omega⟩
          have hub : u < b := by omega
          have eu : (mid : Int) + (m : Int) - 1 - (h : Int) = (u : Int) := by omega
          have ea2 : ((u : Int)).toNat = u := by omega
          have pa2 : (0 : Int) ≤ (u : Int) := by omega
          have ba2 : (u : Int) < (d.size : Int) := by omega
          have ra2 : IntKind.i64.wrap ((u : Int)) = (u : Int) := by rw [IntKind.wrap_i64]; omega
          have ec2 : ((h : Int)).toNat = h := by omega
          have pc2 : (0 : Int) ≤ (h : Int) := by omega
          have bc2 : (h : Int) < (d.size : Int) := by omega
          have rc2 : IntKind.i64.wrap ((h : Int)) = (h : Int) := by rw [IntKind.wrap_i64]; omega
          obtain ⟨x2, hx2⟩ : ∃ x, x = d[u]! := ⟨_, rfl⟩
          obtain ⟨y2, hy2⟩ : ∃ x, x = d[h]! := ⟨_, rfl⟩
          have l2a := S1.out.ld R (by omega) Try.prog (u) (by omega)
          have l2b := S1.out.ld R (by omega) Try.prog (h) (by omega)
          rw [← hx2] at l2a
          rw [← hy2] at l2b
          have hc2 := S1.out.cmp (HC.out w0) (by omega) x2 y2
          clear hx2 hy2
          by_cases hv2 : cf x2 y2 < 0
          case pos =>
            have hd2 : decide (cf x2 y2 < 0) = true := decide_eq_true hv2
            go_wp2_with fail
            go_quiet_grown (first | (go_at_fn g; refine Calls.grown_of (hc2 _ _)))
            have S2 : Aside (SWK enc K w0 blk off d (Go.Sort.grow (wr.drewN nq) osq)) := S1.out.grown nq osq
            clear l2a l2b hc2 S1
            generalize Go.Sort.grow (wr.drewN nq) osq = w2 at S2 ⊢
            clear nq osq
            go_wp2
            go_roundw
            case rel => exact ⟨s, h, rfl, rfl, by omega, by omega, by omega, by omega, by omega, S2⟩
            case measure => simp [intOf] <;> omega
          case neg =>
            have hd2 : decide (cf x2 y2 < 0) = false := decide_eq_false hv2
            go_wp2_with fail
            go_quiet_grown (first | (go_at_fn g; refine Calls.grown_of (hc2 _ _)))
            have S2 : Aside (SWK enc K w0 blk off d (Go.Sort.grow (wr.drewN nq) osq)) := S1.out.grown nq osq
            clear l2a l2b hc2 S1
            generalize Go.Sort.grow (wr.drewN nq) osq = w2 at S2 ⊢
            clear nq osq
            go_wp2
            go_roundw
            case rel => exact ⟨h + 1, r, by go_num, rfl, by omega, by omega, by omega, by omega, by omega, S2⟩
            case measure => simp [intOf] <;> omega
        · obtain rfl : s = r := by omega
          obtain ⟨q, hq⟩ : ∃ q : Nat, q + s = mid + m := ⟨mid + m - s, by omega⟩
          have eq : (mid : Int) + (m : Int) - (s : Int) = (q : Int) := by omega
          have hqb : m ≤ q ∧ mid ≤ q ∧ q ≤ b := by omega
          have HROT : Aside (∀ (dk : Array α) (W : World), dk.size = d.size → s < m → m < q → SWK enc K w0 blk off dk W → Calls Try.prog 103 #[.slice (some ⟨blk, off, none⟩) d.size cap, .int .i64 s, .int .i64 m, .int .i64 q, .func (.func g) #[] cb] W (StRes enc K w0 blk off d.size)) := fun dk W hk h1 h2 hS => by
            have := rotate_st K aE zE enc cf g cb blk off cap s m q d0 dk w0 W eg HC.out R (by omega) hS (by omega) h1 h2 (by omega)
            rwa [hk] at this
          have HL : Aside (∀ (dk : Array α) (W : World), dk.size = d.size → a < s → s < mid → SWK enc K w0 blk off dk W → Calls Try.prog 99 #[.slice (some ⟨blk, off, none⟩) d.size cap, .int .i64 a, .int .i64 s, .int .i64 mid, .func (.func g) #[] cb] W (StRes enc K w0 blk off d.size)) := fun dk W hk h1 h2 hS => by
            have := IH.out a s mid dk W (by omega) (by omega) hS h1 h2 (by omega) (by omega)
            rwa [hk] at this
          have HR : Aside (∀ (dk : Array α) (W : World), dk.size = d.size → mid < q → q < b → SWK enc K w0 blk off dk W → Calls Try.prog 99 #[.slice (some ⟨blk, off, none⟩) d.size cap, .int .i64 mid, .int .i64 q, .int .i64 b, .func (.func g) #[] cb] W (StRes enc K w0 blk off d.size)) := fun dk W hk h1 h2 hS => by
            have := IH.out mid q b dk W (by omega) (by omega) hS h1 h2 (by omega) (by omega)
            rwa [hk] at this
          clear IH HC
          rcases (show (s < m ∧ m < q) ∨ ¬ s < m ∨ (s < m ∧ ¬ m < q) by omega) with c0 | c0 | c0
          · skip
            have f0a : (s : Int) < (m : Int) := by omega
            have f0b : (m : Int) < (q : Int) := by omega
            go_wp2_with fail
            refine (HROT.out d _ rfl c0.1 c0.2 S1.out).mono ?_; rintro e w4 ⟨rfl, e0, he0, hT0⟩
            have T0 : Aside (SWK enc K w0 blk off e0 w4) := hT0
            clear hT0
            rcases (show (a < s ∧ s < mid) ∨ ¬ a < s ∨ (a < s ∧ ¬ s < mid) by omega) with c1 | c1 | c1
            · skip
              have f1a : (a : Int) < (s : Int) := by omega
              have f1b : (s : Int) < (mid : Int) := by omega
              go_wp2_with fail
              refine (HL.out e0 _ he0 c1.1 c1.2 T0.out).mono ?_; rintro e w5 ⟨rfl, e1, he1, hT1⟩
              have T1 : Aside (SWK enc K w0 blk off e1 w5) := hT1
              clear hT1
              rcases (show (mid < q ∧ q < b) ∨ ¬ mid < q ∨ (mid < q ∧ ¬ q < b) by omega) with c2 | c2 | c2
              · skip
                have f2a : (mid : Int) < (q : Int) := by omega
                have f2b : (q : Int) < (b : Int) := by omega
                go_wp2_with fail
                refine (HR.out e1 _ he1 c2.1 c2.2 T1.out).mono ?_; rintro e w6 ⟨rfl, e2, he2, hT2⟩
                have T2 : Aside (SWK enc K w0 blk off e2 w6) := hT2
                clear hT2
                go_wp2_with fail
                go_end0
                exact ⟨rfl, e2, he2, T2.out⟩
              · exfalso
                omega
              · skip
                have f2a : (mid : Int) < (q : Int) := by omega
                have f2b : ¬ (q : Int) < (b : Int) := by omega
                go_wp2_with fail
                go_end0
                exact ⟨rfl, e1, he1, T1.out⟩
            · skip
              have f1a : ¬ (a : Int) < (s : Int) := by omega
              rcases (show (mid < q ∧ q < b) ∨ ¬ mid < q ∨ (mid < q ∧ ¬ q < b) by omega) with c2 | c2 | c2
              · skip
                have f2a : (mid : Int) < (q : Int) := by omega
                have f2b : (q : Int) < (b : Int) := by omega
                go_wp2_with fail
                refine (HR.out e0 _ he0 c2.1 c2.2 T0.out).mono ?_; rintro e w6 ⟨rfl, e2, he2, hT2⟩
                have T2 : Aside (SWK enc K w0 blk off e2 w6) := hT2
                clear hT2
                go_wp2_with fail
                go_end0
                exact ⟨rfl, e2, he2, T2.out⟩
              · exfalso
                omega
              · skip
                have f2a : (mid : Int) < (q : Int) := by omega
                have f2b : ¬ (q : Int) < (b : Int) := by omega
                go_wp2_with fail
                go_end0
                exact ⟨rfl, e0, he0, T0.out⟩
            · exfalso
              omega
          · skip
            have f0a : ¬ (s : Int) < (m : Int) := by omega
            rcases (show (a < s ∧ s < mid) ∨ ¬ a < s ∨ (a < s ∧ ¬ s < mid) by omega) with c1 | c1 | c1
            · skip
              have f1a : (a : Int) < (s : Int) := by omega
              have f1b : (s : Int) < (mid : Int) := by omega
              go_wp2_with fail
              refine (HL.out d _ rfl c1.1 c1.2 S1.out).mono ?_; rintro e w5 ⟨rfl, e1, he1, hT1⟩
              have T1 : Aside (SWK enc K w0 blk off e1 w5) := hT1
              clear hT1
              rcases (show (mid < q ∧ q < b) ∨ ¬ mid < q ∨ (mid < q ∧ ¬ q < b) by omega) with c2 | c2 | c2
              · exfalso
                omega
              · skip
                have f2a : ¬ (mid : Int) < (q : Int) := by omega
                go_wp2_with fail
                go_end0
                exact ⟨rfl, e1, he1, T1.out⟩
              · exfalso
                omega
            · exfalso
              omega
            · skip
              have f1a : (a : Int) < (s : Int) := by omega
              have f1b : ¬ (s : Int) < (mid : Int) := by omega
              rcases (show (mid < q ∧ q < b) ∨ ¬ mid < q ∨ (mid < q ∧ ¬ q < b) by omega) with c2 | c2 | c2
              · exfalso
                omega
              · skip
                have f2a : ¬ (mid : Int) < (q : Int) := by omega
                go_wp2_with fail
                go_end0
                exact ⟨rfl, d, rfl, S1.out⟩
              · exfalso
                omega
          · skip
            have f0a : (s : Int) < (m : Int) := by omega
            have f0b : ¬ (m : Int) < (q : Int) := by omega
            rcases (show (a < s ∧ s < mid) ∨ ¬ a < s ∨ (a < s ∧ ¬ s < mid) by omega) with c1 | c1 | c1
            · exfalso
              omega
            · exfalso
              omega
            · skip
              have f1a : (a : Int) < (s : Int) := by omega
              have f1b : ¬ (s : Int) < (mid : Int) := by omega
              rcases (show (mid < q ∧ q < b) ∨ ¬ mid < q ∨ (mid < q ∧ ¬ q < b) by omega) with c2 | c2 | c2
              · skip
                have f2a : (mid : Int) < (q : Int) := by omega
                have f2b : (q : Int) < (b : Int) := by omega
                go_wp2_with fail
                refine (HR.out d _ rfl c2.1 c2.2 S1.out).mono ?_; rintro e w6 ⟨rfl, e2, he2, hT2⟩
                have T2 : Aside (SWK enc K w0 blk off e2 w6) := hT2
                clear hT2
                go_wp2_with fail
                go_end0
                exact ⟨rfl, e2, he2, T2.out⟩
              · exfalso
                omega
              · exfalso
                omega
end Go.Proofs.Ytldhlmjfpnpamaa
