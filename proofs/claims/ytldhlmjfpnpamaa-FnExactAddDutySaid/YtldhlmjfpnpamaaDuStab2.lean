/-
  slices.SortStableFunc at []impl.Duty of any length: it ends, and the row still holds as many duties.
-/
import Derived.Test.YtldhlmjfpnpamaaDuStab
namespace Go.Proofs.Ytldhlmjfpnpamaa
open Go.RowKit Go.Lib
variable {α : Type} [Inhabited α]

set_option maxHeartbeats 8000000 in
set_option maxRecDepth 1000000 in
theorem stable_st (K : Nat) (aE : ∀ w, (isAgg 25).run Try.prog w = .ok true w) (zE : ∀ w, (Go.sizeOf 25).run Try.prog w = .ok K w) (enc : α → List Value) (cf : α → α → Int) (g : Nat) (cb : Array Value) (blk off cap : Nat)  (d0 d : Array α) (w0 w : World)
    (eg : ∀ args w, (callFunc g args).run Try.prog w = .ok (.enter g args) w) (hcmp : ∀ W, CmpLays Try.prog g cb enc K cf blk off d0.size W) (R : RowK enc K w0 blk off d0) (hs : d0.size = d.size) (S : SWK enc K w0 blk off d w) (hsz : d.size < 1073741824) (hO : Go.Sort.SWO (ltOf cf)) :
    Calls Try.prog 90 #[.slice (some ⟨blk, off, none⟩) d.size cap, .int .i64 d.size, .func (.func g) #[] cb] w (StRes enc K w0 blk off d.size) := by
  have mixed : Try.prog.follows .mixedOrders = true := by kernel_rfl
  have HC : Aside _ := hcmp
  have S0 : Aside (SWK enc K w0 blk off d w) := S
  clear S hcmp
  have HINS : Aside (∀ (a b : Nat) (dk : Array α) (W : World), dk.size = d.size → a ≤ b → b ≤ d.size → SWK enc K w0 blk off dk W → Calls Try.prog 98 #[.slice (some ⟨blk, off, none⟩) d.size cap, .int .i64 a, .int .i64 b, .func (.func g) #[] cb] W (StRes enc K w0 blk off d.size)) := fun a b dk W hk h1 h2 hS => by
    have h := AnyQ.insertionSortCmpFunc (α := α) laysDuty K aE zE enc R.hk R.h1 cf g cb blk off cap a b dk W eg (by rw [hk, ← hs]; exact HC.out W) (hS.holds R.hblk R.hH (by omega)) (hS.lt R.hblk) h1 (by omega) (by omega)
    rw [hk] at h
    have hz : (Go.Sort.insertionSort (ltOf cf) dk a b).size = dk.size := (Go.Sort.insertionSort_holds hO dk a b h1 (by omega)).1.1
    refine h.mono fun e w' ⟨he, n, os, hw⟩ => ⟨he, Go.Sort.insertionSort (ltOf cf) dk a b, by omega, ?_⟩
    rw [hw]
    exact hS.on R.hblk n _ os hz
  have HSYM : Aside (∀ (a m b : Nat) (dk : Array α) (W : World), dk.size = d.size → a < m → m < b → b ≤ d.size → SWK enc K w0 blk off dk W → Calls Try.prog 99 #[.slice (some ⟨blk, off, none⟩) d.size cap, .int .i64 a, .int .i64 m, .int .i64 b, .func (.func g) #[] cb] W (StRes enc K w0 blk off d.size)) := fun a m b dk W hk h1 h2 h3 hS => by
    have h := symMerge_st K aE zE enc cf g cb blk off cap d0 w0 eg HC.out R (b - a + 1) a m b dk W (by omega) (by omega) hS h1 h2 (by omega) (by omega)
    rwa [hk] at h
  clear HC
  go_enter Try.func90, Try.ntmps90
  go_wp2_with fail
  go_loopw [7, 8] (fun sa sb wr => ∃ (a : Nat) (dk : Array α), sa = .int .i64 a ∧ sb = .int .i64 ((a : Int) + 20) ∧ a ≤ d.size ∧ dk.size = d.size ∧ Aside (SWK enc K w0 blk off dk wr)) (fun sa _ _ => d.size - (intOf sa).toNat)
  case atStart => exact ⟨0, d, rfl, rfl, Nat.zero_le _, rfl, S0⟩
  case round =>
    clear S0
    obtain ⟨a, dk, rfl, rfl, han, hds, S1⟩ := hrel
    by_cases hb : a + 20 ≤ d.size
    · have hbz : (a : Int) + 20 ≤ (d.size : Int) := by omega
      have h1x := HINS.out a (a + 20) dk wr hds (by omega) hb S1.out
      rw [show ((a + 20 : Nat) : Int) = (a : Int) + 20 by omega] at h1x
      have H1 := Lib.hid h1x
      clear h1x
      go_wp2_with fail
      refine H1.out.mono ?_; rintro e w2 ⟨rfl, d2, hd2, S2⟩
      go_wp2_with fail
      go_roundw
      case rel => exact ⟨a + 20, d2, by go_num, by go_num, by omega, hd2, S2⟩
      case measure => simp [intOf] <;> omega
    · have hbz : ¬ (a : Int) + 20 ≤ (d.size : Int) := by omega
      have H1 := Lib.hid (HINS.out a d.size dk wr hds (by omega) (by omega) S1.out)
      go_wp2_with fail
      refine H1.out.mono ?_; rintro e w2 ⟨rfl, d2, hd2, S2'⟩
      have S2 : Aside (SWK enc K w0 blk off d2 w2) := S2'
      clear S1 H1 S2'
      go_wp2_with fail
      go_loopw [6, 7, 8] (fun sB sa sb wr => ∃ (B : Nat) (dk : Array α), sB = .int .i64 B ∧ 20 ≤ B ∧ B ≤ 2 * d.size + 40 ∧ dk.size = d.size ∧ Aside (SWK enc K w0 blk off dk wr)) (fun sB _ _ _ => d.size - (intOf sB).toNat)
      case atStart => exact ⟨20, d2, rfl, by omega, by omega, hd2, S2⟩
      case round =>
        clear S2
        obtain ⟨B, dk, rfl, hB0, hB1, hds, S1⟩ := hrel
        by_cases hBn : B < d.size
        · have hBz : (B : Int) < (d.size : Int) := by omega
          obtain ⟨wo, rfl⟩ : ∃ wo : World, wo = wr := ⟨_, rfl⟩
          go_wp2_with fail
          go_loopw [7, 8] (fun sa sb wr => ∃ (a : Nat) (dk : Array α), sa = .int .i64 a ∧ sb = .int .i64 ((a : Int) + 2 * (B : Int)) ∧ a ≤ d.size ∧ dk.size = d.size ∧ Aside (SWK enc K w0 blk off dk wr)) (fun sa _ _ => d.size - (intOf sa).toNat)
          case atStart => exact ⟨0, dk, rfl, by go_num, Nat.zero_le _, hds, S1⟩
          case round =>
            clear S1 hds
            obtain ⟨a, dk, rfl, rfl, han, hds, S1⟩ := hrel
            by_cases hb : a + 2 * B ≤ d.size
            · have hbz : (a : Int) + 2 * (B : Int) ≤ (d.size : Int) := by omega
              have h1x := HSYM.out a (a + B) (a + 2 * B) dk wr hds (by omega) (by omega) hb S1.out
              rw [show ((a + B : Nat) : Int) = (a : Int) + (B : Int) by omega, show ((a + 2 * B : Nat) : Int) = (a : Int) + 2 * (B : Int) by omega] at h1x
              have H1 := Lib.hid h1x
              clear h1x
              go_wp2_with fail
              refine H1.out.mono ?_; rintro e w2 ⟨rfl, d2, hd2, S2⟩
              go_wp2_with fail
              go_roundw
              case rel => exact ⟨a + 2 * B, d2, by go_num, by go_num, by omega, hd2, S2⟩
              case measure => simp [intOf] <;> omega
            · have hbz : ¬ (a : Int) + 2 * (B : Int) ≤ (d.size : Int) := by omega
              by_cases hc : a + B < d.size
              · have hcz : (a : Int) + (B : Int) < (d.size : Int) := by omega
                have h1x := HSYM.out a (a + B) d.size dk wr hds (by omega) (by omega) (by omega) S1.out
                rw [show ((a + B : Nat) : Int) = (a : Int) + (B : Int) by omega] at h1x
                have H1 := Lib.hid h1x
                clear h1x
                go_wp2_with fail
                refine H1.out.mono ?_; rintro e w2 ⟨rfl, d2, hd2, S2⟩
                go_wp2_with fail
                go_roundw
                case rel => exact ⟨2 * B, d2, by first | go_num | (congr 1; omega), by omega, by omega, hd2, S2⟩
                case measure => simp [intOf] <;> omega
              · have hcz : ¬ (a : Int) + (B : Int) < (d.size : Int) := by omega
                go_wp2_with fail
                go_roundw
                case rel => exact ⟨2 * B, dk, by first | go_num | (congr 1; omega), by omega, by omega, hds, S1⟩
                case measure => simp [intOf] <;> omega
        · have hBz : ¬ (B : Int) < (d.size : Int) := by omega
          go_wp2_with fail
          go_end0
          exact ⟨rfl, dk, hds, S1.out⟩
set_option maxRecDepth 100000 in
set_option maxHeartbeats 2000000 in
theorem sortStableLong_any (l : List Du) (g c base : Nat) (w : World) (hown : w.ownsRow base 25 4 (.slice (some ⟨g, 0, none⟩) l.length c) l.length (l.flatMap encDu)) (hlen : l.length ≤ 4194304) :
    Calls Try.prog 69 #[.slice (some ⟨g, 0, none⟩) l.length c, .func (.func 56) #[] #[]] w fun e w' => e = .returned (.tuple #[]) ∧ ∃ S : List Du, S.length = l.length ∧ w'.ownsRow base 25 4 (.slice (some ⟨g, 0, none⟩) l.length c) l.length (S.flatMap encDu) ∧ w.grownBy w' (some g) := by
  have R : RowK encDu 4 w g 0 l.toArray := ⟨encDu_len, encDu_one, own_holdsK encDu_len rfl hown, (hown.lt g rfl).2⟩
  have H := stable_st 4 Try.isAgg25 Try.sizeOf25 encDu cmpDu 56 #[] g 0 c l.toArray l.toArray w w (enters_of Try.func56 (by kernel_rfl) rfl)
    (fun W => cmpLays_of (fun x y W => compareDu_lays x y W)) R rfl (SWK.start R.hH) (by simp; omega) swoDu
  have hz : l.toArray.size = l.length := by simp
  rw [hz] at H
  have HI := Lib.hid H
  have HW := Lib.hid hown
  clear H R hown
  go_enter Try.func69, Try.ntmps69
  go_wp2_with fail
  refine HI.out.mono ?_; rintro e w1 ⟨rfl, d', hd, n, os, rfl⟩
  have h2 := sort_own encDu_len HW.out hd n os
  have H2 := Lib.hid h2
  clear h2
  go_wp2_with fail
  go_end0
  exact ⟨rfl, d'.toList, by simpa using hd, H2.out.1, H2.out.2⟩
end Go.Proofs.Ytldhlmjfpnpamaa
