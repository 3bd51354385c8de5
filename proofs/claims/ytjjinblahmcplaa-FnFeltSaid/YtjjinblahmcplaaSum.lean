/-
  impl.sum over ints that stay small.
-/
import Derived.Test.YtjjinblahmcplaaInts0
import Derived.Test.YtjjinblahmcplaaRows
namespace Go.Proofs.Ytjjinblahmcplaa
open Go.RowKit

def sumI (l : List Int) : Int := l.foldl (· + ·) 0
theorem sumI_succ {l : List Int} {k : Nat} {m : Int} (hm : l[k]? = some m) : sumI (l.take (k + 1)) = sumI (l.take k) + m := by
  unfold sumI
  rw [List.take_add_one, hm]
  simp [List.foldl_append]
set_option maxHeartbeats 1000000 in
theorem sum_any (l : List Int) (A : Option Addr) (c : Nat) (w : World) (hr : RowAt 1 encI w A l) (hlen : l.length ≤ 2097152) (hs : ∀ k, k ≤ l.length → -1000000000000 ≤ sumI (l.take k) ∧ sumI (l.take k) ≤ 1000000000000) :
    Calls Try.prog 81 #[.slice A l.length c] w fun e w' => e = .returned (.int .i64 (sumI l)) ∧ w = w' := by
  have HS := Lib.hid hs
  clear hs
  go_enter Try.func81, Try.ntmps81
  go_wp2_with fail
  go_loop [3, 8] (fun v i => ∃ (k : Nat) (S : Int), k ≤ l.length ∧ i = .int .i64 k ∧ v = .int .i64 S ∧ Hid (S = sumI (l.take k))) (fun _ i => l.length - (intOf i).toNat)
  case atStart => exact ⟨0, 0, Nat.zero_le _, rfl, rfl, rfl⟩
  case round =>
    obtain ⟨k, S, hk, rfl, rfl, HV⟩ := hrel
    by_cases hlt : k < l.length
    · obtain ⟨m, hm⟩ := some_get hlt
      have i0 := ib0 k
      have i1 := ib1 hlt
      obtain ⟨b, off, rfl, hb, q0⟩ := hr.i hm
      have HN := Lib.hid (sumI_succ hm)
      have b1 := HS.out k hk
      have b2 := HS.out (k + 1) (by omega)
      rw [HN.out] at b2
      rw [← HV.out] at b1 b2
      clear hr hm
      go_wp2
      go_round
      case rel => exact ⟨k + 1, S + m, by omega, by go_num, rfl, Lib.hid (by rw [HN.out, HV.out])⟩
      case measure => simp [intOf]; omega
    · obtain rfl : k = l.length := by omega
      have HE := Lib.hid (show S = sumI l by rw [HV.out, List.take_length])
      clear hr
      go_wp2
      go_ret
      exact ⟨ret_int HE.out, rfl⟩
end Go.Proofs.Ytjjinblahmcplaa
