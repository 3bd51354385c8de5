/-
  impl.filter over Arrivals, with any predicate that only makes memory: the kept elements, in new memory.
-/
import Derived.Test.YtaobbkiepggafaaArPred
namespace Go.Proofs.Ytaobbkiepggafaa
set_option linter.unusedVariables false
set_option linter.unusedSimpArgs false
set_option linter.unnecessarySimpa false
open Go.RowKit

theorem filter_hitAr {p : Ar → Bool} {l : List Ar} {k : Nat} {m : Ar} (hm : l[k]? = some m) (h : p m = true) : (l.take (k + 1)).filter p = (l.take k).filter p ++ [m] := by
  rw [List.take_add_one, hm]; simp [h]
theorem filter_missAr {p : Ar → Bool} {l : List Ar} {k : Nat} {m : Ar} (hm : l[k]? = some m) (h : p m = false) : (l.take (k + 1)).filter p = (l.take k).filter p := by
  rw [List.take_add_one, hm]; simp [h]
theorem filter_lenAr {p : Ar → Bool} {l : List Ar} {k : Nat} : ((l.take k).filter p).length ≤ k := Nat.le_trans (List.length_filter_le _ _) (List.length_take_le _ _)

set_option maxRecDepth 100000 in
set_option maxHeartbeats 2000000 in
theorem filterAr_any (l : List Ar) (A : Option Addr) (c g : Nat) (caps : Array Value) (p : Ar → Bool) (eg : ∀ (args : Array Value) (w : World), (callFunc g args).run Try.prog w = .ok (.enter g args) w) (w : World) (hr : RowAt 5 encAr w A l) (hlen : l.length ≤ 2097152) (hp : PredAr g caps p l w) :
    Calls Try.prog 84 #[.slice A l.length c, .func (.func g) #[] caps] w (MkS 69 5 (l.filter p).length ((l.filter p).flatMap encAr) w) := by
  have HP := Lib.hid hp
  have HR := Lib.hid hr
  clear hp hr
  go_enter Try.func84, Try.ntmps84
  go_wp2_with fail
  go_loopw [5, 11] (fun v i wr => ∃ (k : Nat) (D : List Ar) (A' : Option Addr) (c' : Nat), k ≤ l.length ∧ i = .int .i64 k ∧ v = .slice A' D.length c' ∧ D.length ≤ k ∧ Hid (D = (l.take k).filter p) ∧ Below w.heap.size w wr ∧ wr.ownsRow w.heap.size 69 5 (.slice A' D.length c') D.length (D.flatMap encAr)) (fun _ i _ => l.length - (intOf i).toNat)
  case atStart => exact ⟨0, [], some ⟨w.heap.size, 0, none⟩, 0, Nat.zero_le _, rfl, rfl, Nat.le_refl _, rfl, balloc (bref _) _, own_made (cur := #[]) rfl (Nat.zero_le _)⟩
  case round =>
    obtain ⟨k, D, A', c', hk, rfl, rfl, hDl, HD, hbr, hown⟩ := hrel
    by_cases hlt : k < l.length
    · obtain ⟨m, hm⟩ := some_get hlt
      have i0 := ib0 k
      have i1 := ib1 hlt
      obtain ⟨b, off, rfl, hb, q0, q1, q2, q3, q4⟩ := (HR.out.below hbr).ar hm
      have HM := Lib.hid hm
      have HO := Lib.hid hown
      have hmem := Lib.hid (List.mem_of_getElem? hm)
      have hsz := hbr.size
      clear hm hown
      cases hpm : p m
      · have HN := Lib.hid (filter_missAr HM.out hpm)
        go_wp2_with fail
        refine (HP.out _ (balloc hbr _) m hmem.out).mono ?_; rintro e w1 ⟨rfl, hb1⟩
        rw [hpm]
        clear hpm
        go_wp2
        go_roundw
        case rel => exact ⟨k + 1, D, A', c', by omega, by go_num, rfl, by omega, Lib.hid (by rw [HN.out]; exact HD.out), bstep (balloc hbr _) hb1, own_below (HO.out.alloc _) hb1⟩
        case measure => simp [intOf]; omega
      · have HN := Lib.hid (filter_hitAr HM.out hpm)
        go_wp2_with fail
        refine (HP.out _ (balloc hbr _) m hmem.out).mono ?_; rintro e w1 ⟨rfl, hb1⟩
        rw [hpm]
        clear hpm
        obtain ⟨hc1, _, hz1⟩ := bcell (B := wr.heap.size + 1) (by simp) hb1
        go_wp2_with (at_builtin; refine wpList_app rfl _ _ 28 69 5 40 _ rfl Try.underlying28 infoAr rfl (by decide) w.heap.size _ D.length _ (by rfl) ((own_below (HO.out.alloc _) hb1).alloc _) _ _ (by rfl) (heap_new1 _ _) rfl (encAr_one m) (by omega) (by decide) (by simp; omega) ?_; intro g2 c2 w2 ho2 hg2 hl2)
        go_roundw
        case rel => exact ⟨k + 1, D ++ [m], some ⟨g2, 0, none⟩, c2, by omega, by go_num, by simp, by simp; omega, Lib.hid (by rw [HN.out, ← HD.out]), bgrown (balloc (bstep (balloc hbr _) hb1) _) hg2 (fun k hk => row_mine HO.out k hk), by simpa [encAr] using ho2⟩
        case measure => simp [intOf]; omega
    · obtain rfl : k = l.length := by omega
      have HO := Lib.hid hown
      have HE := Lib.hid (show D = l.filter p by rw [HD.out, List.take_length])
      clear hown HD
      go_wp2
      go_ret
      refine ⟨A', c', ?_, ?_, hbr⟩
      · rw [← HE.out]; rfl
      · rw [← HE.out]; exact HO.out
end Go.Proofs.Ytaobbkiepggafaa
