/-
  Doubled packets: impl asks whether the first with the number stands ahead, spec whether it stands elsewhere.
-/
import Derived.Test.YtifkakpiipoadaaPkFirst
namespace Go.Proofs.Ytifkakpiipoadaa
set_option linter.unusedVariables false
set_option linter.unusedSimpArgs false
set_option linter.unnecessarySimpa false
open Go.RowKit
attribute [local go_sem] ext_cell ext_frozen

def dblB (l : List PP) (k : Nat) : Bool := match l[k]? with | none => false | some p => decide (firstP p.1 l < k)
theorem dblB_at {l : List Pk} {k : Nat} {m : Pk} (h : l[k]? = some m) : dblB (plS l) k = decide (firstP m.no (plS l) < k) := by simp [dblB, plS_get h]
set_option maxHeartbeats 1000000 in
theorem dblClos_any (l : List Pk) (A : Option Addr) (c k bx : Nat) (m : Pk) (w : World) (hr : RowAt 2 encPk w A l) (hlen : l.length ≤ 2097152) (hm : l[k]? = some m) (hc : w.cell? ⟨bx, 0, none⟩ = some (.slice A l.length c)) :
    Calls Try.prog 66 #[.int .i64 (k : Int), .agg #[.int .i64 m.no, .slice m.A m.sm.length m.c], .pointer (some ⟨bx, 0, none⟩)] w fun e w' => e = .returned (.bool (dblB (plS l) k)) ∧ Below w.heap.size w w' := by
  have lb : bx < w.heap.size := World.block_lt_of_cell? w ⟨bx, 0, none⟩ hc
  have HR := Lib.hid hr
  have HF := Lib.hid (dblB_at hm)
  clear hr hm
  go_enter Try.func66, Try.ntmps66
  go_wp2_with (go_at_call 67; (with_reducible refine (firstWith_any l _ _ _ _ (HR.out.below (balloc (bref _) _)) hlen).mono ?_); rintro e w1 ⟨rfl, hb1⟩)
  go_ret
  exact ⟨ret_bool HF.out.symm, bstep (balloc (bref _) _) hb1⟩
set_option maxHeartbeats 1000000 in
theorem iDbl_any (l : List Pk) (A : Option Addr) (c : Nat) (w : World) (hr : PkAt w A l) (hlen : tot l ≤ 1048576) :
    Calls Try.prog 21 #[.slice A l.length c] w (MkS2 3 1 (idxR (plS l) (dblB (plS l))).length ((idxR (plS l) (dblB (plS l))).flatMap encI) (goodP (plS l)) w) := by
  have hmf : ∀ (fn : Fn) (first cap : Array Value) (w : World), (Instr.makeFunc fn first cap).run Try.prog w = .ok (.func fn first cap) w := fun _ _ _ _ => rfl
  have hl : l.length ≤ 2097152 := by unfold tot at hlen; omega
  have HR := Lib.hid hr
  clear hr
  go_enter Try.func21, Try.ntmps21
  go_wp2_with fail
  refine (indices_any l A c 66 #[.pointer (some ⟨w.heap.size, 0, none⟩)] (dblB (plS l)) (enters_of Try.func66 (by kernel_rfl) rfl) _ (HR.out.below (balloc (bref _) _)) hlen ?_).mono ?_
  · intro _ w1 hb1 i m hm
    exact dblClos_any l A c i w.heap.size m w1 ((HR.out.below (bstep (balloc (bref w) _) hb1)).1) hl hm ((hb1.cell (p := ⟨w.heap.size, 0, none⟩) (by simp)).trans (by simp [go_sem]))
  · rintro e w1 ⟨A1, c1, rfl, ho1, hb1⟩
    have HO := Lib.hid ho1
    clear hmf ho1
    go_wp2
    go_ret2
    exact ⟨A1, c1, rfl, own_base HO.out (by simp), bstep (balloc (bref _) _) hb1⟩
set_option maxRecDepth 100000 in
set_option maxHeartbeats 2000000 in
theorem sDbl_any (l : List Pk) (A : Option Addr) (c : Nat) (w : World) (hr : PkAt w A l) (hlen : tot l ≤ 1048576) :
    Calls Try.prog 20 #[.slice A l.length c] w (MkS2 3 1 (idxR (plS l) (dblB (plS l))).length ((idxR (plS l) (dblB (plS l))).flatMap encI) (goodP (plS l)) w) := by
  have hl : l.length ≤ 2097152 := by unfold tot at hlen; omega
  have HR := Lib.hid hr
  have HT := Lib.hid hlen
  clear hr hlen
  cases hg : goodP (plS l)
  · have HE := Lib.hid (show idxR (plS l) (dblB (plS l)) = [] by simp [idxR, hg])
    go_enter Try.func20, Try.ntmps20
    go_wp2_with (go_at_call 61; (with_reducible refine (sgoodP_any l _ _ _ (HR.out.below (balloc (bref _) _)) (by have := HT.out; omega)).mono ?_); rw [hg]; rintro e w' ⟨rfl, rfl⟩)
    go_ret2
    rw [HE.out]
    exact ⟨some ⟨w.heap.size, 0, none⟩, 0, rfl, own_made (cur := #[]) rfl (Nat.zero_le _), balloc (bref _) _⟩
  · have HE := Lib.hid (show idxR (plS l) (dblB (plS l)) = plcs (dblB (plS l)) l.length by simp [idxR, hg, plS_len])
    have h10 := goodP_len hg
    go_enter Try.func20, Try.ntmps20
    go_wp2_with (go_at_call 61; (with_reducible refine (sgoodP_any l _ _ _ (HR.out.below (balloc (bref _) _)) (by have := HT.out; omega)).mono ?_); rw [hg]; rintro e w' ⟨rfl, rfl⟩)
    clear hg
    go_loopw [4, 5] (fun v i wr => ∃ (k : Nat) (D : List Int) (A' : Option Addr) (c' : Nat), k ≤ l.length ∧ i = .int .i64 k ∧ v = .slice A' D.length c' ∧ D.length ≤ k ∧ Hid (D = plcs (dblB (plS l)) k) ∧ Below w.heap.size w wr ∧ wr.ownsRow w.heap.size 3 1 (.slice A' D.length c') D.length (D.flatMap encI)) (fun _ i _ => l.length - (intOf i).toNat)
    case atStart => exact ⟨0, [], some ⟨w.heap.size, 0, none⟩, 0, Nat.zero_le _, rfl, rfl, Nat.le_refl _, rfl, balloc (bref _) _, own_made (cur := #[]) rfl (Nat.zero_le _)⟩
    case round =>
      obtain ⟨k, D, A', c', hk, rfl, rfl, hDl, HD, hbr, hown⟩ := hrel
      have HO := Lib.hid hown
      have hsz := hbr.size
      clear hown
      by_cases hlt : k < l.length
      · obtain ⟨m, hm⟩ := some_get hlt
        have i0 := ib0 k
        have i1 := ib1 hlt
        have hF := first_le (plS_get hm)
        simp only at hF
        have hq := dblB_at hm
        obtain ⟨b, off, rfl, hb, q0, q1, _⟩ := (HR.out.below hbr).pk hm
        clear hm
        cases hp : dblB (plS l) k
        · have hne : (firstP m.no (plS l) != (k : Int)) = false := by rw [hp] at hq; have := of_decide_eq_false hq.symm; simp; omega
          have HN := Lib.hid (plcs_miss hp)
          clear hq hF hp
          go_wp2_with fail
          refine (l15First_any l _ _ _ _ (HR.out.below hbr).row hl).mono ?_; rintro e w' ⟨rfl, rfl⟩
          go_wp2
          go_roundw
          case rel => exact ⟨k + 1, D, A', c', by omega, by go_num, rfl, by omega, Lib.hid (by rw [HN.out]; exact HD.out), hbr, HO.out⟩
          case measure => simp [intOf]; omega
        · have hne : (firstP m.no (plS l) != (k : Int)) = true := by rw [hp] at hq; have := of_decide_eq_true hq.symm; simp; omega
          have HN := Lib.hid (plcs_hit hp)
          clear hq hF hp
          go_wp2_with (first | (go_at_call 64; (with_reducible refine (l15First_any l _ _ _ _ (HR.out.below hbr).row hl).mono ?_); rintro e w' ⟨rfl, rfl⟩) | (at_builtin; refine wpList_app rfl _ _ 29 3 1 8 _ rfl Try.underlying29 infoI rfl (by decide) w.heap.size _ D.length _ (by rfl) (HO.out.alloc _) _ _ (by rfl) (heap_new1 _ _) rfl (encI_one (k : Int)) (by omega) (by decide) (by simp; omega) ?_; intro g5 c5 w5 ho5 hg5 hl5))
          go_roundw
          case rel => exact ⟨k + 1, D ++ [(k : Int)], some ⟨g5, 0, none⟩, c5, by omega, by go_num, by simp, by simp; omega, Lib.hid (by rw [HN.out, ← HD.out]), bgrown (balloc hbr _) hg5 (fun k hk => row_mine HO.out k hk), by simpa [encI] using ho5⟩
          case measure => simp [intOf]; omega
      · obtain rfl : k = l.length := by omega
        have HF := Lib.hid (show idxR (plS l) (dblB (plS l)) = D by rw [HE.out, HD.out])
        go_wp2
        go_ret2
        refine ⟨A', c', ?_, ?_, hbr⟩
        · rw [HF.out]; rfl
        · rw [HF.out]; exact HO.out
end Go.Proofs.Ytifkakpiipoadaa
