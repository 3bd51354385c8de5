/-
  What the law asks of votes; spec's own word for IsCube.
-/
import Derived.Test.YtaobbkiepggafaaGreatLoPl
import Derived.Test.YtaobbkiepggafaaGreatLoVot
namespace Go.Proofs.YtaobbkiepggafaaGreat
set_option linter.unusedVariables false
set_option linter.unusedSimpArgs false
set_option linter.unnecessarySimpa false
open Go.RowKit
attribute [local go_sem] ext_cell ext_frozen

/-- Where consistency is answered, the votes are counted, and all of them means consistent. -/
theorem cons_vot {l : List Ar} {o : Og} (h : (consR l o).2 = true) : ∃ k : Int, votR l o = (k, true) ∧ (consR l o).1 = (k == (l.length : Int)) := by
  unfold consR at h ⊢
  by_cases hg : (locB l && origB o) = true
  · rw [if_pos hg]
    rw [Bool.and_eq_true] at hg
    have h1 := hg.1
    unfold locB at h1
    rw [Bool.and_eq_true] at h1
    refine ⟨(((l.filter fun a => fitB a o).length : Nat) : Int), ?_, ?_⟩
    · unfold votR
      rw [h1.1, hg.2]
      rfl
    · rw [Bool.eq_iff_iff]
      simp only [decide_eq_true_eq, beq_iff_eq]
      omega
  · rw [if_neg hg] at h
    simp at h
theorem prv_eq {l : List Ar} {m : Cu} {s : Int} {S : List Cu} {K : Bool} (h1 : lcL l m s = S) (h2 : lcOK l m s = K) : prvR l m s = (K && decide (S.length = 0), K) := by
  unfold prvR
  rw [h1, h2]
set_option maxRecDepth 100000 in
set_option maxHeartbeats 1000000 in
theorem sIsCube_any (m : Cu) (w : World) :
    Calls Tryz.prog 10 #[.agg #[.int .i64 m.ws, .int .i64 m.so, .int .i64 m.sd, .int .i64 m.fr, .int .i64 m.to_]] w fun e w' => e = .returned (.bool (cubeB m)) ∧ Below w.heap.size w w' := by
  go_enter Tryz.func10, Tryz.ntmps10
  go_wp2_with fail
  refine (l12Good_any m _).mono ?_; rintro e w1 ⟨rfl, hb1⟩
  go_wp2
  go_ret
  exact ⟨rfl, bstep (balloc (bref _) _) hb1⟩
end Go.Proofs.YtaobbkiepggafaaGreat
