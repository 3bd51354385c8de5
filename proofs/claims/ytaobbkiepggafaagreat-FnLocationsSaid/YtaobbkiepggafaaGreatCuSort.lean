/-
  slices.SortFunc over cubes of the call's own, by impl.LocateIn's order; spec's order.
-/
import Derived.Test.YtaobbkiepggafaaGreatLaysCube
import Derived.Test.YtaobbkiepggafaaGreatSort
import Derived.Test.YtaobbkiepggafaaGreatCmp
import Derived.Test.YtaobbkiepggafaaGreatCuAllP
import Derived.Deep.RegionHeld3
namespace Go.Proofs.YtaobbkiepggafaaGreat
set_option linter.unusedVariables false
set_option linter.unusedSimpArgs false
set_option linter.unnecessarySimpa false
open Go.RowKit
attribute [local go_sem] ext_cell ext_frozen

instance inhCu : Inhabited Cu := ⟨⟨0, 0, 0, 0, 0⟩⟩
def cmpC (a b : Cu) : Int := orL [cmpI a.ws b.ws, cmpI a.so b.so]
theorem cmpI_zero {a b : Int} : cmpI a b = 0 ↔ a = b := by
  unfold cmpI; split <;> (try split) <;> omega
theorem cmpC_neg (a b : Cu) : decide (cmpC a b < 0) = ltC a b := by
  unfold cmpC ltC
  simp only [orL, cmpI_zero]
  rw [decide_eq_decide]
  unfold cmpI
  repeat' split
  all_goals omega
set_option maxRecDepth 100000 in
set_option maxHeartbeats 2000000 in
theorem compareC_lays (a d : Cu) (w : World) :
    Calls Tryz.prog 31 #[.agg #[.int .i64 a.ws, .int .i64 a.so, .int .i64 a.sd, .int .i64 a.fr, .int .i64 a.to_], .agg #[.int .i64 d.ws, .int .i64 d.so, .int .i64 d.sd, .int .i64 d.fr, .int .i64 d.to_]] w fun e w' => e = .returned (.int .i64 (cmpC a d)) ∧ Lays w w' := by
  go_enter Tryz.func31, Tryz.ntmps31
  go_wp2_with fail
  go_region_held3 (fun w' => w'.cell? ⟨w.heap.size, 0, none⟩ = some (.int .i64 a.ws) ∧ w'.cell? ⟨w.heap.size, 1, none⟩ = some (.int .i64 a.so) ∧ w'.cell? ⟨w.heap.size + 1, 0, none⟩ = some (.int .i64 d.ws) ∧ w'.cell? ⟨w.heap.size + 1, 1, none⟩ = some (.int .i64 d.so))
    (go_keep) (first | (go_at_call 33; (with_reducible refine (cmp_any _ _ _).mono ?_); rintro e w' ⟨rfl, rfl⟩) | (go_at_call 32; (with_reducible refine (or2_any (cmpI a.ws d.ws) (cmpI a.so d.so) _ _ _ ?_).mono ?_); exact RowAt.of_block encI_len (heap_new3 _ _ _ _) rfl; rintro e w' ⟨rfl, rfl⟩))
  go_wp2
  go_ret
  exact ⟨rfl, by repeat (first | exact lref _ | (refine lalloc ?_ _) | (refine ldrew ?_) | (refine ldrewN ?_ _))⟩
theorem swoC : Go.Sort.SWO (ltOf cmpC) := by
  have e : ltOf cmpC = ltC := by funext x y; exact cmpC_neg x y
  rw [e]
  refine ⟨fun x => ?_, fun x y z h1 h2 => ?_, fun x y z h1 h2 => ?_⟩
  · rw [ltC_no]; omega
  · rw [ltC_iff] at h1 h2 ⊢; omega
  · rw [ltC_no] at h1 h2 ⊢; omega
set_option maxRecDepth 100000 in
theorem sortC_any (l : List Cu) (g c base : Nat) (w : World) (hown : w.ownsRow base 26 5 (.slice (some ⟨g, 0, none⟩) l.length c) l.length (l.flatMap encCu)) (hlen : l.length ≤ 4194304) :
    Calls Tryz.prog 30 #[.slice (some ⟨g, 0, none⟩) l.length c, .func (.func 31) #[] #[]] w fun e w' => e = .returned (.tuple #[]) ∧ ∃ S : List Cu, S.Perm l ∧ srtd S ∧ S.length = l.length ∧
      w'.ownsRow base 26 5 (.slice (some ⟨g, 0, none⟩) l.length c) l.length (S.flatMap encCu) ∧ w.grownBy w' (some g) := by
  have h := AnyQ.slices_SortFunc (α := Cu) laysCube 5 Tryz.isAgg26 Tryz.sizeOf26 encCu encCu_len encCu_one cmpC swoC 31 #[] g 0 c l.toArray w (enters_of Tryz.func31 (by kernel_rfl) rfl)
    (cmpLays_of (fun x y W => compareC_lays x y W)) (own_holdsK encCu_len rfl hown) (hown.lt g rfl).2 (by simp; omega)
  refine h.mono fun e w' ⟨he, d', n, os, hp, hs, hw⟩ => ?_
  subst hw
  have hsz : d'.size = l.length := by simpa using hp.1
  have e : ltOf cmpC = ltC := by funext x y; exact cmpC_neg x y
  rw [e] at hs
  have h2 := sort_own encCu_len hown hsz n os
  exact ⟨he, d'.toList, by simpa using permIn_list hp, sortedIn_list (by simpa using hsz) hs, by simpa using hsz, h2.1, h2.2⟩

set_option maxRecDepth 100000 in
set_option maxHeartbeats 2000000 in
theorem l12Before_any (a d : Cu) (w : World) :
    Calls Tryz.prog 36 #[.agg #[.int .i64 a.ws, .int .i64 a.so, .int .i64 a.sd, .int .i64 a.fr, .int .i64 a.to_], .agg #[.int .i64 d.ws, .int .i64 d.so, .int .i64 d.sd, .int .i64 d.fr, .int .i64 d.to_]] w fun e w' => e = .returned (.bool (ltC a d)) ∧ Below w.heap.size w w' := by
  by_cases h1 : a.ws < d.ws
  · have HF := Lib.hid (show ltC a d = true by rw [ltC_iff]; omega)
    go_enter Tryz.func36, Tryz.ntmps36
    go_wp2
    go_ret
    exact ⟨ret_bool HF.out.symm, (by repeat (first | exact bref _ | (refine balloc ?_ _) | (refine bdrew ?_) | (refine bdrewN ?_ _) | (refine bstep ?_ (by assumption))))⟩
  · by_cases h2 : a.ws = d.ws
    · have h2' : (a.ws == d.ws) = true := by simp [h2]
      have HF := Lib.hid (show ltC a d = decide (a.so < d.so) by
        unfold ltC; rw [decide_eq_decide]; omega)
      clear h2
      go_enter Tryz.func36, Tryz.ntmps36
      go_wp2
      go_ret
      exact ⟨ret_bool HF.out.symm, (by repeat (first | exact bref _ | (refine balloc ?_ _) | (refine bdrew ?_) | (refine bdrewN ?_ _) | (refine bstep ?_ (by assumption))))⟩
    · have h2' : (a.ws == d.ws) = false := by simp [h2]
      have HF := Lib.hid (show ltC a d = false by rw [ltC_no]; omega)
      go_enter Tryz.func36, Tryz.ntmps36
      go_wp2
      go_ret
      exact ⟨ret_bool HF.out.symm, (by repeat (first | exact bref _ | (refine balloc ?_ _) | (refine bdrew ?_) | (refine bdrewN ?_ _) | (refine bstep ?_ (by assumption))))⟩
end Go.Proofs.YtaobbkiepggafaaGreat
