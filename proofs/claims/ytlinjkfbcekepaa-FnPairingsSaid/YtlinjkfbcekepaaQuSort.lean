/-
  slices.SortFunc over quakes of the call's own, by impl.compareQuakes.
-/
import Derived.Test.YtlinjkfbcekepaaLaysQuake
import Derived.Test.YtlinjkfbcekepaaSort
import Derived.Test.YtlinjkfbcekepaaQuPut
import Derived.Deep.RegionHeld3
namespace Go.Proofs.Ytlinjkfbcekepaa
set_option linter.unusedVariables false
set_option linter.unusedSimpArgs false
set_option linter.unnecessarySimpa false
open Go.RowKit
attribute [local go_sem] ext_cell ext_frozen

instance inhQu : Inhabited Qu := ⟨⟨0, 0, 0, 0⟩⟩
set_option maxRecDepth 100000 in
set_option maxHeartbeats 2000000 in
theorem compareQu_lays (a d : Qu) (w : World) :
    Calls Try.prog 68 #[.agg #[.int .i64 a.tk, .int .i64 a.x, .int .i64 a.y, .int .i64 a.sz], .agg #[.int .i64 d.tk, .int .i64 d.x, .int .i64 d.y, .int .i64 d.sz]] w fun e w' => e = .returned (.int .i64 (cmpQu a d)) ∧ Lays w w' := by
  go_enter Try.func68, Try.ntmps68
  go_wp2_with fail
  go_region_held3 (fun w' => w'.cell? ⟨w.heap.size, 0, none⟩ = some (.int .i64 a.tk) ∧ w'.cell? ⟨w.heap.size, 1, none⟩ = some (.int .i64 a.x) ∧ w'.cell? ⟨w.heap.size, 2, none⟩ = some (.int .i64 a.y) ∧ w'.cell? ⟨w.heap.size, 3, none⟩ = some (.int .i64 a.sz) ∧ w'.cell? ⟨w.heap.size + 1, 0, none⟩ = some (.int .i64 d.tk) ∧ w'.cell? ⟨w.heap.size + 1, 1, none⟩ = some (.int .i64 d.x) ∧ w'.cell? ⟨w.heap.size + 1, 2, none⟩ = some (.int .i64 d.y) ∧ w'.cell? ⟨w.heap.size + 1, 3, none⟩ = some (.int .i64 d.sz))
    (go_keep) (first | (go_at_call 102; (with_reducible refine (cmp_any _ _ _).mono ?_); rintro e w' ⟨rfl, rfl⟩) | (go_at_call 101; (with_reducible refine (or4_any (cmpI a.tk d.tk) (cmpI a.x d.x) (cmpI a.y d.y) (cmpI a.sz d.sz) _ _ _ ?_).mono ?_); exact RowAt.of_block encI_len (heap_new3 _ _ _ _) rfl; rintro e w' ⟨rfl, rfl⟩))
  go_wp2
  go_ret
  exact ⟨rfl, by repeat (first | exact lref _ | (refine lalloc ?_ _) | (refine ldrew ?_) | (refine ldrewN ?_ _))⟩

theorem swoQu : Go.Sort.SWO (ltOf cmpQu) := by
  have e : ltOf cmpQu = ltQu := by funext x y; exact cmpQu_neg x y
  rw [e]
  exact ⟨ltQu_irr, fun _ _ _ h1 h2 => ltQu_trans h1 h2, fun _ _ _ h1 h2 => ltQu_neg_trans h2 h1⟩
theorem sortQu_any (l : List Qu) (g c base : Nat) (w : World) (hown : w.ownsRow base 26 4 (.slice (some ⟨g, 0, none⟩) l.length c) l.length (l.flatMap encQu)) (hlen : l.length ≤ 4194304) :
    Calls Try.prog 86 #[.slice (some ⟨g, 0, none⟩) l.length c, .func (.func 68) #[] #[]] w fun e w' => e = .returned (.tuple #[]) ∧ ∃ S : List Qu, S.Perm l ∧ S.Pairwise (fun x y => ltQu y x = false) ∧ S.length = l.length ∧
      w'.ownsRow base 26 4 (.slice (some ⟨g, 0, none⟩) l.length c) l.length (S.flatMap encQu) ∧ w.grownBy w' (some g) := by
  have h := AnyQ.slices_SortFunc (α := Qu) laysQuake 4 Try.isAgg26 Try.sizeOf26 encQu encQu_len encQu_one cmpQu swoQu 68 #[] g 0 c l.toArray w (enters_of Try.func68 (by kernel_rfl) rfl)
    (cmpLays_of (fun x y W => compareQu_lays x y W)) (own_holdsK encQu_len rfl hown) (hown.lt g rfl).2 (by simp; omega)
  refine h.mono fun e w' ⟨he, d', n, os, hp, hs, hw⟩ => ?_
  subst hw
  have hsz : d'.size = l.length := by simpa using hp.1
  have e : ltOf cmpQu = ltQu := by funext x y; exact cmpQu_neg x y
  rw [e] at hs
  have h2 := sort_own encQu_len hown hsz n os
  exact ⟨he, d'.toList, by simpa using permIn_list hp, sortedIn_list (by simpa using hsz) hs, by simpa using hsz, h2.1, h2.2⟩
end Go.Proofs.Ytlinjkfbcekepaa
