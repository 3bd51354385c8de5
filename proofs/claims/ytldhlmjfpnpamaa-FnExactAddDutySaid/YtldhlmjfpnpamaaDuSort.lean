/-
  slices.SortStableFunc over at most 19 duties of the call's own: one insertion sort.
-/
import Derived.Test.YtldhlmjfpnpamaaLaysDuty
import Derived.Test.YtldhlmjfpnpamaaSort
import Derived.Test.YtldhlmjfpnpamaaDuPut
import Derived.Deep.RegionHeld3
namespace Go.Proofs.Ytldhlmjfpnpamaa
open Go.RowKit
attribute [local go_sem] ext_cell ext_frozen

instance inhDu : Inhabited Du := ⟨⟨0, 0, 0, false⟩⟩
set_option maxRecDepth 100000 in
set_option maxHeartbeats 2000000 in
theorem compareDu_lays (a d : Du) (w : World) :
    Calls Try.prog 56 #[.agg #[.int .i64 a.who, .int .i64 a.bg, .int .i64 a.en, .bool a.ch], .agg #[.int .i64 d.who, .int .i64 d.bg, .int .i64 d.en, .bool d.ch]] w fun e w' => e = .returned (.int .i64 (cmpDu a d)) ∧ Lays w w' := by
  go_enter Try.func56, Try.ntmps56
  go_wp2_with fail
  go_region_held3 (fun w' => w'.cell? ⟨w.heap.size, 0, none⟩ = some (.int .i64 a.who) ∧ w'.cell? ⟨w.heap.size, 1, none⟩ = some (.int .i64 a.bg) ∧ w'.cell? ⟨w.heap.size + 1, 0, none⟩ = some (.int .i64 d.who) ∧ w'.cell? ⟨w.heap.size + 1, 1, none⟩ = some (.int .i64 d.bg))
    (go_keep) (first | (go_at_call 74; (with_reducible refine (cmp_any _ _ _).mono ?_); rintro e w' ⟨rfl, rfl⟩) | (go_at_call 86; (with_reducible refine (or2_any (cmpI a.bg d.bg) (cmpI a.who d.who) _ _ _ ?_).mono ?_); exact RowAt.of_block encI_len (heap_new3 _ _ _ _) rfl; rintro e w' ⟨rfl, rfl⟩))
  go_wp2
  go_ret
  exact ⟨rfl, by repeat (first | exact lref _ | (refine lalloc ?_ _) | (refine ldrew ?_) | (refine ldrewN ?_ _))⟩

theorem ltCmp : ltOf cmpDu = ltDu := by
  funext x y
  unfold ltOf
  rw [Bool.eq_iff_iff, ltDu_iff, decide_eq_true_eq]
  unfold cmpDu cmpI
  simp only [orL]
  repeat' split
  all_goals first | omega | (simp at *; omega)
theorem swoDu : Go.Sort.SWO (ltOf cmpDu) := by
  rw [ltCmp]
  refine ⟨fun x => ?_, fun x y z h1 h2 => ?_, fun x y z h1 h2 => ?_⟩
  · exact Bool.eq_false_iff.2 fun h => by rw [ltDu_iff] at h; omega
  · rw [ltDu_iff] at *; omega
  · have h1' : ¬ (ltDu x y = true) := by rw [h1]; simp
    have h2' : ¬ (ltDu y z = true) := by rw [h2]; simp
    refine Bool.eq_false_iff.2 fun h => ?_
    rw [ltDu_iff] at h h1' h2'
    omega
def SortD (l : List Du) (g c base : Nat) (w : World) (e : Ending) (w' : World) : Prop :=
  e = .returned (.tuple #[]) ∧ ∃ S : List Du, S.Perm l ∧ sorD S ∧ S.length = l.length ∧ w'.ownsRow base 25 4 (.slice (some ⟨g, 0, none⟩) l.length c) l.length (S.flatMap encDu) ∧ w.grownBy w' (some g)
theorem insertDu_any (l : List Du) (g c base : Nat) (w : World) (hown : w.ownsRow base 25 4 (.slice (some ⟨g, 0, none⟩) l.length c) l.length (l.flatMap encDu)) (hlen : l.length ≤ 4194304) :
    Calls Try.prog 98 #[.slice (some ⟨g, 0, none⟩) l.length c, .int .i64 0, .int .i64 l.length, .func (.func 56) #[] #[]] w (SortD l g c base w) := by
  have h := AnyQ.insertionSortCmpFunc (α := Du) laysDuty 4 Try.isAgg25 Try.sizeOf25 encDu encDu_len encDu_one cmpDu 56 #[] g 0 c 0 l.length l.toArray w (enters_of Try.func56 (by kernel_rfl) rfl)
    (cmpLays_of (fun x y W => compareDu_lays x y W)) (own_holdsK encDu_len rfl hown) (hown.lt g rfl).2 (Nat.zero_le _) (by simp) (by simp; omega)
  refine h.mono fun e w' ⟨he, n, os, hw⟩ => ?_
  subst hw
  have hs := Go.Sort.insertionSort_holds (lt := ltOf cmpDu) swoDu l.toArray 0 l.toArray.size (Nat.zero_le _) (Nat.le_refl _)
  have hsz : (Go.Sort.insertionSort (ltOf cmpDu) l.toArray 0 l.length).size = l.length := by simpa using hs.1.1
  have h2 := sort_own encDu_len hown hsz n os
  have h3 : sorD (Go.Sort.insertionSort (ltOf cmpDu) l.toArray 0 l.length).toList := (sortedIn_list hsz hs.2).imp fun {x y} hxy => by rw [ltCmp] at hxy; exact hxy
  exact ⟨he, _, by simpa using permIn_list hs.1, h3, by simpa using hsz, h2.1, h2.2⟩
set_option maxRecDepth 100000 in
set_option maxHeartbeats 2000000 in
theorem stableDu_any (l : List Du) (g c base : Nat) (w : World) (hown : w.ownsRow base 25 4 (.slice (some ⟨g, 0, none⟩) l.length c) l.length (l.flatMap encDu)) (hlen : l.length ≤ 19) :
    Calls Try.prog 90 #[.slice (some ⟨g, 0, none⟩) l.length c, .int .i64 l.length, .func (.func 56) #[] #[]] w (SortD l g c base w) := by
  have HI := Lib.hid (insertDu_any l g c base w hown (by omega))
  clear hown
  go_enter Try.func90, Try.ntmps90
  go_wp2_with fail
  refine wp_loop_rounds 1 ?_
  rw [rounds_succ]
  go_wp2_with (go_at_call 98; (with_reducible refine (HI.out).mono ?_); rintro e w1 ⟨rfl, S, hp, hs, hl, ho, hg⟩; have HO := Lib.hid ho; clear ho)
  refine wp_loop_rounds 1 ?_
  rw [rounds_succ]
  go_wp2_with fail
  (try simp only [Exit.inBlock, Exit.then]); refine bodyPost_ret (results_none rfl _ _ _) rfl ?_
  exact ⟨rfl, S, hp, hs, hl, HO.out, hg⟩
set_option maxRecDepth 100000 in
set_option maxHeartbeats 2000000 in
theorem sortStableDu_any (l : List Du) (g c base : Nat) (w : World) (hown : w.ownsRow base 25 4 (.slice (some ⟨g, 0, none⟩) l.length c) l.length (l.flatMap encDu)) (hlen : l.length ≤ 19) :
    Calls Try.prog 69 #[.slice (some ⟨g, 0, none⟩) l.length c, .func (.func 56) #[] #[]] w (SortD l g c base w) := by
  have HI := Lib.hid (stableDu_any l g c base w hown hlen)
  clear hown
  go_enter Try.func69, Try.ntmps69
  go_wp2_with (go_at_call 90; (with_reducible refine (HI.out).mono ?_); rintro e w1 ⟨rfl, S, hp, hs, hl, ho, hg⟩; have HO := Lib.hid ho; clear ho)
  go_end0
  exact ⟨rfl, S, hp, hs, hl, HO.out, hg⟩
end Go.Proofs.Ytldhlmjfpnpamaa
