/-
  The duties that have an hour: impl filters, spec asks each.
-/
import Derived.Test.YtldhlmjfpnpamaaDuFilter
import Derived.Test.YtldhlmjfpnpamaaDuGood
import Derived.Test.YtldhlmjfpnpamaaDuHours
import Derived.Test.YtldhlmjfpnpamaaApp
import Derived.Test.YtldhlmjfpnpamaaKit
namespace Go.Proofs.Ytldhlmjfpnpamaa
open Go.RowKit
attribute [local go_sem] ext_cell ext_frozen

def hasH (h : Int) (d : Du) : Bool := decide (d.bg ≤ h) && decide (h < d.en)
theorem goodDu_all {l : List Du} (h : goodDu l = true) : ∀ m ∈ l, duB m = true := fun m hm => by
  obtain ⟨i, hi⟩ := List.mem_iff_getElem?.1 hm
  exact goodDu_one h hi

set_option maxHeartbeats 1000000 in
theorem onClos_any (h : Int) (m : Du) (b1 : Nat) (w : World) (hm : duB m = true) (c1 : w.cell? ⟨b1, 0, none⟩ = some (.int .i64 h)) :
    Calls Try.prog 89 #[.agg #[.int .i64 m.who, .int .i64 m.bg, .int .i64 m.en, .bool m.ch], .pointer (some ⟨b1, 0, none⟩)] w fun e w' => e = .returned (.bool (hasH h m)) ∧ Below w.heap.size w w' := by
  have l1 : b1 < w.heap.size := World.block_lt_of_cell? w ⟨b1, 0, none⟩ c1
  obtain ⟨_, h1, h2, _⟩ := duB_bounds hm
  clear hm
  go_enter Try.func89, Try.ntmps89
  go_wp2_with (go_at_call 54; (with_reducible refine (in_any _ _ _ _).mono ?_); rintro e w' ⟨rfl, rfl⟩)
  go_ret
  exact ⟨ret_bool (by unfold inB hasH; congr 1; rw [decide_eq_decide]; omega), (by repeat (first | exact bref _ | (refine balloc ?_ _) | (refine bdrew ?_) | (refine bdrewN ?_ _) | (refine bstep ?_ (by assumption))))⟩

def onL (h : Int) (l : List Du) : List Du := l.filter (hasH h)
theorem onL_le (h : Int) (l : List Du) : (onL h l).length ≤ l.length := List.length_filter_le _ _
set_option maxRecDepth 100000 in
set_option maxHeartbeats 1000000 in
theorem onDuty_any (l : List Du) (A : Option Addr) (c : Nat) (h : Int) (w : World) (hr : RowAt 4 encDu w A l) (hlen : l.length ≤ 2097152) (hg : ∀ m ∈ l, duB m = true) :
    Calls Try.prog 66 #[.slice A l.length c, .int .i64 h] w (MkS 25 4 (onL h l).length ((onL h l).flatMap encDu) w) := by
  have hmf : ∀ (fn : Fn) (first cap : Array Value) (w : World), (Instr.makeFunc fn first cap).run Try.prog w = .ok (.func fn first cap) w := fun _ _ _ _ => rfl
  have HR := Lib.hid hr
  have HG := Lib.hid hg
  clear hr hg
  go_enter Try.func66, Try.ntmps66
  go_wp2_with fail
  refine (filterDu_any l _ _ _ _ (hasH h) (enters_of Try.func89 (by kernel_rfl) rfl) _ (HR.out.below (balloc (bref _) _)) hlen ?_).mono ?_
  · intro w1 hb1 m hm
    refine onClos_any h m w.heap.size w1 (HG.out m hm) ?_
    exact (hb1.cell (p := ⟨w.heap.size, 0, none⟩) (by simp)).trans (by simp [go_sem])
  · rintro e w1 ⟨A1, c1, rfl, ho1, hb1⟩
    have HO := Lib.hid ho1
    clear ho1 hmf HR HG
    go_wp2
    go_ret
    exact ⟨A1, c1, rfl, own_base HO.out (by simp), (by repeat (first | exact bref _ | (refine balloc ?_ _) | (refine bdrew ?_) | (refine bdrewN ?_ _) | (refine bstep ?_ (by assumption))))⟩

set_option maxHeartbeats 1000000 in
theorem l17Has_any (m : Du) (h : Int) (w : World) :
    Calls Try.prog 65 #[.agg #[.int .i64 m.who, .int .i64 m.bg, .int .i64 m.en, .bool m.ch], .int .i64 h] w fun e w' => e = .returned (.bool (hasH h m)) ∧ Below w.heap.size w w' := by
  by_cases h1 : m.bg ≤ h
  all_goals
    go_enter Try.func65, Try.ntmps65
    go_wp2
    go_ret
    exact ⟨ret_bool (by simp [hasH, h1] <;> omega), (by repeat (first | exact bref _ | (refine balloc ?_ _) | (refine bdrew ?_) | (refine bdrewN ?_ _) | (refine bstep ?_ (by assumption))))⟩
theorem onL_hit {h : Int} {l : List Du} {k : Nat} {m : Du} (hm : l[k]? = some m) (hp : hasH h m = true) : onL h (l.take (k + 1)) = onL h (l.take k) ++ [m] := filter_hitDu hm hp
theorem onL_miss {h : Int} {l : List Du} {k : Nat} {m : Du} (hm : l[k]? = some m) (hp : hasH h m = false) : onL h (l.take (k + 1)) = onL h (l.take k) := filter_missDu hm hp
end Go.Proofs.Ytldhlmjfpnpamaa
