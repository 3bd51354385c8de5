/-
  No cell of these rows narrows 'for every input' (looked for: loops, veiled, ifaces, maps, wideKeys, modest, calm, conditions, laid).
  DERIVED. THE GIVEN ROWS OF THIS SEAT. 11 by the template 'for every input the law returns true; each argument reads behind the call as it read before'; 0 by the template 'total and deterministic' (their statements: YtldhlmjfpnpamaaTotals.lean).
  GIVEN WITH THE SEED: the statements are not yours to turn. If you find one false, say at which input.
  Laid BY PROGRAM, IN A SANDBOX (cutbox-rows.mjs): the forced cells as the released guide's own fill.sh prints them over the translation 0011eabff43ac93f… (all of the seat's roots in one cut). By AI agents, Wed Nov 11 2026. No macro, syntax, notation, axiom, sorry.
-/
import Derived.Test.YtldhlmjfpnpamaaChecked
import GoSem.Claim
import GoSem.ClaimJoined
import GoSem.ClaimMapViews
import Derived.JoinedTies
import Derived.KernelRfl
namespace Go.Proofs.Ytldhlmjfpnpamaa
/- THE CELL 'sum', in the pinned program and in every row, IS THE sha256 OF THE DUMP (.gsa) THAT YtldhlmjfpnpamaaProg.lean LOADS. Nothing in Lean hashes anything: it is a label: what it is worth is what the hold of that sum in a sandbox is worth. -/
noncomputable def Try.pinned : Pinned := { name := "ytldhlmjfpnpamaa", sum := "0011eabff43ac93f4088321e9b005b2480a95579a478af2019af6a578e168ac6", checked := Try.checked }
namespace Rows
def none {H : Type} : Left H := { results := [], args := [] }

/-- 'laws.FnExactIsDuty': WHATEVER THE INPUT: true; the input reads as it did. -/
def fnExactIsDutySpec : ChangeSpec := { name := "fnExactIsDuty", fn := fun _ => fun
  | [d] => { results := [.lit (.bool true)], args := [d] }
  | _ => none }
def fnExactIsDutyRow : OpenClaim := { program := "ytldhlmjfpnpamaa", sum := "0011eabff43ac93f4088321e9b005b2480a95579a478af2019af6a578e168ac6", func := "loop.example/g01017/laws.FnExactIsDuty", spec := "fnExactIsDuty", apart := false }
def FnExactIsDutySaid : Prop := fnExactIsDutyRow.holds Try.pinned (OpenSpec.ofChange fnExactIsDutySpec)

/-- ITS FALSE NEIGHBOUR: 'it returns false'. Refute it at one input. -/
def fnExactIsDutyWrong : ChangeSpec := { name := "fnExactIsDuty", fn := fun _ => fun
  | [d] => { results := [.lit (.bool false)], args := [d] }
  | _ => none }
def FnExactIsDutyWrongFalsely : Prop := fnExactIsDutyRow.holds Try.pinned (OpenSpec.ofChange fnExactIsDutyWrong)

/-- 'laws.FnExactAreDuties': WHATEVER THE INPUT: true; the input reads as it did. -/
def fnExactAreDutiesSpec : ChangeSpec := { name := "fnExactAreDuties", fn := fun _ => fun
  | [d] => { results := [.lit (.bool true)], args := [d] }
  | _ => none }
def fnExactAreDutiesRow : OpenClaim := { program := "ytldhlmjfpnpamaa", sum := "0011eabff43ac93f4088321e9b005b2480a95579a478af2019af6a578e168ac6", func := "loop.example/g01017/laws.FnExactAreDuties", spec := "fnExactAreDuties", unfollowed := true, recurses := true, apart := false }
def FnExactAreDutiesSaid : Prop := fnExactAreDutiesRow.holds Try.pinned (OpenSpec.ofChange fnExactAreDutiesSpec)

/-- ITS FALSE NEIGHBOUR: 'it returns false'. Refute it at one input. -/
def fnExactAreDutiesWrong : ChangeSpec := { name := "fnExactAreDuties", fn := fun _ => fun
  | [d] => { results := [.lit (.bool false)], args := [d] }
  | _ => none }
def FnExactAreDutiesWrongFalsely : Prop := fnExactAreDutiesRow.holds Try.pinned (OpenSpec.ofChange fnExactAreDutiesWrong)

/-- 'laws.FnExactHoursOf': WHATEVER THE INPUT: true; the input reads as it did. -/
def fnExactHoursOfSpec : ChangeSpec := { name := "fnExactHoursOf", fn := fun _ => fun
  | [d1, d2] => { results := [.lit (.bool true)], args := [d1, d2] }
  | _ => none }
def fnExactHoursOfRow : OpenClaim := { program := "ytldhlmjfpnpamaa", sum := "0011eabff43ac93f4088321e9b005b2480a95579a478af2019af6a578e168ac6", func := "loop.example/g01017/laws.FnExactHoursOf", spec := "fnExactHoursOf", unfollowed := true, recurses := true, apart := false }
def FnExactHoursOfSaid : Prop := fnExactHoursOfRow.holds Try.pinned (OpenSpec.ofChange fnExactHoursOfSpec)

/-- ITS FALSE NEIGHBOUR: 'it returns false'. Refute it at one input. -/
def fnExactHoursOfWrong : ChangeSpec := { name := "fnExactHoursOf", fn := fun _ => fun
  | [d1, d2] => { results := [.lit (.bool false)], args := [d1, d2] }
  | _ => none }
def FnExactHoursOfWrongFalsely : Prop := fnExactHoursOfRow.holds Try.pinned (OpenSpec.ofChange fnExactHoursOfWrong)

/-- 'laws.FnExactGapsBetween': WHATEVER THE INPUT: true; the input reads as it did. -/
def fnExactGapsBetweenSpec : ChangeSpec := { name := "fnExactGapsBetween", fn := fun _ => fun
  | [d1, d2, d3] => { results := [.lit (.bool true)], args := [d1, d2, d3] }
  | _ => none }
def fnExactGapsBetweenRow : OpenClaim := { program := "ytldhlmjfpnpamaa", sum := "0011eabff43ac93f4088321e9b005b2480a95579a478af2019af6a578e168ac6", func := "loop.example/g01017/laws.FnExactGapsBetween", spec := "fnExactGapsBetween", unfollowed := true, recurses := true, apart := false }
def FnExactGapsBetweenSaid : Prop := fnExactGapsBetweenRow.holds Try.pinned (OpenSpec.ofChange fnExactGapsBetweenSpec)

/-- ITS FALSE NEIGHBOUR: 'it returns false'. Refute it at one input. -/
def fnExactGapsBetweenWrong : ChangeSpec := { name := "fnExactGapsBetween", fn := fun _ => fun
  | [d1, d2, d3] => { results := [.lit (.bool false)], args := [d1, d2, d3] }
  | _ => none }
def FnExactGapsBetweenWrongFalsely : Prop := fnExactGapsBetweenRow.holds Try.pinned (OpenSpec.ofChange fnExactGapsBetweenWrong)

/-- 'laws.FnExactAddDuty': WHATEVER THE INPUT: true; the input reads as it did. -/
def fnExactAddDutySpec : ChangeSpec := { name := "fnExactAddDuty", fn := fun _ => fun
  | [d1, d2] => { results := [.lit (.bool true)], args := [d1, d2] }
  | _ => none }
def fnExactAddDutyRow : OpenClaim := { program := "ytldhlmjfpnpamaa", sum := "0011eabff43ac93f4088321e9b005b2480a95579a478af2019af6a578e168ac6", func := "loop.example/g01017/laws.FnExactAddDuty", spec := "fnExactAddDuty", unfollowed := true, recurses := true, apart := false }
def FnExactAddDutySaid : Prop := fnExactAddDutyRow.holds Try.pinned (OpenSpec.ofChange fnExactAddDutySpec)

/-- ITS FALSE NEIGHBOUR: 'it returns false'. Refute it at one input. -/
def fnExactAddDutyWrong : ChangeSpec := { name := "fnExactAddDuty", fn := fun _ => fun
  | [d1, d2] => { results := [.lit (.bool false)], args := [d1, d2] }
  | _ => none }
def FnExactAddDutyWrongFalsely : Prop := fnExactAddDutyRow.holds Try.pinned (OpenSpec.ofChange fnExactAddDutyWrong)

/-- 'laws.FnExactSwapDuties': WHATEVER THE INPUT: true; the input reads as it did. -/
def fnExactSwapDutiesSpec : ChangeSpec := { name := "fnExactSwapDuties", fn := fun _ => fun
  | [d1, d2, d3] => { results := [.lit (.bool true)], args := [d1, d2, d3] }
  | _ => none }
def fnExactSwapDutiesRow : OpenClaim := { program := "ytldhlmjfpnpamaa", sum := "0011eabff43ac93f4088321e9b005b2480a95579a478af2019af6a578e168ac6", func := "loop.example/g01017/laws.FnExactSwapDuties", spec := "fnExactSwapDuties", unfollowed := true, recurses := true, apart := false }
def FnExactSwapDutiesSaid : Prop := fnExactSwapDutiesRow.holds Try.pinned (OpenSpec.ofChange fnExactSwapDutiesSpec)

/-- ITS FALSE NEIGHBOUR: 'it returns false'. Refute it at one input. -/
def fnExactSwapDutiesWrong : ChangeSpec := { name := "fnExactSwapDuties", fn := fun _ => fun
  | [d1, d2, d3] => { results := [.lit (.bool false)], args := [d1, d2, d3] }
  | _ => none }
def FnExactSwapDutiesWrongFalsely : Prop := fnExactSwapDutiesRow.holds Try.pinned (OpenSpec.ofChange fnExactSwapDutiesWrong)

/-- 'laws.FnExactLeaderAt': WHATEVER THE INPUT: true; the input reads as it did. -/
def fnExactLeaderAtSpec : ChangeSpec := { name := "fnExactLeaderAt", fn := fun _ => fun
  | [d1, d2] => { results := [.lit (.bool true)], args := [d1, d2] }
  | _ => none }
def fnExactLeaderAtRow : OpenClaim := { program := "ytldhlmjfpnpamaa", sum := "0011eabff43ac93f4088321e9b005b2480a95579a478af2019af6a578e168ac6", func := "loop.example/g01017/laws.FnExactLeaderAt", spec := "fnExactLeaderAt", unfollowed := true, recurses := true, apart := false }
def FnExactLeaderAtSaid : Prop := fnExactLeaderAtRow.holds Try.pinned (OpenSpec.ofChange fnExactLeaderAtSpec)

/-- ITS FALSE NEIGHBOUR: 'it returns false'. Refute it at one input. -/
def fnExactLeaderAtWrong : ChangeSpec := { name := "fnExactLeaderAt", fn := fun _ => fun
  | [d1, d2] => { results := [.lit (.bool false)], args := [d1, d2] }
  | _ => none }
def FnExactLeaderAtWrongFalsely : Prop := fnExactLeaderAtRow.holds Try.pinned (OpenSpec.ofChange fnExactLeaderAtWrong)

/-- 'laws.FnExactFairShare': WHATEVER THE INPUT: true; the input reads as it did. -/
def fnExactFairShareSpec : ChangeSpec := { name := "fnExactFairShare", fn := fun _ => fun
  | [d] => { results := [.lit (.bool true)], args := [d] }
  | _ => none }
def fnExactFairShareRow : OpenClaim := { program := "ytldhlmjfpnpamaa", sum := "0011eabff43ac93f4088321e9b005b2480a95579a478af2019af6a578e168ac6", func := "loop.example/g01017/laws.FnExactFairShare", spec := "fnExactFairShare", unfollowed := true, recurses := true, apart := false }
def FnExactFairShareSaid : Prop := fnExactFairShareRow.holds Try.pinned (OpenSpec.ofChange fnExactFairShareSpec)

/-- ITS FALSE NEIGHBOUR: 'it returns false'. Refute it at one input. -/
def fnExactFairShareWrong : ChangeSpec := { name := "fnExactFairShare", fn := fun _ => fun
  | [d] => { results := [.lit (.bool false)], args := [d] }
  | _ => none }
def FnExactFairShareWrongFalsely : Prop := fnExactFairShareRow.holds Try.pinned (OpenSpec.ofChange fnExactFairShareWrong)

/-- 'laws.FnExactOnDuty': WHATEVER THE INPUT: true; the input reads as it did. -/
def fnExactOnDutySpec : ChangeSpec := { name := "fnExactOnDuty", fn := fun _ => fun
  | [d1, d2] => { results := [.lit (.bool true)], args := [d1, d2] }
  | _ => none }
def fnExactOnDutyRow : OpenClaim := { program := "ytldhlmjfpnpamaa", sum := "0011eabff43ac93f4088321e9b005b2480a95579a478af2019af6a578e168ac6", func := "loop.example/g01017/laws.FnExactOnDuty", spec := "fnExactOnDuty", unfollowed := true, recurses := true, apart := false }
def FnExactOnDutySaid : Prop := fnExactOnDutyRow.holds Try.pinned (OpenSpec.ofChange fnExactOnDutySpec)

/-- ITS FALSE NEIGHBOUR: 'it returns false'. Refute it at one input. -/
def fnExactOnDutyWrong : ChangeSpec := { name := "fnExactOnDuty", fn := fun _ => fun
  | [d1, d2] => { results := [.lit (.bool false)], args := [d1, d2] }
  | _ => none }
def FnExactOnDutyWrongFalsely : Prop := fnExactOnDutyRow.holds Try.pinned (OpenSpec.ofChange fnExactOnDutyWrong)

/-- 'laws.FnExactFreeFor': WHATEVER THE INPUT: true; the input reads as it did. -/
def fnExactFreeForSpec : ChangeSpec := { name := "fnExactFreeFor", fn := fun _ => fun
  | [d1, d2, d3] => { results := [.lit (.bool true)], args := [d1, d2, d3] }
  | _ => none }
def fnExactFreeForRow : OpenClaim := { program := "ytldhlmjfpnpamaa", sum := "0011eabff43ac93f4088321e9b005b2480a95579a478af2019af6a578e168ac6", func := "loop.example/g01017/laws.FnExactFreeFor", spec := "fnExactFreeFor", unfollowed := true, recurses := true, apart := false }
def FnExactFreeForSaid : Prop := fnExactFreeForRow.holds Try.pinned (OpenSpec.ofChange fnExactFreeForSpec)

/-- ITS FALSE NEIGHBOUR: 'it returns false'. Refute it at one input. -/
def fnExactFreeForWrong : ChangeSpec := { name := "fnExactFreeFor", fn := fun _ => fun
  | [d1, d2, d3] => { results := [.lit (.bool false)], args := [d1, d2, d3] }
  | _ => none }
def FnExactFreeForWrongFalsely : Prop := fnExactFreeForRow.holds Try.pinned (OpenSpec.ofChange fnExactFreeForWrong)

/-- 'laws.FnShifts': WHATEVER THE INPUT: true; the input reads as it did. -/
def fnShiftsSpec : ChangeSpec := { name := "fnShifts", fn := fun _ => fun
  | [d] => { results := [.lit (.bool true)], args := [d] }
  | _ => none }
def fnShiftsRow : OpenClaim := { program := "ytldhlmjfpnpamaa", sum := "0011eabff43ac93f4088321e9b005b2480a95579a478af2019af6a578e168ac6", func := "loop.example/g01017/laws.FnShifts", spec := "fnShifts", unfollowed := true, recurses := true, apart := false }
def FnShiftsSaid : Prop := fnShiftsRow.holds Try.pinned (OpenSpec.ofChange fnShiftsSpec)

/-- ITS FALSE NEIGHBOUR: 'it returns false'. Refute it at one input. -/
def fnShiftsWrong : ChangeSpec := { name := "fnShifts", fn := fun _ => fun
  | [d] => { results := [.lit (.bool false)], args := [d] }
  | _ => none }
def FnShiftsWrongFalsely : Prop := fnShiftsRow.holds Try.pinned (OpenSpec.ofChange fnShiftsWrong)

/- THE SECOND FORM. 'bulk': how many values and letters a reading holds, each counted each time it is reached (what is shared counts as often as it is met; a slice's spare places count too). A statement '..UptoSaid' is the law's where the arguments, and the package variables that the reading takes, are together of bulk at most 1048576: NARROWER than '..Said'. Prove '..Said' where nothing that the law and all that it calls make is longer than what came in: it says more and counts as full. Else prove '..UptoSaid'. A law counts once. -/
mutual
def uptoBulk {H : Type} : DataW H → Nat
  | .lit (.string bytes) => bytes.length + 1
  | .lit _ => 1
  | .nil => 1
  | .ptr d => uptoBulk d + 1
  | .slice elems spare => uptoBulkAll elems + uptoBulkAll spare + 1
  | .agg parts => uptoBulkAll parts + 1
  | .iface _ d => uptoBulk d + 1
  | .map entries => uptoBulkEntries entries + 1
  | .held _ => 1
def uptoBulkAll {H : Type} : List (DataW H) → Nat
  | [] => 0
  | d :: r => uptoBulk d + uptoBulkAll r
def uptoBulkEntries {H : Type} : List (Lit × DataW H) → Nat
  | [] => 0
  | x :: r => uptoBulkEntry x + uptoBulkEntries r
def uptoBulkEntry {H : Type} : Lit × DataW H → Nat
  | (.string bytes, d) => bytes.length + uptoBulk d + 1
  | (_, d) => uptoBulk d + 1
 end
def uptoSmall : (H : Type) → List (DataW H) → Bool := fun _ ds => decide (uptoBulkAll ds ≤ 1048576)
def OpenSpec.upto (s : _root_.Go.ChangeSpec) : _root_.Go.OpenSpec := { _root_.Go.OpenSpec.ofChange s with cond := some uptoSmall }

/-- 'laws.FnExactIsDuty', WHERE WHAT IT READS IS OF BULK AT MOST 1048576: true; the input reads as it did. -/
def fnExactIsDutyUptoRow : OpenClaim := { program := "ytldhlmjfpnpamaa", sum := "0011eabff43ac93f4088321e9b005b2480a95579a478af2019af6a578e168ac6", func := "loop.example/g01017/laws.FnExactIsDuty", spec := "fnExactIsDuty", apart := false, narrowed := true }
def FnExactIsDutyUptoSaid : Prop := fnExactIsDutyUptoRow.holds Try.pinned (OpenSpec.upto fnExactIsDutySpec)

/-- 'laws.FnExactAreDuties', WHERE WHAT IT READS IS OF BULK AT MOST 1048576: true; the input reads as it did. -/
def fnExactAreDutiesUptoRow : OpenClaim := { program := "ytldhlmjfpnpamaa", sum := "0011eabff43ac93f4088321e9b005b2480a95579a478af2019af6a578e168ac6", func := "loop.example/g01017/laws.FnExactAreDuties", spec := "fnExactAreDuties", unfollowed := true, recurses := true, apart := false, narrowed := true }
def FnExactAreDutiesUptoSaid : Prop := fnExactAreDutiesUptoRow.holds Try.pinned (OpenSpec.upto fnExactAreDutiesSpec)

/-- 'laws.FnExactHoursOf', WHERE WHAT IT READS IS OF BULK AT MOST 1048576: true; the input reads as it did. -/
def fnExactHoursOfUptoRow : OpenClaim := { program := "ytldhlmjfpnpamaa", sum := "0011eabff43ac93f4088321e9b005b2480a95579a478af2019af6a578e168ac6", func := "loop.example/g01017/laws.FnExactHoursOf", spec := "fnExactHoursOf", unfollowed := true, recurses := true, apart := false, narrowed := true }
def FnExactHoursOfUptoSaid : Prop := fnExactHoursOfUptoRow.holds Try.pinned (OpenSpec.upto fnExactHoursOfSpec)

/-- 'laws.FnExactGapsBetween', WHERE WHAT IT READS IS OF BULK AT MOST 1048576: true; the input reads as it did. -/
def fnExactGapsBetweenUptoRow : OpenClaim := { program := "ytldhlmjfpnpamaa", sum := "0011eabff43ac93f4088321e9b005b2480a95579a478af2019af6a578e168ac6", func := "loop.example/g01017/laws.FnExactGapsBetween", spec := "fnExactGapsBetween", unfollowed := true, recurses := true, apart := false, narrowed := true }
def FnExactGapsBetweenUptoSaid : Prop := fnExactGapsBetweenUptoRow.holds Try.pinned (OpenSpec.upto fnExactGapsBetweenSpec)

/-- 'laws.FnExactAddDuty', WHERE WHAT IT READS IS OF BULK AT MOST 1048576: true; the input reads as it did. -/
def fnExactAddDutyUptoRow : OpenClaim := { program := "ytldhlmjfpnpamaa", sum := "0011eabff43ac93f4088321e9b005b2480a95579a478af2019af6a578e168ac6", func := "loop.example/g01017/laws.FnExactAddDuty", spec := "fnExactAddDuty", unfollowed := true, recurses := true, apart := false, narrowed := true }
def FnExactAddDutyUptoSaid : Prop := fnExactAddDutyUptoRow.holds Try.pinned (OpenSpec.upto fnExactAddDutySpec)

/-- 'laws.FnExactSwapDuties', WHERE WHAT IT READS IS OF BULK AT MOST 1048576: true; the input reads as it did. -/
def fnExactSwapDutiesUptoRow : OpenClaim := { program := "ytldhlmjfpnpamaa", sum := "0011eabff43ac93f4088321e9b005b2480a95579a478af2019af6a578e168ac6", func := "loop.example/g01017/laws.FnExactSwapDuties", spec := "fnExactSwapDuties", unfollowed := true, recurses := true, apart := false, narrowed := true }
def FnExactSwapDutiesUptoSaid : Prop := fnExactSwapDutiesUptoRow.holds Try.pinned (OpenSpec.upto fnExactSwapDutiesSpec)

/-- 'laws.FnExactLeaderAt', WHERE WHAT IT READS IS OF BULK AT MOST 1048576: true; the input reads as it did. -/
def fnExactLeaderAtUptoRow : OpenClaim := { program := "ytldhlmjfpnpamaa", sum := "0011eabff43ac93f4088321e9b005b2480a95579a478af2019af6a578e168ac6", func := "loop.example/g01017/laws.FnExactLeaderAt", spec := "fnExactLeaderAt", unfollowed := true, recurses := true, apart := false, narrowed := true }
def FnExactLeaderAtUptoSaid : Prop := fnExactLeaderAtUptoRow.holds Try.pinned (OpenSpec.upto fnExactLeaderAtSpec)

/-- 'laws.FnExactFairShare', WHERE WHAT IT READS IS OF BULK AT MOST 1048576: true; the input reads as it did. -/
def fnExactFairShareUptoRow : OpenClaim := { program := "ytldhlmjfpnpamaa", sum := "0011eabff43ac93f4088321e9b005b2480a95579a478af2019af6a578e168ac6", func := "loop.example/g01017/laws.FnExactFairShare", spec := "fnExactFairShare", unfollowed := true, recurses := true, apart := false, narrowed := true }
def FnExactFairShareUptoSaid : Prop := fnExactFairShareUptoRow.holds Try.pinned (OpenSpec.upto fnExactFairShareSpec)

/-- 'laws.FnExactOnDuty', WHERE WHAT IT READS IS OF BULK AT MOST 1048576: true; the input reads as it did. -/
def fnExactOnDutyUptoRow : OpenClaim := { program := "ytldhlmjfpnpamaa", sum := "0011eabff43ac93f4088321e9b005b2480a95579a478af2019af6a578e168ac6", func := "loop.example/g01017/laws.FnExactOnDuty", spec := "fnExactOnDuty", unfollowed := true, recurses := true, apart := false, narrowed := true }
def FnExactOnDutyUptoSaid : Prop := fnExactOnDutyUptoRow.holds Try.pinned (OpenSpec.upto fnExactOnDutySpec)

/-- 'laws.FnExactFreeFor', WHERE WHAT IT READS IS OF BULK AT MOST 1048576: true; the input reads as it did. -/
def fnExactFreeForUptoRow : OpenClaim := { program := "ytldhlmjfpnpamaa", sum := "0011eabff43ac93f4088321e9b005b2480a95579a478af2019af6a578e168ac6", func := "loop.example/g01017/laws.FnExactFreeFor", spec := "fnExactFreeFor", unfollowed := true, recurses := true, apart := false, narrowed := true }
def FnExactFreeForUptoSaid : Prop := fnExactFreeForUptoRow.holds Try.pinned (OpenSpec.upto fnExactFreeForSpec)

/-- 'laws.FnShifts', WHERE WHAT IT READS IS OF BULK AT MOST 1048576: true; the input reads as it did. -/
def fnShiftsUptoRow : OpenClaim := { program := "ytldhlmjfpnpamaa", sum := "0011eabff43ac93f4088321e9b005b2480a95579a478af2019af6a578e168ac6", func := "loop.example/g01017/laws.FnShifts", spec := "fnShifts", unfollowed := true, recurses := true, apart := false, narrowed := true }
def FnShiftsUptoSaid : Prop := fnShiftsUptoRow.holds Try.pinned (OpenSpec.upto fnShiftsSpec)

end Rows
end Go.Proofs.Ytldhlmjfpnpamaa
