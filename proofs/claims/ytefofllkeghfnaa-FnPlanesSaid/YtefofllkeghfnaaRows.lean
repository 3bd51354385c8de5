/-
  No cell of these rows narrows 'for every input' (looked for: loops, veiled, ifaces, maps, wideKeys, modest, calm, conditions, laid).
  DERIVED. THE GIVEN ROWS OF THIS SEAT. 11 by the template 'for every input the law returns true; each argument reads behind the call as it read before'; 0 by the template 'total and deterministic' (their statements: YtefofllkeghfnaaTotals.lean).
  GIVEN WITH THE SEED: the statements are not yours to turn. If you find one false, say at which input.
  Laid BY PROGRAM, IN A SANDBOX (cutbox-rows.mjs): the forced cells as the released guide's own fill.sh prints them over the translation 9f5ea40275b959cd… (all of the seat's roots in one cut). By AI agents, Wed Nov 11 2026. No macro, syntax, notation, axiom, sorry.
-/
import Derived.Test.YtefofllkeghfnaaChecked
import GoSem.Claim
import GoSem.ClaimJoined
import GoSem.ClaimMapViews
import Derived.JoinedTies
import Derived.KernelRfl
namespace Go.Proofs.Ytefofllkeghfnaa
/- THE CELL 'sum', in the pinned program and in every row, IS THE sha256 OF THE DUMP (.gsa) THAT YtefofllkeghfnaaProg.lean LOADS. Nothing in Lean hashes anything: it is a label: what it is worth is what the hold of that sum in a sandbox is worth. -/
noncomputable def Try.pinned : Pinned := { name := "ytefofllkeghfnaa", sum := "9f5ea40275b959cdc32a3b2242a8c093f117432df33df866b376288d4770fee2", checked := Try.checked }
namespace Rows
def none {H : Type} : Left H := { results := [], args := [] }

/-- 'laws.FnExactAreMotions': WHATEVER THE INPUT: true; the input reads as it did. -/
def fnExactAreMotionsSpec : ChangeSpec := { name := "fnExactAreMotions", fn := fun _ => fun
  | [d] => { results := [.lit (.bool true)], args := [d] }
  | _ => none }
def fnExactAreMotionsRow : OpenClaim := { program := "ytefofllkeghfnaa", sum := "9f5ea40275b959cdc32a3b2242a8c093f117432df33df866b376288d4770fee2", func := "loop.example/g01017/laws.FnExactAreMotions", spec := "fnExactAreMotions", unfollowed := true, recurses := true, apart := false }
def FnExactAreMotionsSaid : Prop := fnExactAreMotionsRow.holds Try.pinned (OpenSpec.ofChange fnExactAreMotionsSpec)

/-- ITS FALSE NEIGHBOUR: 'it returns false'. Refute it at one input. -/
def fnExactAreMotionsWrong : ChangeSpec := { name := "fnExactAreMotions", fn := fun _ => fun
  | [d] => { results := [.lit (.bool false)], args := [d] }
  | _ => none }
def FnExactAreMotionsWrongFalsely : Prop := fnExactAreMotionsRow.holds Try.pinned (OpenSpec.ofChange fnExactAreMotionsWrong)

/-- 'laws.FnExactQuadrantOf': WHATEVER THE INPUT: true; the input reads as it did. -/
def fnExactQuadrantOfSpec : ChangeSpec := { name := "fnExactQuadrantOf", fn := fun _ => fun
  | [d1, d2] => { results := [.lit (.bool true)], args := [d1, d2] }
  | _ => none }
def fnExactQuadrantOfRow : OpenClaim := { program := "ytefofllkeghfnaa", sum := "9f5ea40275b959cdc32a3b2242a8c093f117432df33df866b376288d4770fee2", func := "loop.example/g01017/laws.FnExactQuadrantOf", spec := "fnExactQuadrantOf", apart := false }
def FnExactQuadrantOfSaid : Prop := fnExactQuadrantOfRow.holds Try.pinned (OpenSpec.ofChange fnExactQuadrantOfSpec)

/-- ITS FALSE NEIGHBOUR: 'it returns false'. Refute it at one input. -/
def fnExactQuadrantOfWrong : ChangeSpec := { name := "fnExactQuadrantOf", fn := fun _ => fun
  | [d1, d2] => { results := [.lit (.bool false)], args := [d1, d2] }
  | _ => none }
def FnExactQuadrantOfWrongFalsely : Prop := fnExactQuadrantOfRow.holds Try.pinned (OpenSpec.ofChange fnExactQuadrantOfWrong)

/-- 'laws.FnExactFlipMotions': WHATEVER THE INPUT: true; the input reads as it did. -/
def fnExactFlipMotionsSpec : ChangeSpec := { name := "fnExactFlipMotions", fn := fun _ => fun
  | [d] => { results := [.lit (.bool true)], args := [d] }
  | _ => none }
def fnExactFlipMotionsRow : OpenClaim := { program := "ytefofllkeghfnaa", sum := "9f5ea40275b959cdc32a3b2242a8c093f117432df33df866b376288d4770fee2", func := "loop.example/g01017/laws.FnExactFlipMotions", spec := "fnExactFlipMotions", unfollowed := true, recurses := true, apart := false }
def FnExactFlipMotionsSaid : Prop := fnExactFlipMotionsRow.holds Try.pinned (OpenSpec.ofChange fnExactFlipMotionsSpec)

/-- ITS FALSE NEIGHBOUR: 'it returns false'. Refute it at one input. -/
def fnExactFlipMotionsWrong : ChangeSpec := { name := "fnExactFlipMotions", fn := fun _ => fun
  | [d] => { results := [.lit (.bool false)], args := [d] }
  | _ => none }
def FnExactFlipMotionsWrongFalsely : Prop := fnExactFlipMotionsRow.holds Try.pinned (OpenSpec.ofChange fnExactFlipMotionsWrong)

/-- 'laws.FnExactTurnMotions': WHATEVER THE INPUT: true; the input reads as it did. -/
def fnExactTurnMotionsSpec : ChangeSpec := { name := "fnExactTurnMotions", fn := fun _ => fun
  | [d] => { results := [.lit (.bool true)], args := [d] }
  | _ => none }
def fnExactTurnMotionsRow : OpenClaim := { program := "ytefofllkeghfnaa", sum := "9f5ea40275b959cdc32a3b2242a8c093f117432df33df866b376288d4770fee2", func := "loop.example/g01017/laws.FnExactTurnMotions", spec := "fnExactTurnMotions", unfollowed := true, recurses := true, apart := false }
def FnExactTurnMotionsSaid : Prop := fnExactTurnMotionsRow.holds Try.pinned (OpenSpec.ofChange fnExactTurnMotionsSpec)

/-- ITS FALSE NEIGHBOUR: 'it returns false'. Refute it at one input. -/
def fnExactTurnMotionsWrong : ChangeSpec := { name := "fnExactTurnMotions", fn := fun _ => fun
  | [d] => { results := [.lit (.bool false)], args := [d] }
  | _ => none }
def FnExactTurnMotionsWrongFalsely : Prop := fnExactTurnMotionsRow.holds Try.pinned (OpenSpec.ofChange fnExactTurnMotionsWrong)

/-- 'laws.FnExactExplained': WHATEVER THE INPUT: true; the input reads as it did. -/
def fnExactExplainedSpec : ChangeSpec := { name := "fnExactExplained", fn := fun _ => fun
  | [d1, d2, d3] => { results := [.lit (.bool true)], args := [d1, d2, d3] }
  | _ => none }
def fnExactExplainedRow : OpenClaim := { program := "ytefofllkeghfnaa", sum := "9f5ea40275b959cdc32a3b2242a8c093f117432df33df866b376288d4770fee2", func := "loop.example/g01017/laws.FnExactExplained", spec := "fnExactExplained", unfollowed := true, recurses := true, apart := false }
def FnExactExplainedSaid : Prop := fnExactExplainedRow.holds Try.pinned (OpenSpec.ofChange fnExactExplainedSpec)

/-- ITS FALSE NEIGHBOUR: 'it returns false'. Refute it at one input. -/
def fnExactExplainedWrong : ChangeSpec := { name := "fnExactExplained", fn := fun _ => fun
  | [d1, d2, d3] => { results := [.lit (.bool false)], args := [d1, d2, d3] }
  | _ => none }
def FnExactExplainedWrongFalsely : Prop := fnExactExplainedRow.holds Try.pinned (OpenSpec.ofChange fnExactExplainedWrong)

/-- 'laws.FnExactBestPlane': WHATEVER THE INPUT: true; the input reads as it did. -/
def fnExactBestPlaneSpec : ChangeSpec := { name := "fnExactBestPlane", fn := fun _ => fun
  | [d] => { results := [.lit (.bool true)], args := [d] }
  | _ => none }
def fnExactBestPlaneRow : OpenClaim := { program := "ytefofllkeghfnaa", sum := "9f5ea40275b959cdc32a3b2242a8c093f117432df33df866b376288d4770fee2", func := "loop.example/g01017/laws.FnExactBestPlane", spec := "fnExactBestPlane", unfollowed := true, recurses := true, apart := false }
def FnExactBestPlaneSaid : Prop := fnExactBestPlaneRow.holds Try.pinned (OpenSpec.ofChange fnExactBestPlaneSpec)

/-- ITS FALSE NEIGHBOUR: 'it returns false'. Refute it at one input. -/
def fnExactBestPlaneWrong : ChangeSpec := { name := "fnExactBestPlane", fn := fun _ => fun
  | [d] => { results := [.lit (.bool false)], args := [d] }
  | _ => none }
def FnExactBestPlaneWrongFalsely : Prop := fnExactBestPlaneRow.holds Try.pinned (OpenSpec.ofChange fnExactBestPlaneWrong)

/-- 'laws.FnExactFewestMisses': WHATEVER THE INPUT: true; the input reads as it did. -/
def fnExactFewestMissesSpec : ChangeSpec := { name := "fnExactFewestMisses", fn := fun _ => fun
  | [d] => { results := [.lit (.bool true)], args := [d] }
  | _ => none }
def fnExactFewestMissesRow : OpenClaim := { program := "ytefofllkeghfnaa", sum := "9f5ea40275b959cdc32a3b2242a8c093f117432df33df866b376288d4770fee2", func := "loop.example/g01017/laws.FnExactFewestMisses", spec := "fnExactFewestMisses", unfollowed := true, recurses := true, apart := false }
def FnExactFewestMissesSaid : Prop := fnExactFewestMissesRow.holds Try.pinned (OpenSpec.ofChange fnExactFewestMissesSpec)

/-- ITS FALSE NEIGHBOUR: 'it returns false'. Refute it at one input. -/
def fnExactFewestMissesWrong : ChangeSpec := { name := "fnExactFewestMisses", fn := fun _ => fun
  | [d] => { results := [.lit (.bool false)], args := [d] }
  | _ => none }
def FnExactFewestMissesWrongFalsely : Prop := fnExactFewestMissesRow.holds Try.pinned (OpenSpec.ofChange fnExactFewestMissesWrong)

/-- 'laws.FnExactNotExplained': WHATEVER THE INPUT: true; the input reads as it did. -/
def fnExactNotExplainedSpec : ChangeSpec := { name := "fnExactNotExplained", fn := fun _ => fun
  | [d1, d2, d3] => { results := [.lit (.bool true)], args := [d1, d2, d3] }
  | _ => none }
def fnExactNotExplainedRow : OpenClaim := { program := "ytefofllkeghfnaa", sum := "9f5ea40275b959cdc32a3b2242a8c093f117432df33df866b376288d4770fee2", func := "loop.example/g01017/laws.FnExactNotExplained", spec := "fnExactNotExplained", unfollowed := true, recurses := true, apart := false }
def FnExactNotExplainedSaid : Prop := fnExactNotExplainedRow.holds Try.pinned (OpenSpec.ofChange fnExactNotExplainedSpec)

/-- ITS FALSE NEIGHBOUR: 'it returns false'. Refute it at one input. -/
def fnExactNotExplainedWrong : ChangeSpec := { name := "fnExactNotExplained", fn := fun _ => fun
  | [d1, d2, d3] => { results := [.lit (.bool false)], args := [d1, d2, d3] }
  | _ => none }
def FnExactNotExplainedWrongFalsely : Prop := fnExactNotExplainedRow.holds Try.pinned (OpenSpec.ofChange fnExactNotExplainedWrong)

/-- 'laws.FnExactPlanesWith': WHATEVER THE INPUT: true; the input reads as it did. -/
def fnExactPlanesWithSpec : ChangeSpec := { name := "fnExactPlanesWith", fn := fun _ => fun
  | [d1, d2] => { results := [.lit (.bool true)], args := [d1, d2] }
  | _ => none }
def fnExactPlanesWithRow : OpenClaim := { program := "ytefofllkeghfnaa", sum := "9f5ea40275b959cdc32a3b2242a8c093f117432df33df866b376288d4770fee2", func := "loop.example/g01017/laws.FnExactPlanesWith", spec := "fnExactPlanesWith", unfollowed := true, recurses := true, apart := false }
def FnExactPlanesWithSaid : Prop := fnExactPlanesWithRow.holds Try.pinned (OpenSpec.ofChange fnExactPlanesWithSpec)

/-- ITS FALSE NEIGHBOUR: 'it returns false'. Refute it at one input. -/
def fnExactPlanesWithWrong : ChangeSpec := { name := "fnExactPlanesWith", fn := fun _ => fun
  | [d1, d2] => { results := [.lit (.bool false)], args := [d1, d2] }
  | _ => none }
def FnExactPlanesWithWrongFalsely : Prop := fnExactPlanesWithRow.holds Try.pinned (OpenSpec.ofChange fnExactPlanesWithWrong)

/-- 'laws.FnBestPlane': WHATEVER THE INPUT: true; the input reads as it did. -/
def fnBestPlaneSpec : ChangeSpec := { name := "fnBestPlane", fn := fun _ => fun
  | [d] => { results := [.lit (.bool true)], args := [d] }
  | _ => none }
def fnBestPlaneRow : OpenClaim := { program := "ytefofllkeghfnaa", sum := "9f5ea40275b959cdc32a3b2242a8c093f117432df33df866b376288d4770fee2", func := "loop.example/g01017/laws.FnBestPlane", spec := "fnBestPlane", unfollowed := true, recurses := true, apart := false }
def FnBestPlaneSaid : Prop := fnBestPlaneRow.holds Try.pinned (OpenSpec.ofChange fnBestPlaneSpec)

/-- ITS FALSE NEIGHBOUR: 'it returns false'. Refute it at one input. -/
def fnBestPlaneWrong : ChangeSpec := { name := "fnBestPlane", fn := fun _ => fun
  | [d] => { results := [.lit (.bool false)], args := [d] }
  | _ => none }
def FnBestPlaneWrongFalsely : Prop := fnBestPlaneRow.holds Try.pinned (OpenSpec.ofChange fnBestPlaneWrong)

/-- 'laws.FnPlanes': WHATEVER THE INPUT: true; the input reads as it did. -/
def fnPlanesSpec : ChangeSpec := { name := "fnPlanes", fn := fun _ => fun
  | [d] => { results := [.lit (.bool true)], args := [d] }
  | _ => none }
def fnPlanesRow : OpenClaim := { program := "ytefofllkeghfnaa", sum := "9f5ea40275b959cdc32a3b2242a8c093f117432df33df866b376288d4770fee2", func := "loop.example/g01017/laws.FnPlanes", spec := "fnPlanes", unfollowed := true, recurses := true, apart := false }
def FnPlanesSaid : Prop := fnPlanesRow.holds Try.pinned (OpenSpec.ofChange fnPlanesSpec)

/-- ITS FALSE NEIGHBOUR: 'it returns false'. Refute it at one input. -/
def fnPlanesWrong : ChangeSpec := { name := "fnPlanes", fn := fun _ => fun
  | [d] => { results := [.lit (.bool false)], args := [d] }
  | _ => none }
def FnPlanesWrongFalsely : Prop := fnPlanesRow.holds Try.pinned (OpenSpec.ofChange fnPlanesWrong)

/- THE SECOND FORM. 'bulk': how many values and letters a reading holds, each counted each time it is reached (what is shared counts as often as it is met; a slice's spare places count too). A statement '..UptoSaid' is the law's where the arguments, and the package variables that the reading takes, are together of bulk at most 1048576: NARROWER than '..Said'. Prove '..Said' where nothing that the law and all that it calls make is longer than what came in: it says more and counts as full. Else prove '..UptoSaid'. A law counts once. -/
mutual
def uptoBulk {H : Type} : DataW H → Nat
  | .lit (.string bytes) => bytes.length + 1
  | .lit _ => 1
  | .nil => 1
  | .ptr d => uptoBulk d + 1
  | .slice elems spare => uptoBulkAll elems + uptoBulkAll spare + 1
  | .agg parts => uptoBulkAll parts + 1
  | .iface _ d => uptoBulk d + 1
  | .map entries => uptoBulkEntries entries + 1
  | .held _ => 1
def uptoBulkAll {H : Type} : List (DataW H) → Nat
  | [] => 0
  | d :: r => uptoBulk d + uptoBulkAll r
def uptoBulkEntries {H : Type} : List (Lit × DataW H) → Nat
  | [] => 0
  | x :: r => uptoBulkEntry x + uptoBulkEntries r
def uptoBulkEntry {H : Type} : Lit × DataW H → Nat
  | (.string bytes, d) => bytes.length + uptoBulk d + 1
  | (_, d) => uptoBulk d + 1
 end
def uptoSmall : (H : Type) → List (DataW H) → Bool := fun _ ds => decide (uptoBulkAll ds ≤ 1048576)
def OpenSpec.upto (s : _root_.Go.ChangeSpec) : _root_.Go.OpenSpec := { _root_.Go.OpenSpec.ofChange s with cond := some uptoSmall }

/-- 'laws.FnExactAreMotions', WHERE WHAT IT READS IS OF BULK AT MOST 1048576: true; the input reads as it did. -/
def fnExactAreMotionsUptoRow : OpenClaim := { program := "ytefofllkeghfnaa", sum := "9f5ea40275b959cdc32a3b2242a8c093f117432df33df866b376288d4770fee2", func := "loop.example/g01017/laws.FnExactAreMotions", spec := "fnExactAreMotions", unfollowed := true, recurses := true, apart := false, narrowed := true }
def FnExactAreMotionsUptoSaid : Prop := fnExactAreMotionsUptoRow.holds Try.pinned (OpenSpec.upto fnExactAreMotionsSpec)

/-- 'laws.FnExactQuadrantOf', WHERE WHAT IT READS IS OF BULK AT MOST 1048576: true; the input reads as it did. -/
def fnExactQuadrantOfUptoRow : OpenClaim := { program := "ytefofllkeghfnaa", sum := "9f5ea40275b959cdc32a3b2242a8c093f117432df33df866b376288d4770fee2", func := "loop.example/g01017/laws.FnExactQuadrantOf", spec := "fnExactQuadrantOf", apart := false, narrowed := true }
def FnExactQuadrantOfUptoSaid : Prop := fnExactQuadrantOfUptoRow.holds Try.pinned (OpenSpec.upto fnExactQuadrantOfSpec)

/-- 'laws.FnExactFlipMotions', WHERE WHAT IT READS IS OF BULK AT MOST 1048576: true; the input reads as it did. -/
def fnExactFlipMotionsUptoRow : OpenClaim := { program := "ytefofllkeghfnaa", sum := "9f5ea40275b959cdc32a3b2242a8c093f117432df33df866b376288d4770fee2", func := "loop.example/g01017/laws.FnExactFlipMotions", spec := "fnExactFlipMotions", unfollowed := true, recurses := true, apart := false, narrowed := true }
def FnExactFlipMotionsUptoSaid : Prop := fnExactFlipMotionsUptoRow.holds Try.pinned (OpenSpec.upto fnExactFlipMotionsSpec)

/-- 'laws.FnExactTurnMotions', WHERE WHAT IT READS IS OF BULK AT MOST 1048576: true; the input reads as it did. -/
def fnExactTurnMotionsUptoRow : OpenClaim := { program := "ytefofllkeghfnaa", sum := "9f5ea40275b959cdc32a3b2242a8c093f117432df33df866b376288d4770fee2", func := "loop.example/g01017/laws.FnExactTurnMotions", spec := "fnExactTurnMotions", unfollowed := true, recurses := true, apart := false, narrowed := true }
def FnExactTurnMotionsUptoSaid : Prop := fnExactTurnMotionsUptoRow.holds Try.pinned (OpenSpec.upto fnExactTurnMotionsSpec)

/-- 'laws.FnExactExplained', WHERE WHAT IT READS IS OF BULK AT MOST 1048576: true; the input reads as it did. -/
def fnExactExplainedUptoRow : OpenClaim := { program := "ytefofllkeghfnaa", sum := "9f5ea40275b959cdc32a3b2242a8c093f117432df33df866b376288d4770fee2", func := "loop.example/g01017/laws.FnExactExplained", spec := "fnExactExplained", unfollowed := true, recurses := true, apart := false, narrowed := true }
def FnExactExplainedUptoSaid : Prop := fnExactExplainedUptoRow.holds Try.pinned (OpenSpec.upto fnExactExplainedSpec)

/-- 'laws.FnExactBestPlane', WHERE WHAT IT READS IS OF BULK AT MOST 1048576: true; the input reads as it did. -/
def fnExactBestPlaneUptoRow : OpenClaim := { program := "ytefofllkeghfnaa", sum := "9f5ea40275b959cdc32a3b2242a8c093f117432df33df866b376288d4770fee2", func := "loop.example/g01017/laws.FnExactBestPlane", spec := "fnExactBestPlane", unfollowed := true, recurses := true, apart := false, narrowed := true }
def FnExactBestPlaneUptoSaid : Prop := fnExactBestPlaneUptoRow.holds Try.pinned (OpenSpec.upto fnExactBestPlaneSpec)

/-- 'laws.FnExactFewestMisses', WHERE WHAT IT READS IS OF BULK AT MOST 1048576: true; the input reads as it did. -/
def fnExactFewestMissesUptoRow : OpenClaim := { program := "ytefofllkeghfnaa", sum := "9f5ea40275b959cdc32a3b2242a8c093f117432df33df866b376288d4770fee2", func := "loop.example/g01017/laws.FnExactFewestMisses", spec := "fnExactFewestMisses", unfollowed := true, recurses := true, apart := false, narrowed := true }
def FnExactFewestMissesUptoSaid : Prop := fnExactFewestMissesUptoRow.holds Try.pinned (OpenSpec.upto fnExactFewestMissesSpec)

/-- 'laws.FnExactNotExplained', WHERE WHAT IT READS IS OF BULK AT MOST 1048576: true; the input reads as it did. -/
def fnExactNotExplainedUptoRow : OpenClaim := { program := "ytefofllkeghfnaa", sum := "9f5ea40275b959cdc32a3b2242a8c093f117432df33df866b376288d4770fee2", func := "loop.example/g01017/laws.FnExactNotExplained", spec := "fnExactNotExplained", unfollowed := true, recurses := true, apart := false, narrowed := true }
def FnExactNotExplainedUptoSaid : Prop := fnExactNotExplainedUptoRow.holds Try.pinned (OpenSpec.upto fnExactNotExplainedSpec)

/-- 'laws.FnExactPlanesWith', WHERE WHAT IT READS IS OF BULK AT MOST 1048576: true; the input reads as it did. -/
def fnExactPlanesWithUptoRow : OpenClaim := { program := "ytefofllkeghfnaa", sum := "9f5ea40275b959cdc32a3b2242a8c093f117432df33df866b376288d4770fee2", func := "loop.example/g01017/laws.FnExactPlanesWith", spec := "fnExactPlanesWith", unfollowed := true, recurses := true, apart := false, narrowed := true }
def FnExactPlanesWithUptoSaid : Prop := fnExactPlanesWithUptoRow.holds Try.pinned (OpenSpec.upto fnExactPlanesWithSpec)

/-- 'laws.FnBestPlane', WHERE WHAT IT READS IS OF BULK AT MOST 1048576: true; the input reads as it did. -/
def fnBestPlaneUptoRow : OpenClaim := { program := "ytefofllkeghfnaa", sum := "9f5ea40275b959cdc32a3b2242a8c093f117432df33df866b376288d4770fee2", func := "loop.example/g01017/laws.FnBestPlane", spec := "fnBestPlane", unfollowed := true, recurses := true, apart := false, narrowed := true }
def FnBestPlaneUptoSaid : Prop := fnBestPlaneUptoRow.holds Try.pinned (OpenSpec.upto fnBestPlaneSpec)

/-- 'laws.FnPlanes', WHERE WHAT IT READS IS OF BULK AT MOST 1048576: true; the input reads as it did. -/
def fnPlanesUptoRow : OpenClaim := { program := "ytefofllkeghfnaa", sum := "9f5ea40275b959cdc32a3b2242a8c093f117432df33df866b376288d4770fee2", func := "loop.example/g01017/laws.FnPlanes", spec := "fnPlanes", unfollowed := true, recurses := true, apart := false, narrowed := true }
def FnPlanesUptoSaid : Prop := fnPlanesUptoRow.holds Try.pinned (OpenSpec.upto fnPlanesSpec)

end Rows
end Go.Proofs.Ytefofllkeghfnaa
