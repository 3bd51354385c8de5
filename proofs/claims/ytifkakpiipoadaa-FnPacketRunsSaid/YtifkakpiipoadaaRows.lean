/-
  No cell of these rows narrows 'for every input' (looked for: loops, veiled, ifaces, maps, wideKeys, modest, calm, conditions, laid).
  DERIVED. THE GIVEN ROWS OF THIS SEAT. 12 by the template 'for every input the law returns true; each argument reads behind the call as it read before'; 0 by the template 'total and deterministic' (their statements: YtifkakpiipoadaaTotals.lean).
  GIVEN WITH THE SEED: the statements are not yours to turn. If you find one false, say at which input.
  Laid BY PROGRAM, IN A SANDBOX (cutbox-rows.mjs): the forced cells as the released guide's own fill.sh prints them over the translation 0c06fb6500785ab1… (all of the seat's roots in one cut). By AI agents, Wed Nov 11 2026. No macro, syntax, notation, axiom, sorry.
-/
import Derived.Test.YtifkakpiipoadaaChecked
import GoSem.Claim
import GoSem.ClaimJoined
import GoSem.ClaimMapViews
import Derived.JoinedTies
import Derived.KernelRfl
namespace Go.Proofs.Ytifkakpiipoadaa
/- THE CELL 'sum', in the pinned program and in every row, IS THE sha256 OF THE DUMP (.gsa) THAT YtifkakpiipoadaaProg.lean LOADS. Nothing in Lean hashes anything: it is a label: what it is worth is what the hold of that sum in a sandbox is worth. -/
noncomputable def Try.pinned : Pinned := { name := "ytifkakpiipoadaa", sum := "0c06fb6500785ab16b47b06f945de856e644cf27add98bf662aa1cb537b186cc", checked := Try.checked }
namespace Rows
def none {H : Type} : Left H := { results := [], args := [] }

/-- 'laws.FnExactArePackets': WHATEVER THE INPUT: true; the input reads as it did. -/
def fnExactArePacketsSpec : ChangeSpec := { name := "fnExactArePackets", fn := fun _ => fun
  | [d] => { results := [.lit (.bool true)], args := [d] }
  | _ => none }
def fnExactArePacketsRow : OpenClaim := { program := "ytifkakpiipoadaa", sum := "0c06fb6500785ab16b47b06f945de856e644cf27add98bf662aa1cb537b186cc", func := "loop.example/g01017/laws.FnExactArePackets", spec := "fnExactArePackets", unfollowed := true, recurses := true, apart := false }
def FnExactArePacketsSaid : Prop := fnExactArePacketsRow.holds Try.pinned (OpenSpec.ofChange fnExactArePacketsSpec)

/-- ITS FALSE NEIGHBOUR: 'it returns false'. Refute it at one input. -/
def fnExactArePacketsWrong : ChangeSpec := { name := "fnExactArePackets", fn := fun _ => fun
  | [d] => { results := [.lit (.bool false)], args := [d] }
  | _ => none }
def FnExactArePacketsWrongFalsely : Prop := fnExactArePacketsRow.holds Try.pinned (OpenSpec.ofChange fnExactArePacketsWrong)

/-- 'laws.FnExactDoubledPackets': WHATEVER THE INPUT: true; the input reads as it did. -/
def fnExactDoubledPacketsSpec : ChangeSpec := { name := "fnExactDoubledPackets", fn := fun _ => fun
  | [d] => { results := [.lit (.bool true)], args := [d] }
  | _ => none }
def fnExactDoubledPacketsRow : OpenClaim := { program := "ytifkakpiipoadaa", sum := "0c06fb6500785ab16b47b06f945de856e644cf27add98bf662aa1cb537b186cc", func := "loop.example/g01017/laws.FnExactDoubledPackets", spec := "fnExactDoubledPackets", unfollowed := true, recurses := true, apart := false }
def FnExactDoubledPacketsSaid : Prop := fnExactDoubledPacketsRow.holds Try.pinned (OpenSpec.ofChange fnExactDoubledPacketsSpec)

/-- ITS FALSE NEIGHBOUR: 'it returns false'. Refute it at one input. -/
def fnExactDoubledPacketsWrong : ChangeSpec := { name := "fnExactDoubledPackets", fn := fun _ => fun
  | [d] => { results := [.lit (.bool false)], args := [d] }
  | _ => none }
def FnExactDoubledPacketsWrongFalsely : Prop := fnExactDoubledPacketsRow.holds Try.pinned (OpenSpec.ofChange fnExactDoubledPacketsWrong)

/-- 'laws.FnExactAfterPacket': WHATEVER THE INPUT: true; the input reads as it did. -/
def fnExactAfterPacketSpec : ChangeSpec := { name := "fnExactAfterPacket", fn := fun _ => fun
  | [d1, d2] => { results := [.lit (.bool true)], args := [d1, d2] }
  | _ => none }
def fnExactAfterPacketRow : OpenClaim := { program := "ytifkakpiipoadaa", sum := "0c06fb6500785ab16b47b06f945de856e644cf27add98bf662aa1cb537b186cc", func := "loop.example/g01017/laws.FnExactAfterPacket", spec := "fnExactAfterPacket", unfollowed := true, recurses := true, apart := false }
def FnExactAfterPacketSaid : Prop := fnExactAfterPacketRow.holds Try.pinned (OpenSpec.ofChange fnExactAfterPacketSpec)

/-- ITS FALSE NEIGHBOUR: 'it returns false'. Refute it at one input. -/
def fnExactAfterPacketWrong : ChangeSpec := { name := "fnExactAfterPacket", fn := fun _ => fun
  | [d1, d2] => { results := [.lit (.bool false)], args := [d1, d2] }
  | _ => none }
def FnExactAfterPacketWrongFalsely : Prop := fnExactAfterPacketRow.holds Try.pinned (OpenSpec.ofChange fnExactAfterPacketWrong)

/-- 'laws.FnExactLatePackets': WHATEVER THE INPUT: true; the input reads as it did. -/
def fnExactLatePacketsSpec : ChangeSpec := { name := "fnExactLatePackets", fn := fun _ => fun
  | [d] => { results := [.lit (.bool true)], args := [d] }
  | _ => none }
def fnExactLatePacketsRow : OpenClaim := { program := "ytifkakpiipoadaa", sum := "0c06fb6500785ab16b47b06f945de856e644cf27add98bf662aa1cb537b186cc", func := "loop.example/g01017/laws.FnExactLatePackets", spec := "fnExactLatePackets", unfollowed := true, recurses := true, apart := false }
def FnExactLatePacketsSaid : Prop := fnExactLatePacketsRow.holds Try.pinned (OpenSpec.ofChange fnExactLatePacketsSpec)

/-- ITS FALSE NEIGHBOUR: 'it returns false'. Refute it at one input. -/
def fnExactLatePacketsWrong : ChangeSpec := { name := "fnExactLatePackets", fn := fun _ => fun
  | [d] => { results := [.lit (.bool false)], args := [d] }
  | _ => none }
def FnExactLatePacketsWrongFalsely : Prop := fnExactLatePacketsRow.holds Try.pinned (OpenSpec.ofChange fnExactLatePacketsWrong)

/-- 'laws.FnExactConflictsIn': WHATEVER THE INPUT: true; the input reads as it did. -/
def fnExactConflictsInSpec : ChangeSpec := { name := "fnExactConflictsIn", fn := fun _ => fun
  | [d] => { results := [.lit (.bool true)], args := [d] }
  | _ => none }
def fnExactConflictsInRow : OpenClaim := { program := "ytifkakpiipoadaa", sum := "0c06fb6500785ab16b47b06f945de856e644cf27add98bf662aa1cb537b186cc", func := "loop.example/g01017/laws.FnExactConflictsIn", spec := "fnExactConflictsIn", unfollowed := true, recurses := true, apart := false }
def FnExactConflictsInSaid : Prop := fnExactConflictsInRow.holds Try.pinned (OpenSpec.ofChange fnExactConflictsInSpec)

/-- ITS FALSE NEIGHBOUR: 'it returns false'. Refute it at one input. -/
def fnExactConflictsInWrong : ChangeSpec := { name := "fnExactConflictsIn", fn := fun _ => fun
  | [d] => { results := [.lit (.bool false)], args := [d] }
  | _ => none }
def FnExactConflictsInWrongFalsely : Prop := fnExactConflictsInRow.holds Try.pinned (OpenSpec.ofChange fnExactConflictsInWrong)

/-- 'laws.FnExactGoodNumbers': WHATEVER THE INPUT: true; the input reads as it did. -/
def fnExactGoodNumbersSpec : ChangeSpec := { name := "fnExactGoodNumbers", fn := fun _ => fun
  | [d] => { results := [.lit (.bool true)], args := [d] }
  | _ => none }
def fnExactGoodNumbersRow : OpenClaim := { program := "ytifkakpiipoadaa", sum := "0c06fb6500785ab16b47b06f945de856e644cf27add98bf662aa1cb537b186cc", func := "loop.example/g01017/laws.FnExactGoodNumbers", spec := "fnExactGoodNumbers", unfollowed := true, recurses := true, apart := false }
def FnExactGoodNumbersSaid : Prop := fnExactGoodNumbersRow.holds Try.pinned (OpenSpec.ofChange fnExactGoodNumbersSpec)

/-- ITS FALSE NEIGHBOUR: 'it returns false'. Refute it at one input. -/
def fnExactGoodNumbersWrong : ChangeSpec := { name := "fnExactGoodNumbers", fn := fun _ => fun
  | [d] => { results := [.lit (.bool false)], args := [d] }
  | _ => none }
def FnExactGoodNumbersWrongFalsely : Prop := fnExactGoodNumbersRow.holds Try.pinned (OpenSpec.ofChange fnExactGoodNumbersWrong)

/-- 'laws.FnExactLostNumbers': WHATEVER THE INPUT: true; the input reads as it did. -/
def fnExactLostNumbersSpec : ChangeSpec := { name := "fnExactLostNumbers", fn := fun _ => fun
  | [d] => { results := [.lit (.bool true)], args := [d] }
  | _ => none }
def fnExactLostNumbersRow : OpenClaim := { program := "ytifkakpiipoadaa", sum := "0c06fb6500785ab16b47b06f945de856e644cf27add98bf662aa1cb537b186cc", func := "loop.example/g01017/laws.FnExactLostNumbers", spec := "fnExactLostNumbers", unfollowed := true, recurses := true, apart := false }
def FnExactLostNumbersSaid : Prop := fnExactLostNumbersRow.holds Try.pinned (OpenSpec.ofChange fnExactLostNumbersSpec)

/-- ITS FALSE NEIGHBOUR: 'it returns false'. Refute it at one input. -/
def fnExactLostNumbersWrong : ChangeSpec := { name := "fnExactLostNumbers", fn := fun _ => fun
  | [d] => { results := [.lit (.bool false)], args := [d] }
  | _ => none }
def FnExactLostNumbersWrongFalsely : Prop := fnExactLostNumbersRow.holds Try.pinned (OpenSpec.ofChange fnExactLostNumbersWrong)

/-- 'laws.FnExactAskedAgain': WHATEVER THE INPUT: true; the input reads as it did. -/
def fnExactAskedAgainSpec : ChangeSpec := { name := "fnExactAskedAgain", fn := fun _ => fun
  | [d1, d2] => { results := [.lit (.bool true)], args := [d1, d2] }
  | _ => none }
def fnExactAskedAgainRow : OpenClaim := { program := "ytifkakpiipoadaa", sum := "0c06fb6500785ab16b47b06f945de856e644cf27add98bf662aa1cb537b186cc", func := "loop.example/g01017/laws.FnExactAskedAgain", spec := "fnExactAskedAgain", unfollowed := true, recurses := true, apart := false }
def FnExactAskedAgainSaid : Prop := fnExactAskedAgainRow.holds Try.pinned (OpenSpec.ofChange fnExactAskedAgainSpec)

/-- ITS FALSE NEIGHBOUR: 'it returns false'. Refute it at one input. -/
def fnExactAskedAgainWrong : ChangeSpec := { name := "fnExactAskedAgain", fn := fun _ => fun
  | [d1, d2] => { results := [.lit (.bool false)], args := [d1, d2] }
  | _ => none }
def FnExactAskedAgainWrongFalsely : Prop := fnExactAskedAgainRow.holds Try.pinned (OpenSpec.ofChange fnExactAskedAgainWrong)

/-- 'laws.FnExactSamplesOfRun': WHATEVER THE INPUT: true; the input reads as it did. -/
def fnExactSamplesOfRunSpec : ChangeSpec := { name := "fnExactSamplesOfRun", fn := fun _ => fun
  | [d1, d2] => { results := [.lit (.bool true)], args := [d1, d2] }
  | _ => none }
def fnExactSamplesOfRunRow : OpenClaim := { program := "ytifkakpiipoadaa", sum := "0c06fb6500785ab16b47b06f945de856e644cf27add98bf662aa1cb537b186cc", func := "loop.example/g01017/laws.FnExactSamplesOfRun", spec := "fnExactSamplesOfRun", unfollowed := true, recurses := true, apart := false }
def FnExactSamplesOfRunSaid : Prop := fnExactSamplesOfRunRow.holds Try.pinned (OpenSpec.ofChange fnExactSamplesOfRunSpec)

/-- ITS FALSE NEIGHBOUR: 'it returns false'. Refute it at one input. -/
def fnExactSamplesOfRunWrong : ChangeSpec := { name := "fnExactSamplesOfRun", fn := fun _ => fun
  | [d1, d2] => { results := [.lit (.bool false)], args := [d1, d2] }
  | _ => none }
def FnExactSamplesOfRunWrongFalsely : Prop := fnExactSamplesOfRunRow.holds Try.pinned (OpenSpec.ofChange fnExactSamplesOfRunWrong)

/-- 'laws.FnExactRunsOf': WHATEVER THE INPUT: true; the input reads as it did. -/
def fnExactRunsOfSpec : ChangeSpec := { name := "fnExactRunsOf", fn := fun _ => fun
  | [d] => { results := [.lit (.bool true)], args := [d] }
  | _ => none }
def fnExactRunsOfRow : OpenClaim := { program := "ytifkakpiipoadaa", sum := "0c06fb6500785ab16b47b06f945de856e644cf27add98bf662aa1cb537b186cc", func := "loop.example/g01017/laws.FnExactRunsOf", spec := "fnExactRunsOf", unfollowed := true, recurses := true, apart := false }
def FnExactRunsOfSaid : Prop := fnExactRunsOfRow.holds Try.pinned (OpenSpec.ofChange fnExactRunsOfSpec)

/-- ITS FALSE NEIGHBOUR: 'it returns false'. Refute it at one input. -/
def fnExactRunsOfWrong : ChangeSpec := { name := "fnExactRunsOf", fn := fun _ => fun
  | [d] => { results := [.lit (.bool false)], args := [d] }
  | _ => none }
def FnExactRunsOfWrongFalsely : Prop := fnExactRunsOfRow.holds Try.pinned (OpenSpec.ofChange fnExactRunsOfWrong)

/-- 'laws.FnPacketRuns': WHATEVER THE INPUT: true; the input reads as it did. -/
def fnPacketRunsSpec : ChangeSpec := { name := "fnPacketRuns", fn := fun _ => fun
  | [d] => { results := [.lit (.bool true)], args := [d] }
  | _ => none }
def fnPacketRunsRow : OpenClaim := { program := "ytifkakpiipoadaa", sum := "0c06fb6500785ab16b47b06f945de856e644cf27add98bf662aa1cb537b186cc", func := "loop.example/g01017/laws.FnPacketRuns", spec := "fnPacketRuns", unfollowed := true, recurses := true, apart := false }
def FnPacketRunsSaid : Prop := fnPacketRunsRow.holds Try.pinned (OpenSpec.ofChange fnPacketRunsSpec)

/-- ITS FALSE NEIGHBOUR: 'it returns false'. Refute it at one input. -/
def fnPacketRunsWrong : ChangeSpec := { name := "fnPacketRuns", fn := fun _ => fun
  | [d] => { results := [.lit (.bool false)], args := [d] }
  | _ => none }
def FnPacketRunsWrongFalsely : Prop := fnPacketRunsRow.holds Try.pinned (OpenSpec.ofChange fnPacketRunsWrong)

/-- 'laws.FnPackets': WHATEVER THE INPUT: true; the input reads as it did. -/
def fnPacketsSpec : ChangeSpec := { name := "fnPackets", fn := fun _ => fun
  | [d] => { results := [.lit (.bool true)], args := [d] }
  | _ => none }
def fnPacketsRow : OpenClaim := { program := "ytifkakpiipoadaa", sum := "0c06fb6500785ab16b47b06f945de856e644cf27add98bf662aa1cb537b186cc", func := "loop.example/g01017/laws.FnPackets", spec := "fnPackets", unfollowed := true, recurses := true, apart := false }
def FnPacketsSaid : Prop := fnPacketsRow.holds Try.pinned (OpenSpec.ofChange fnPacketsSpec)

/-- ITS FALSE NEIGHBOUR: 'it returns false'. Refute it at one input. -/
def fnPacketsWrong : ChangeSpec := { name := "fnPackets", fn := fun _ => fun
  | [d] => { results := [.lit (.bool false)], args := [d] }
  | _ => none }
def FnPacketsWrongFalsely : Prop := fnPacketsRow.holds Try.pinned (OpenSpec.ofChange fnPacketsWrong)

/- THE SECOND FORM. 'bulk': how many values and letters a reading holds, each counted each time it is reached (what is shared counts as often as it is met; a slice's spare places count too). A statement '..UptoSaid' is the law's where the arguments, and the package variables that the reading takes, are together of bulk at most 1048576: NARROWER than '..Said'. Prove '..Said' where nothing that the law and all that it calls make is longer than what came in: it says more and counts as full. Else prove '..UptoSaid'. A law counts once. -/
mutual
def uptoBulk {H : Type} : DataW H → Nat
  | .lit (.string bytes) => bytes.length + 1
  | .lit _ => 1
  | .nil => 1
  | .ptr d => uptoBulk d + 1
  | .slice elems spare => uptoBulkAll elems + uptoBulkAll spare + 1
  | .agg parts => uptoBulkAll parts + 1
  | .iface _ d => uptoBulk d + 1
  | .map entries => uptoBulkEntries entries + 1
  | .held _ => 1
def uptoBulkAll {H : Type} : List (DataW H) → Nat
  | [] => 0
  | d :: r => uptoBulk d + uptoBulkAll r
def uptoBulkEntries {H : Type} : List (Lit × DataW H) → Nat
  | [] => 0
  | x :: r => uptoBulkEntry x + uptoBulkEntries r
def uptoBulkEntry {H : Type} : Lit × DataW H → Nat
  | (.string bytes, d) => bytes.length + uptoBulk d + 1
  | (_, d) => uptoBulk d + 1
 end
def uptoSmall : (H : Type) → List (DataW H) → Bool := fun _ ds => decide (uptoBulkAll ds ≤ 1048576)
def OpenSpec.upto (s : _root_.Go.ChangeSpec) : _root_.Go.OpenSpec := { _root_.Go.OpenSpec.ofChange s with cond := some uptoSmall }

/-- 'laws.FnExactArePackets', WHERE WHAT IT READS IS OF BULK AT MOST 1048576: true; the input reads as it did. -/
def fnExactArePacketsUptoRow : OpenClaim := { program := "ytifkakpiipoadaa", sum := "0c06fb6500785ab16b47b06f945de856e644cf27add98bf662aa1cb537b186cc", func := "loop.example/g01017/laws.FnExactArePackets", spec := "fnExactArePackets", unfollowed := true, recurses := true, apart := false, narrowed := true }
def FnExactArePacketsUptoSaid : Prop := fnExactArePacketsUptoRow.holds Try.pinned (OpenSpec.upto fnExactArePacketsSpec)

/-- 'laws.FnExactDoubledPackets', WHERE WHAT IT READS IS OF BULK AT MOST 1048576: true; the input reads as it did. -/
def fnExactDoubledPacketsUptoRow : OpenClaim := { program := "ytifkakpiipoadaa", sum := "0c06fb6500785ab16b47b06f945de856e644cf27add98bf662aa1cb537b186cc", func := "loop.example/g01017/laws.FnExactDoubledPackets", spec := "fnExactDoubledPackets", unfollowed := true, recurses := true, apart := false, narrowed := true }
def FnExactDoubledPacketsUptoSaid : Prop := fnExactDoubledPacketsUptoRow.holds Try.pinned (OpenSpec.upto fnExactDoubledPacketsSpec)

/-- 'laws.FnExactAfterPacket', WHERE WHAT IT READS IS OF BULK AT MOST 1048576: true; the input reads as it did. -/
def fnExactAfterPacketUptoRow : OpenClaim := { program := "ytifkakpiipoadaa", sum := "0c06fb6500785ab16b47b06f945de856e644cf27add98bf662aa1cb537b186cc", func := "loop.example/g01017/laws.FnExactAfterPacket", spec := "fnExactAfterPacket", unfollowed := true, recurses := true, apart := false, narrowed := true }
def FnExactAfterPacketUptoSaid : Prop := fnExactAfterPacketUptoRow.holds Try.pinned (OpenSpec.upto fnExactAfterPacketSpec)

/-- 'laws.FnExactLatePackets', WHERE WHAT IT READS IS OF BULK AT MOST 1048576: true; the input reads as it did. -/
def fnExactLatePacketsUptoRow : OpenClaim := { program := "ytifkakpiipoadaa", sum := "0c06fb6500785ab16b47b06f945de856e644cf27add98bf662aa1cb537b186cc", func := "loop.example/g01017/laws.FnExactLatePackets", spec := "fnExactLatePackets", unfollowed := true, recurses := true, apart := false, narrowed := true }
def FnExactLatePacketsUptoSaid : Prop := fnExactLatePacketsUptoRow.holds Try.pinned (OpenSpec.upto fnExactLatePacketsSpec)

/-- 'laws.FnExactConflictsIn', WHERE WHAT IT READS IS OF BULK AT MOST 1048576: true; the input reads as it did. -/
def fnExactConflictsInUptoRow : OpenClaim := { program := "ytifkakpiipoadaa", sum := "0c06fb6500785ab16b47b06f945de856e644cf27add98bf662aa1cb537b186cc", func := "loop.example/g01017/laws.FnExactConflictsIn", spec := "fnExactConflictsIn", unfollowed := true, recurses := true, apart := false, narrowed := true }
def FnExactConflictsInUptoSaid : Prop := fnExactConflictsInUptoRow.holds Try.pinned (OpenSpec.upto fnExactConflictsInSpec)

/-- 'laws.FnExactGoodNumbers', WHERE WHAT IT READS IS OF BULK AT MOST 1048576: true; the input reads as it did. -/
def fnExactGoodNumbersUptoRow : OpenClaim := { program := "ytifkakpiipoadaa", sum := "0c06fb6500785ab16b47b06f945de856e644cf27add98bf662aa1cb537b186cc", func := "loop.example/g01017/laws.FnExactGoodNumbers", spec := "fnExactGoodNumbers", unfollowed := true, recurses := true, apart := false, narrowed := true }
def FnExactGoodNumbersUptoSaid : Prop := fnExactGoodNumbersUptoRow.holds Try.pinned (OpenSpec.upto fnExactGoodNumbersSpec)

/-- 'laws.FnExactLostNumbers', WHERE WHAT IT READS IS OF BULK AT MOST 1048576: true; the input reads as it did. -/
def fnExactLostNumbersUptoRow : OpenClaim := { program := "ytifkakpiipoadaa", sum := "0c06fb6500785ab16b47b06f945de856e644cf27add98bf662aa1cb537b186cc", func := "loop.example/g01017/laws.FnExactLostNumbers", spec := "fnExactLostNumbers", unfollowed := true, recurses := true, apart := false, narrowed := true }
def FnExactLostNumbersUptoSaid : Prop := fnExactLostNumbersUptoRow.holds Try.pinned (OpenSpec.upto fnExactLostNumbersSpec)

/-- 'laws.FnExactAskedAgain', WHERE WHAT IT READS IS OF BULK AT MOST 1048576: true; the input reads as it did. -/
def fnExactAskedAgainUptoRow : OpenClaim := { program := "ytifkakpiipoadaa", sum := "0c06fb6500785ab16b47b06f945de856e644cf27add98bf662aa1cb537b186cc", func := "loop.example/g01017/laws.FnExactAskedAgain", spec := "fnExactAskedAgain", unfollowed := true, recurses := true, apart := false, narrowed := true }
def FnExactAskedAgainUptoSaid : Prop := fnExactAskedAgainUptoRow.holds Try.pinned (OpenSpec.upto fnExactAskedAgainSpec)

/-- 'laws.FnExactSamplesOfRun', WHERE WHAT IT READS IS OF BULK AT MOST 1048576: true; the input reads as it did. -/
def fnExactSamplesOfRunUptoRow : OpenClaim := { program := "ytifkakpiipoadaa", sum := "0c06fb6500785ab16b47b06f945de856e644cf27add98bf662aa1cb537b186cc", func := "loop.example/g01017/laws.FnExactSamplesOfRun", spec := "fnExactSamplesOfRun", unfollowed := true, recurses := true, apart := false, narrowed := true }
def FnExactSamplesOfRunUptoSaid : Prop := fnExactSamplesOfRunUptoRow.holds Try.pinned (OpenSpec.upto fnExactSamplesOfRunSpec)

/-- 'laws.FnExactRunsOf', WHERE WHAT IT READS IS OF BULK AT MOST 1048576: true; the input reads as it did. -/
def fnExactRunsOfUptoRow : OpenClaim := { program := "ytifkakpiipoadaa", sum := "0c06fb6500785ab16b47b06f945de856e644cf27add98bf662aa1cb537b186cc", func := "loop.example/g01017/laws.FnExactRunsOf", spec := "fnExactRunsOf", unfollowed := true, recurses := true, apart := false, narrowed := true }
def FnExactRunsOfUptoSaid : Prop := fnExactRunsOfUptoRow.holds Try.pinned (OpenSpec.upto fnExactRunsOfSpec)

/-- 'laws.FnPacketRuns', WHERE WHAT IT READS IS OF BULK AT MOST 1048576: true; the input reads as it did. -/
def fnPacketRunsUptoRow : OpenClaim := { program := "ytifkakpiipoadaa", sum := "0c06fb6500785ab16b47b06f945de856e644cf27add98bf662aa1cb537b186cc", func := "loop.example/g01017/laws.FnPacketRuns", spec := "fnPacketRuns", unfollowed := true, recurses := true, apart := false, narrowed := true }
def FnPacketRunsUptoSaid : Prop := fnPacketRunsUptoRow.holds Try.pinned (OpenSpec.upto fnPacketRunsSpec)

/-- 'laws.FnPackets', WHERE WHAT IT READS IS OF BULK AT MOST 1048576: true; the input reads as it did. -/
def fnPacketsUptoRow : OpenClaim := { program := "ytifkakpiipoadaa", sum := "0c06fb6500785ab16b47b06f945de856e644cf27add98bf662aa1cb537b186cc", func := "loop.example/g01017/laws.FnPackets", spec := "fnPackets", unfollowed := true, recurses := true, apart := false, narrowed := true }
def FnPacketsUptoSaid : Prop := fnPacketsUptoRow.holds Try.pinned (OpenSpec.upto fnPacketsSpec)

end Rows
end Go.Proofs.Ytifkakpiipoadaa
