/-
  No cell of these rows narrows 'for every input' (looked for: loops, veiled, ifaces, maps, wideKeys, modest, calm, conditions, laid).
  DERIVED. THE GIVEN ROWS OF THIS SEAT. 12 by the template 'for every input the law returns true; each argument reads behind the call as it read before'; 0 by the template 'total and deterministic' (their statements: YtjjinblahmcplaaTotals.lean).
  GIVEN WITH THE SEED: the statements are not yours to turn. If you find one false, say at which input.
  Laid BY PROGRAM, IN A SANDBOX (cutbox-rows.mjs): the forced cells as the released guide's own fill.sh prints them over the translation 466d7fd08519b9a6… (all of the seat's roots in one cut). By AI agents, Wed Nov 11 2026. No macro, syntax, notation, axiom, sorry.
-/
import Derived.Test.YtjjinblahmcplaaChecked
import GoSem.Claim
import GoSem.ClaimJoined
import GoSem.ClaimMapViews
import Derived.JoinedTies
import Derived.KernelRfl
namespace Go.Proofs.Ytjjinblahmcplaa
/- THE CELL 'sum', in the pinned program and in every row, IS THE sha256 OF THE DUMP (.gsa) THAT YtjjinblahmcplaaProg.lean LOADS. Nothing in Lean hashes anything: it is a label: what it is worth is what the hold of that sum in a sandbox is worth. -/
noncomputable def Try.pinned : Pinned := { name := "ytjjinblahmcplaa", sum := "466d7fd08519b9a66ba9f8cd71a742b8147e897d2d13918afa607d4ebe276f83", checked := Try.checked }
namespace Rows
def none {H : Type} : Left H := { results := [], args := [] }

/-- 'laws.FnExactIsFelt': WHATEVER THE INPUT: true; the input reads as it did. -/
def fnExactIsFeltSpec : ChangeSpec := { name := "fnExactIsFelt", fn := fun _ => fun
  | [d] => { results := [.lit (.bool true)], args := [d] }
  | _ => none }
def fnExactIsFeltRow : OpenClaim := { program := "ytjjinblahmcplaa", sum := "466d7fd08519b9a66ba9f8cd71a742b8147e897d2d13918afa607d4ebe276f83", func := "loop.example/g01017/laws.FnExactIsFelt", spec := "fnExactIsFelt", apart := false }
def FnExactIsFeltSaid : Prop := fnExactIsFeltRow.holds Try.pinned (OpenSpec.ofChange fnExactIsFeltSpec)

/-- ITS FALSE NEIGHBOUR: 'it returns false'. Refute it at one input. -/
def fnExactIsFeltWrong : ChangeSpec := { name := "fnExactIsFelt", fn := fun _ => fun
  | [d] => { results := [.lit (.bool false)], args := [d] }
  | _ => none }
def FnExactIsFeltWrongFalsely : Prop := fnExactIsFeltRow.holds Try.pinned (OpenSpec.ofChange fnExactIsFeltWrong)

/-- 'laws.FnExactAreFelt': WHATEVER THE INPUT: true; the input reads as it did. -/
def fnExactAreFeltSpec : ChangeSpec := { name := "fnExactAreFelt", fn := fun _ => fun
  | [d] => { results := [.lit (.bool true)], args := [d] }
  | _ => none }
def fnExactAreFeltRow : OpenClaim := { program := "ytjjinblahmcplaa", sum := "466d7fd08519b9a66ba9f8cd71a742b8147e897d2d13918afa607d4ebe276f83", func := "loop.example/g01017/laws.FnExactAreFelt", spec := "fnExactAreFelt", unfollowed := true, recurses := true, apart := false }
def FnExactAreFeltSaid : Prop := fnExactAreFeltRow.holds Try.pinned (OpenSpec.ofChange fnExactAreFeltSpec)

/-- ITS FALSE NEIGHBOUR: 'it returns false'. Refute it at one input. -/
def fnExactAreFeltWrong : ChangeSpec := { name := "fnExactAreFelt", fn := fun _ => fun
  | [d] => { results := [.lit (.bool false)], args := [d] }
  | _ => none }
def FnExactAreFeltWrongFalsely : Prop := fnExactAreFeltRow.holds Try.pinned (OpenSpec.ofChange fnExactAreFeltWrong)

/-- 'laws.FnExactFeltRadius': WHATEVER THE INPUT: true; the input reads as it did. -/
def fnExactFeltRadiusSpec : ChangeSpec := { name := "fnExactFeltRadius", fn := fun _ => fun
  | [d1, d2, d3] => { results := [.lit (.bool true)], args := [d1, d2, d3] }
  | _ => none }
def fnExactFeltRadiusRow : OpenClaim := { program := "ytjjinblahmcplaa", sum := "466d7fd08519b9a66ba9f8cd71a742b8147e897d2d13918afa607d4ebe276f83", func := "loop.example/g01017/laws.FnExactFeltRadius", spec := "fnExactFeltRadius", unfollowed := true, recurses := true, apart := false }
def FnExactFeltRadiusSaid : Prop := fnExactFeltRadiusRow.holds Try.pinned (OpenSpec.ofChange fnExactFeltRadiusSpec)

/-- ITS FALSE NEIGHBOUR: 'it returns false'. Refute it at one input. -/
def fnExactFeltRadiusWrong : ChangeSpec := { name := "fnExactFeltRadius", fn := fun _ => fun
  | [d1, d2, d3] => { results := [.lit (.bool false)], args := [d1, d2, d3] }
  | _ => none }
def FnExactFeltRadiusWrongFalsely : Prop := fnExactFeltRadiusRow.holds Try.pinned (OpenSpec.ofChange fnExactFeltRadiusWrong)

/-- 'laws.FnExactCenterOf': WHATEVER THE INPUT: true; the input reads as it did. -/
def fnExactCenterOfSpec : ChangeSpec := { name := "fnExactCenterOf", fn := fun _ => fun
  | [d1, d2] => { results := [.lit (.bool true)], args := [d1, d2] }
  | _ => none }
def fnExactCenterOfRow : OpenClaim := { program := "ytjjinblahmcplaa", sum := "466d7fd08519b9a66ba9f8cd71a742b8147e897d2d13918afa607d4ebe276f83", func := "loop.example/g01017/laws.FnExactCenterOf", spec := "fnExactCenterOf", unfollowed := true, recurses := true, apart := false }
def FnExactCenterOfSaid : Prop := fnExactCenterOfRow.holds Try.pinned (OpenSpec.ofChange fnExactCenterOfSpec)

/-- ITS FALSE NEIGHBOUR: 'it returns false'. Refute it at one input. -/
def fnExactCenterOfWrong : ChangeSpec := { name := "fnExactCenterOf", fn := fun _ => fun
  | [d1, d2] => { results := [.lit (.bool false)], args := [d1, d2] }
  | _ => none }
def FnExactCenterOfWrongFalsely : Prop := fnExactCenterOfRow.holds Try.pinned (OpenSpec.ofChange fnExactCenterOfWrong)

/-- 'laws.FnExactStrongestPlace': WHATEVER THE INPUT: true; the input reads as it did. -/
def fnExactStrongestPlaceSpec : ChangeSpec := { name := "fnExactStrongestPlace", fn := fun _ => fun
  | [d] => { results := [.lit (.bool true)], args := [d] }
  | _ => none }
def fnExactStrongestPlaceRow : OpenClaim := { program := "ytjjinblahmcplaa", sum := "466d7fd08519b9a66ba9f8cd71a742b8147e897d2d13918afa607d4ebe276f83", func := "loop.example/g01017/laws.FnExactStrongestPlace", spec := "fnExactStrongestPlace", unfollowed := true, recurses := true, apart := false }
def FnExactStrongestPlaceSaid : Prop := fnExactStrongestPlaceRow.holds Try.pinned (OpenSpec.ofChange fnExactStrongestPlaceSpec)

/-- ITS FALSE NEIGHBOUR: 'it returns false'. Refute it at one input. -/
def fnExactStrongestPlaceWrong : ChangeSpec := { name := "fnExactStrongestPlace", fn := fun _ => fun
  | [d] => { results := [.lit (.bool false)], args := [d] }
  | _ => none }
def FnExactStrongestPlaceWrongFalsely : Prop := fnExactStrongestPlaceRow.holds Try.pinned (OpenSpec.ofChange fnExactStrongestPlaceWrong)

/-- 'laws.FnExactLevelCounts': WHATEVER THE INPUT: true; the input reads as it did. -/
def fnExactLevelCountsSpec : ChangeSpec := { name := "fnExactLevelCounts", fn := fun _ => fun
  | [d] => { results := [.lit (.bool true)], args := [d] }
  | _ => none }
def fnExactLevelCountsRow : OpenClaim := { program := "ytjjinblahmcplaa", sum := "466d7fd08519b9a66ba9f8cd71a742b8147e897d2d13918afa607d4ebe276f83", func := "loop.example/g01017/laws.FnExactLevelCounts", spec := "fnExactLevelCounts", unfollowed := true, recurses := true, apart := false }
def FnExactLevelCountsSaid : Prop := fnExactLevelCountsRow.holds Try.pinned (OpenSpec.ofChange fnExactLevelCountsSpec)

/-- ITS FALSE NEIGHBOUR: 'it returns false'. Refute it at one input. -/
def fnExactLevelCountsWrong : ChangeSpec := { name := "fnExactLevelCounts", fn := fun _ => fun
  | [d] => { results := [.lit (.bool false)], args := [d] }
  | _ => none }
def FnExactLevelCountsWrongFalsely : Prop := fnExactLevelCountsRow.holds Try.pinned (OpenSpec.ofChange fnExactLevelCountsWrong)

/-- 'laws.FnExactLevelOf': WHATEVER THE INPUT: true; the input reads as it did. -/
def fnExactLevelOfSpec : ChangeSpec := { name := "fnExactLevelOf", fn := fun _ => fun
  | [d1, d2, d3, d4] => { results := [.lit (.bool true)], args := [d1, d2, d3, d4] }
  | _ => none }
def fnExactLevelOfRow : OpenClaim := { program := "ytjjinblahmcplaa", sum := "466d7fd08519b9a66ba9f8cd71a742b8147e897d2d13918afa607d4ebe276f83", func := "loop.example/g01017/laws.FnExactLevelOf", spec := "fnExactLevelOf", unfollowed := true, recurses := true, apart := false }
def FnExactLevelOfSaid : Prop := fnExactLevelOfRow.holds Try.pinned (OpenSpec.ofChange fnExactLevelOfSpec)

/-- ITS FALSE NEIGHBOUR: 'it returns false'. Refute it at one input. -/
def fnExactLevelOfWrong : ChangeSpec := { name := "fnExactLevelOf", fn := fun _ => fun
  | [d1, d2, d3, d4] => { results := [.lit (.bool false)], args := [d1, d2, d3, d4] }
  | _ => none }
def FnExactLevelOfWrongFalsely : Prop := fnExactLevelOfRow.holds Try.pinned (OpenSpec.ofChange fnExactLevelOfWrong)

/-- 'laws.FnExactOddReports': WHATEVER THE INPUT: true; the input reads as it did. -/
def fnExactOddReportsSpec : ChangeSpec := { name := "fnExactOddReports", fn := fun _ => fun
  | [d1, d2, d3] => { results := [.lit (.bool true)], args := [d1, d2, d3] }
  | _ => none }
def fnExactOddReportsRow : OpenClaim := { program := "ytjjinblahmcplaa", sum := "466d7fd08519b9a66ba9f8cd71a742b8147e897d2d13918afa607d4ebe276f83", func := "loop.example/g01017/laws.FnExactOddReports", spec := "fnExactOddReports", unfollowed := true, recurses := true, apart := false }
def FnExactOddReportsSaid : Prop := fnExactOddReportsRow.holds Try.pinned (OpenSpec.ofChange fnExactOddReportsSpec)

/-- ITS FALSE NEIGHBOUR: 'it returns false'. Refute it at one input. -/
def fnExactOddReportsWrong : ChangeSpec := { name := "fnExactOddReports", fn := fun _ => fun
  | [d1, d2, d3] => { results := [.lit (.bool false)], args := [d1, d2, d3] }
  | _ => none }
def FnExactOddReportsWrongFalsely : Prop := fnExactOddReportsRow.holds Try.pinned (OpenSpec.ofChange fnExactOddReportsWrong)

/-- 'laws.FnExactMergeReports': WHATEVER THE INPUT: true; the input reads as it did. -/
def fnExactMergeReportsSpec : ChangeSpec := { name := "fnExactMergeReports", fn := fun _ => fun
  | [d1, d2] => { results := [.lit (.bool true)], args := [d1, d2] }
  | _ => none }
def fnExactMergeReportsRow : OpenClaim := { program := "ytjjinblahmcplaa", sum := "466d7fd08519b9a66ba9f8cd71a742b8147e897d2d13918afa607d4ebe276f83", func := "loop.example/g01017/laws.FnExactMergeReports", spec := "fnExactMergeReports", unfollowed := true, recurses := true, apart := false }
def FnExactMergeReportsSaid : Prop := fnExactMergeReportsRow.holds Try.pinned (OpenSpec.ofChange fnExactMergeReportsSpec)

/-- ITS FALSE NEIGHBOUR: 'it returns false'. Refute it at one input. -/
def fnExactMergeReportsWrong : ChangeSpec := { name := "fnExactMergeReports", fn := fun _ => fun
  | [d1, d2] => { results := [.lit (.bool false)], args := [d1, d2] }
  | _ => none }
def FnExactMergeReportsWrongFalsely : Prop := fnExactMergeReportsRow.holds Try.pinned (OpenSpec.ofChange fnExactMergeReportsWrong)

/-- 'laws.FnExactCellsOf': WHATEVER THE INPUT: true; the input reads as it did. -/
def fnExactCellsOfSpec : ChangeSpec := { name := "fnExactCellsOf", fn := fun _ => fun
  | [d1, d2] => { results := [.lit (.bool true)], args := [d1, d2] }
  | _ => none }
def fnExactCellsOfRow : OpenClaim := { program := "ytjjinblahmcplaa", sum := "466d7fd08519b9a66ba9f8cd71a742b8147e897d2d13918afa607d4ebe276f83", func := "loop.example/g01017/laws.FnExactCellsOf", spec := "fnExactCellsOf", unfollowed := true, recurses := true, apart := false }
def FnExactCellsOfSaid : Prop := fnExactCellsOfRow.holds Try.pinned (OpenSpec.ofChange fnExactCellsOfSpec)

/-- ITS FALSE NEIGHBOUR: 'it returns false'. Refute it at one input. -/
def fnExactCellsOfWrong : ChangeSpec := { name := "fnExactCellsOf", fn := fun _ => fun
  | [d1, d2] => { results := [.lit (.bool false)], args := [d1, d2] }
  | _ => none }
def FnExactCellsOfWrongFalsely : Prop := fnExactCellsOfRow.holds Try.pinned (OpenSpec.ofChange fnExactCellsOfWrong)

/-- 'laws.FnShaking': WHATEVER THE INPUT: true; the input reads as it did. -/
def fnShakingSpec : ChangeSpec := { name := "fnShaking", fn := fun _ => fun
  | [d] => { results := [.lit (.bool true)], args := [d] }
  | _ => none }
def fnShakingRow : OpenClaim := { program := "ytjjinblahmcplaa", sum := "466d7fd08519b9a66ba9f8cd71a742b8147e897d2d13918afa607d4ebe276f83", func := "loop.example/g01017/laws.FnShaking", spec := "fnShaking", unfollowed := true, recurses := true, apart := false }
def FnShakingSaid : Prop := fnShakingRow.holds Try.pinned (OpenSpec.ofChange fnShakingSpec)

/-- ITS FALSE NEIGHBOUR: 'it returns false'. Refute it at one input. -/
def fnShakingWrong : ChangeSpec := { name := "fnShaking", fn := fun _ => fun
  | [d] => { results := [.lit (.bool false)], args := [d] }
  | _ => none }
def FnShakingWrongFalsely : Prop := fnShakingRow.holds Try.pinned (OpenSpec.ofChange fnShakingWrong)

/-- 'laws.FnFelt': WHATEVER THE INPUT: true; the input reads as it did. -/
def fnFeltSpec : ChangeSpec := { name := "fnFelt", fn := fun _ => fun
  | [d] => { results := [.lit (.bool true)], args := [d] }
  | _ => none }
def fnFeltRow : OpenClaim := { program := "ytjjinblahmcplaa", sum := "466d7fd08519b9a66ba9f8cd71a742b8147e897d2d13918afa607d4ebe276f83", func := "loop.example/g01017/laws.FnFelt", spec := "fnFelt", unfollowed := true, recurses := true, apart := false }
def FnFeltSaid : Prop := fnFeltRow.holds Try.pinned (OpenSpec.ofChange fnFeltSpec)

/-- ITS FALSE NEIGHBOUR: 'it returns false'. Refute it at one input. -/
def fnFeltWrong : ChangeSpec := { name := "fnFelt", fn := fun _ => fun
  | [d] => { results := [.lit (.bool false)], args := [d] }
  | _ => none }
def FnFeltWrongFalsely : Prop := fnFeltRow.holds Try.pinned (OpenSpec.ofChange fnFeltWrong)

/- THE SECOND FORM. 'bulk': how many values and letters a reading holds, each counted each time it is reached (what is shared counts as often as it is met; a slice's spare places count too). A statement '..UptoSaid' is the law's where the arguments, and the package variables that the reading takes, are together of bulk at most 1048576: NARROWER than '..Said'. Prove '..Said' where nothing that the law and all that it calls make is longer than what came in: it says more and counts as full. Else prove '..UptoSaid'. A law counts once. -/
mutual
def uptoBulk {H : Type} : DataW H → Nat
  | .lit (.string bytes) => bytes.length + 1
  | .lit _ => 1
  | .nil => 1
  | .ptr d => uptoBulk d + 1
  | .slice elems spare => uptoBulkAll elems + uptoBulkAll spare + 1
  | .agg parts => uptoBulkAll parts + 1
  | .iface _ d => uptoBulk d + 1
  | .map entries => uptoBulkEntries entries + 1
  | .held _ => 1
def uptoBulkAll {H : Type} : List (DataW H) → Nat
  | [] => 0
  | d :: r => uptoBulk d + uptoBulkAll r
def uptoBulkEntries {H : Type} : List (Lit × DataW H) → Nat
  | [] => 0
  | x :: r => uptoBulkEntry x + uptoBulkEntries r
def uptoBulkEntry {H : Type} : Lit × DataW H → Nat
  | (.string bytes, d) => bytes.length + uptoBulk d + 1
  | (_, d) => uptoBulk d + 1
 end
def uptoSmall : (H : Type) → List (DataW H) → Bool := fun _ ds => decide (uptoBulkAll ds ≤ 1048576)
def OpenSpec.upto (s : _root_.Go.ChangeSpec) : _root_.Go.OpenSpec := { _root_.Go.OpenSpec.ofChange s with cond := some uptoSmall }

/-- 'laws.FnExactIsFelt', WHERE WHAT IT READS IS OF BULK AT MOST 1048576: true; the input reads as it did. -/
def fnExactIsFeltUptoRow : OpenClaim := { program := "ytjjinblahmcplaa", sum := "466d7fd08519b9a66ba9f8cd71a742b8147e897d2d13918afa607d4ebe276f83", func := "loop.example/g01017/laws.FnExactIsFelt", spec := "fnExactIsFelt", apart := false, narrowed := true }
def FnExactIsFeltUptoSaid : Prop := fnExactIsFeltUptoRow.holds Try.pinned (OpenSpec.upto fnExactIsFeltSpec)

/-- 'laws.FnExactAreFelt', WHERE WHAT IT READS IS OF BULK AT MOST 1048576: true; the input reads as it did. -/
def fnExactAreFeltUptoRow : OpenClaim := { program := "ytjjinblahmcplaa", sum := "466d7fd08519b9a66ba9f8cd71a742b8147e897d2d13918afa607d4ebe276f83", func := "loop.example/g01017/laws.FnExactAreFelt", spec := "fnExactAreFelt", unfollowed := true, recurses := true, apart := false, narrowed := true }
def FnExactAreFeltUptoSaid : Prop := fnExactAreFeltUptoRow.holds Try.pinned (OpenSpec.upto fnExactAreFeltSpec)

/-- 'laws.FnExactFeltRadius', WHERE WHAT IT READS IS OF BULK AT MOST 1048576: true; the input reads as it did. -/
def fnExactFeltRadiusUptoRow : OpenClaim := { program := "ytjjinblahmcplaa", sum := "466d7fd08519b9a66ba9f8cd71a742b8147e897d2d13918afa607d4ebe276f83", func := "loop.example/g01017/laws.FnExactFeltRadius", spec := "fnExactFeltRadius", unfollowed := true, recurses := true, apart := false, narrowed := true }
def FnExactFeltRadiusUptoSaid : Prop := fnExactFeltRadiusUptoRow.holds Try.pinned (OpenSpec.upto fnExactFeltRadiusSpec)

/-- 'laws.FnExactCenterOf', WHERE WHAT IT READS IS OF BULK AT MOST 1048576: true; the input reads as it did. -/
def fnExactCenterOfUptoRow : OpenClaim := { program := "ytjjinblahmcplaa", sum := "466d7fd08519b9a66ba9f8cd71a742b8147e897d2d13918afa607d4ebe276f83", func := "loop.example/g01017/laws.FnExactCenterOf", spec := "fnExactCenterOf", unfollowed := true, recurses := true, apart := false, narrowed := true }
def FnExactCenterOfUptoSaid : Prop := fnExactCenterOfUptoRow.holds Try.pinned (OpenSpec.upto fnExactCenterOfSpec)

/-- 'laws.FnExactStrongestPlace', WHERE WHAT IT READS IS OF BULK AT MOST 1048576: true; the input reads as it did. -/
def fnExactStrongestPlaceUptoRow : OpenClaim := { program := "ytjjinblahmcplaa", sum := "466d7fd08519b9a66ba9f8cd71a742b8147e897d2d13918afa607d4ebe276f83", func := "loop.example/g01017/laws.FnExactStrongestPlace", spec := "fnExactStrongestPlace", unfollowed := true, recurses := true, apart := false, narrowed := true }
def FnExactStrongestPlaceUptoSaid : Prop := fnExactStrongestPlaceUptoRow.holds Try.pinned (OpenSpec.upto fnExactStrongestPlaceSpec)

/-- 'laws.FnExactLevelCounts', WHERE WHAT IT READS IS OF BULK AT MOST 1048576: true; the input reads as it did. -/
def fnExactLevelCountsUptoRow : OpenClaim := { program := "ytjjinblahmcplaa", sum := "466d7fd08519b9a66ba9f8cd71a742b8147e897d2d13918afa607d4ebe276f83", func := "loop.example/g01017/laws.FnExactLevelCounts", spec := "fnExactLevelCounts", unfollowed := true, recurses := true, apart := false, narrowed := true }
def FnExactLevelCountsUptoSaid : Prop := fnExactLevelCountsUptoRow.holds Try.pinned (OpenSpec.upto fnExactLevelCountsSpec)

/-- 'laws.FnExactLevelOf', WHERE WHAT IT READS IS OF BULK AT MOST 1048576: true; the input reads as it did. -/
def fnExactLevelOfUptoRow : OpenClaim := { program := "ytjjinblahmcplaa", sum := "466d7fd08519b9a66ba9f8cd71a742b8147e897d2d13918afa607d4ebe276f83", func := "loop.example/g01017/laws.FnExactLevelOf", spec := "fnExactLevelOf", unfollowed := true, recurses := true, apart := false, narrowed := true }
def FnExactLevelOfUptoSaid : Prop := fnExactLevelOfUptoRow.holds Try.pinned (OpenSpec.upto fnExactLevelOfSpec)

/-- 'laws.FnExactOddReports', WHERE WHAT IT READS IS OF BULK AT MOST 1048576: true; the input reads as it did. -/
def fnExactOddReportsUptoRow : OpenClaim := { program := "ytjjinblahmcplaa", sum := "466d7fd08519b9a66ba9f8cd71a742b8147e897d2d13918afa607d4ebe276f83", func := "loop.example/g01017/laws.FnExactOddReports", spec := "fnExactOddReports", unfollowed := true, recurses := true, apart := false, narrowed := true }
def FnExactOddReportsUptoSaid : Prop := fnExactOddReportsUptoRow.holds Try.pinned (OpenSpec.upto fnExactOddReportsSpec)

/-- 'laws.FnExactMergeReports', WHERE WHAT IT READS IS OF BULK AT MOST 1048576: true; the input reads as it did. -/
def fnExactMergeReportsUptoRow : OpenClaim := { program := "ytjjinblahmcplaa", sum := "466d7fd08519b9a66ba9f8cd71a742b8147e897d2d13918afa607d4ebe276f83", func := "loop.example/g01017/laws.FnExactMergeReports", spec := "fnExactMergeReports", unfollowed := true, recurses := true, apart := false, narrowed := true }
def FnExactMergeReportsUptoSaid : Prop := fnExactMergeReportsUptoRow.holds Try.pinned (OpenSpec.upto fnExactMergeReportsSpec)

/-- 'laws.FnExactCellsOf', WHERE WHAT IT READS IS OF BULK AT MOST 1048576: true; the input reads as it did. -/
def fnExactCellsOfUptoRow : OpenClaim := { program := "ytjjinblahmcplaa", sum := "466d7fd08519b9a66ba9f8cd71a742b8147e897d2d13918afa607d4ebe276f83", func := "loop.example/g01017/laws.FnExactCellsOf", spec := "fnExactCellsOf", unfollowed := true, recurses := true, apart := false, narrowed := true }
def FnExactCellsOfUptoSaid : Prop := fnExactCellsOfUptoRow.holds Try.pinned (OpenSpec.upto fnExactCellsOfSpec)

/-- 'laws.FnShaking', WHERE WHAT IT READS IS OF BULK AT MOST 1048576: true; the input reads as it did. -/
def fnShakingUptoRow : OpenClaim := { program := "ytjjinblahmcplaa", sum := "466d7fd08519b9a66ba9f8cd71a742b8147e897d2d13918afa607d4ebe276f83", func := "loop.example/g01017/laws.FnShaking", spec := "fnShaking", unfollowed := true, recurses := true, apart := false, narrowed := true }
def FnShakingUptoSaid : Prop := fnShakingUptoRow.holds Try.pinned (OpenSpec.upto fnShakingSpec)

/-- 'laws.FnFelt', WHERE WHAT IT READS IS OF BULK AT MOST 1048576: true; the input reads as it did. -/
def fnFeltUptoRow : OpenClaim := { program := "ytjjinblahmcplaa", sum := "466d7fd08519b9a66ba9f8cd71a742b8147e897d2d13918afa607d4ebe276f83", func := "loop.example/g01017/laws.FnFelt", spec := "fnFelt", unfollowed := true, recurses := true, apart := false, narrowed := true }
def FnFeltUptoSaid : Prop := fnFeltUptoRow.holds Try.pinned (OpenSpec.upto fnFeltSpec)

end Rows
end Go.Proofs.Ytjjinblahmcplaa
