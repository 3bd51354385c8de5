/-
  No cell of these rows narrows 'for every input' (looked for: loops, veiled, ifaces, maps, wideKeys, modest, calm, conditions, laid).
  DERIVED. THE GIVEN ROWS OF THIS SEAT. 11 by the template 'for every input the law returns true; each argument reads behind the call as it read before'; 0 by the template 'total and deterministic' (their statements: YtlinjkfbcekepaaTotals.lean).
  GIVEN WITH THE SEED: the statements are not yours to turn. If you find one false, say at which input.
  Laid BY PROGRAM, IN A SANDBOX (cutbox-rows.mjs): the forced cells as the released guide's own fill.sh prints them over the translation 14a8ea43ac08a8b3… (all of the seat's roots in one cut). By AI agents, Wed Nov 11 2026. No macro, syntax, notation, axiom, sorry.
-/
import Derived.Test.YtlinjkfbcekepaaChecked
import GoSem.Claim
import GoSem.ClaimJoined
import GoSem.ClaimMapViews
import Derived.JoinedTies
import Derived.KernelRfl
namespace Go.Proofs.Ytlinjkfbcekepaa
/- THE CELL 'sum', in the pinned program and in every row, IS THE sha256 OF THE DUMP (.gsa) THAT YtlinjkfbcekepaaProg.lean LOADS. Nothing in Lean hashes anything: it is a label: what it is worth is what the hold of that sum in a sandbox is worth. -/
noncomputable def Try.pinned : Pinned := { name := "ytlinjkfbcekepaa", sum := "14a8ea43ac08a8b328666dd36ea17e186b4d26724f33760a05a7901dbf144038", checked := Try.checked }
namespace Rows
def none {H : Type} : Left H := { results := [], args := [] }

/-- 'laws.FnExactDoMatch': WHATEVER THE INPUT: true; the input reads as it did. -/
def fnExactDoMatchSpec : ChangeSpec := { name := "fnExactDoMatch", fn := fun _ => fun
  | [d1, d2, d3, d4] => { results := [.lit (.bool true)], args := [d1, d2, d3, d4] }
  | _ => none }
def fnExactDoMatchRow : OpenClaim := { program := "ytlinjkfbcekepaa", sum := "14a8ea43ac08a8b328666dd36ea17e186b4d26724f33760a05a7901dbf144038", func := "loop.example/g01017/laws.FnExactDoMatch", spec := "fnExactDoMatch", apart := false }
def FnExactDoMatchSaid : Prop := fnExactDoMatchRow.holds Try.pinned (OpenSpec.ofChange fnExactDoMatchSpec)

/-- ITS FALSE NEIGHBOUR: 'it returns false'. Refute it at one input. -/
def fnExactDoMatchWrong : ChangeSpec := { name := "fnExactDoMatch", fn := fun _ => fun
  | [d1, d2, d3, d4] => { results := [.lit (.bool false)], args := [d1, d2, d3, d4] }
  | _ => none }
def FnExactDoMatchWrongFalsely : Prop := fnExactDoMatchRow.holds Try.pinned (OpenSpec.ofChange fnExactDoMatchWrong)

/-- 'laws.FnPairings': WHATEVER THE INPUT: true; the input reads as it did. -/
def fnPairingsSpec : ChangeSpec := { name := "fnPairings", fn := fun _ => fun
  | [d] => { results := [.lit (.bool true)], args := [d] }
  | _ => none }
def fnPairingsRow : OpenClaim := { program := "ytlinjkfbcekepaa", sum := "14a8ea43ac08a8b328666dd36ea17e186b4d26724f33760a05a7901dbf144038", func := "loop.example/g01017/laws.FnPairings", spec := "fnPairings", unfollowed := true, recurses := true, apart := false }
def FnPairingsSaid : Prop := fnPairingsRow.holds Try.pinned (OpenSpec.ofChange fnPairingsSpec)

/-- ITS FALSE NEIGHBOUR: 'it returns false'. Refute it at one input. -/
def fnPairingsWrong : ChangeSpec := { name := "fnPairings", fn := fun _ => fun
  | [d] => { results := [.lit (.bool false)], args := [d] }
  | _ => none }
def FnPairingsWrongFalsely : Prop := fnPairingsRow.holds Try.pinned (OpenSpec.ofChange fnPairingsWrong)

/-- 'laws.FnExactIsCatalogue': WHATEVER THE INPUT: true; the input reads as it did. -/
def fnExactIsCatalogueSpec : ChangeSpec := { name := "fnExactIsCatalogue", fn := fun _ => fun
  | [d] => { results := [.lit (.bool true)], args := [d] }
  | _ => none }
def fnExactIsCatalogueRow : OpenClaim := { program := "ytlinjkfbcekepaa", sum := "14a8ea43ac08a8b328666dd36ea17e186b4d26724f33760a05a7901dbf144038", func := "loop.example/g01017/laws.FnExactIsCatalogue", spec := "fnExactIsCatalogue", unfollowed := true, recurses := true, apart := false }
def FnExactIsCatalogueSaid : Prop := fnExactIsCatalogueRow.holds Try.pinned (OpenSpec.ofChange fnExactIsCatalogueSpec)

/-- ITS FALSE NEIGHBOUR: 'it returns false'. Refute it at one input. -/
def fnExactIsCatalogueWrong : ChangeSpec := { name := "fnExactIsCatalogue", fn := fun _ => fun
  | [d] => { results := [.lit (.bool false)], args := [d] }
  | _ => none }
def FnExactIsCatalogueWrongFalsely : Prop := fnExactIsCatalogueRow.holds Try.pinned (OpenSpec.ofChange fnExactIsCatalogueWrong)

/-- 'laws.FnExactIsPairing': WHATEVER THE INPUT: true; the input reads as it did. -/
def fnExactIsPairingSpec : ChangeSpec := { name := "fnExactIsPairing", fn := fun _ => fun
  | [d1, d2, d3, d4, d5] => { results := [.lit (.bool true)], args := [d1, d2, d3, d4, d5] }
  | _ => none }
def fnExactIsPairingRow : OpenClaim := { program := "ytlinjkfbcekepaa", sum := "14a8ea43ac08a8b328666dd36ea17e186b4d26724f33760a05a7901dbf144038", func := "loop.example/g01017/laws.FnExactIsPairing", spec := "fnExactIsPairing", unfollowed := true, recurses := true, apart := false }
def FnExactIsPairingSaid : Prop := fnExactIsPairingRow.holds Try.pinned (OpenSpec.ofChange fnExactIsPairingSpec)

/-- ITS FALSE NEIGHBOUR: 'it returns false'. Refute it at one input. -/
def fnExactIsPairingWrong : ChangeSpec := { name := "fnExactIsPairing", fn := fun _ => fun
  | [d1, d2, d3, d4, d5] => { results := [.lit (.bool false)], args := [d1, d2, d3, d4, d5] }
  | _ => none }
def FnExactIsPairingWrongFalsely : Prop := fnExactIsPairingRow.holds Try.pinned (OpenSpec.ofChange fnExactIsPairingWrong)

/-- 'laws.FnExactOnlyIn': WHATEVER THE INPUT: true; the input reads as it did. -/
def fnExactOnlyInSpec : ChangeSpec := { name := "fnExactOnlyIn", fn := fun _ => fun
  | [d1, d2, d3, d4] => { results := [.lit (.bool true)], args := [d1, d2, d3, d4] }
  | _ => none }
def fnExactOnlyInRow : OpenClaim := { program := "ytlinjkfbcekepaa", sum := "14a8ea43ac08a8b328666dd36ea17e186b4d26724f33760a05a7901dbf144038", func := "loop.example/g01017/laws.FnExactOnlyIn", spec := "fnExactOnlyIn", unfollowed := true, recurses := true, apart := false }
def FnExactOnlyInSaid : Prop := fnExactOnlyInRow.holds Try.pinned (OpenSpec.ofChange fnExactOnlyInSpec)

/-- ITS FALSE NEIGHBOUR: 'it returns false'. Refute it at one input. -/
def fnExactOnlyInWrong : ChangeSpec := { name := "fnExactOnlyIn", fn := fun _ => fun
  | [d1, d2, d3, d4] => { results := [.lit (.bool false)], args := [d1, d2, d3, d4] }
  | _ => none }
def FnExactOnlyInWrongFalsely : Prop := fnExactOnlyInRow.holds Try.pinned (OpenSpec.ofChange fnExactOnlyInWrong)

/-- 'laws.FnExactMatchesOf': WHATEVER THE INPUT: true; the input reads as it did. -/
def fnExactMatchesOfSpec : ChangeSpec := { name := "fnExactMatchesOf", fn := fun _ => fun
  | [d1, d2, d3, d4] => { results := [.lit (.bool true)], args := [d1, d2, d3, d4] }
  | _ => none }
def fnExactMatchesOfRow : OpenClaim := { program := "ytlinjkfbcekepaa", sum := "14a8ea43ac08a8b328666dd36ea17e186b4d26724f33760a05a7901dbf144038", func := "loop.example/g01017/laws.FnExactMatchesOf", spec := "fnExactMatchesOf", unfollowed := true, recurses := true, apart := false }
def FnExactMatchesOfSaid : Prop := fnExactMatchesOfRow.holds Try.pinned (OpenSpec.ofChange fnExactMatchesOfSpec)

/-- ITS FALSE NEIGHBOUR: 'it returns false'. Refute it at one input. -/
def fnExactMatchesOfWrong : ChangeSpec := { name := "fnExactMatchesOf", fn := fun _ => fun
  | [d1, d2, d3, d4] => { results := [.lit (.bool false)], args := [d1, d2, d3, d4] }
  | _ => none }
def FnExactMatchesOfWrongFalsely : Prop := fnExactMatchesOfRow.holds Try.pinned (OpenSpec.ofChange fnExactMatchesOfWrong)

/-- 'laws.FnExactSizeOffset': WHATEVER THE INPUT: true; the input reads as it did. -/
def fnExactSizeOffsetSpec : ChangeSpec := { name := "fnExactSizeOffset", fn := fun _ => fun
  | [d1, d2, d3, d4] => { results := [.lit (.bool true)], args := [d1, d2, d3, d4] }
  | _ => none }
def fnExactSizeOffsetRow : OpenClaim := { program := "ytlinjkfbcekepaa", sum := "14a8ea43ac08a8b328666dd36ea17e186b4d26724f33760a05a7901dbf144038", func := "loop.example/g01017/laws.FnExactSizeOffset", spec := "fnExactSizeOffset", unfollowed := true, recurses := true, apart := false }
def FnExactSizeOffsetSaid : Prop := fnExactSizeOffsetRow.holds Try.pinned (OpenSpec.ofChange fnExactSizeOffsetSpec)

/-- ITS FALSE NEIGHBOUR: 'it returns false'. Refute it at one input. -/
def fnExactSizeOffsetWrong : ChangeSpec := { name := "fnExactSizeOffset", fn := fun _ => fun
  | [d1, d2, d3, d4] => { results := [.lit (.bool false)], args := [d1, d2, d3, d4] }
  | _ => none }
def FnExactSizeOffsetWrongFalsely : Prop := fnExactSizeOffsetRow.holds Try.pinned (OpenSpec.ofChange fnExactSizeOffsetWrong)

/-- 'laws.FnExactLongestPairing': WHATEVER THE INPUT: true; the input reads as it did. -/
def fnExactLongestPairingSpec : ChangeSpec := { name := "fnExactLongestPairing", fn := fun _ => fun
  | [d1, d2, d3, d4] => { results := [.lit (.bool true)], args := [d1, d2, d3, d4] }
  | _ => none }
def fnExactLongestPairingRow : OpenClaim := { program := "ytlinjkfbcekepaa", sum := "14a8ea43ac08a8b328666dd36ea17e186b4d26724f33760a05a7901dbf144038", func := "loop.example/g01017/laws.FnExactLongestPairing", spec := "fnExactLongestPairing", unfollowed := true, recurses := true, apart := false }
def FnExactLongestPairingSaid : Prop := fnExactLongestPairingRow.holds Try.pinned (OpenSpec.ofChange fnExactLongestPairingSpec)

/-- ITS FALSE NEIGHBOUR: 'it returns false'. Refute it at one input. -/
def fnExactLongestPairingWrong : ChangeSpec := { name := "fnExactLongestPairing", fn := fun _ => fun
  | [d1, d2, d3, d4] => { results := [.lit (.bool false)], args := [d1, d2, d3, d4] }
  | _ => none }
def FnExactLongestPairingWrongFalsely : Prop := fnExactLongestPairingRow.holds Try.pinned (OpenSpec.ofChange fnExactLongestPairingWrong)

/-- 'laws.FnExactPutQuake': WHATEVER THE INPUT: true; the input reads as it did. -/
def fnExactPutQuakeSpec : ChangeSpec := { name := "fnExactPutQuake", fn := fun _ => fun
  | [d1, d2] => { results := [.lit (.bool true)], args := [d1, d2] }
  | _ => none }
def fnExactPutQuakeRow : OpenClaim := { program := "ytlinjkfbcekepaa", sum := "14a8ea43ac08a8b328666dd36ea17e186b4d26724f33760a05a7901dbf144038", func := "loop.example/g01017/laws.FnExactPutQuake", spec := "fnExactPutQuake", unfollowed := true, recurses := true, apart := false }
def FnExactPutQuakeSaid : Prop := fnExactPutQuakeRow.holds Try.pinned (OpenSpec.ofChange fnExactPutQuakeSpec)

/-- ITS FALSE NEIGHBOUR: 'it returns false'. Refute it at one input. -/
def fnExactPutQuakeWrong : ChangeSpec := { name := "fnExactPutQuake", fn := fun _ => fun
  | [d1, d2] => { results := [.lit (.bool false)], args := [d1, d2] }
  | _ => none }
def FnExactPutQuakeWrongFalsely : Prop := fnExactPutQuakeRow.holds Try.pinned (OpenSpec.ofChange fnExactPutQuakeWrong)

/-- 'laws.FnExactMergedCatalogue': WHATEVER THE INPUT: true; the input reads as it did. -/
def fnExactMergedCatalogueSpec : ChangeSpec := { name := "fnExactMergedCatalogue", fn := fun _ => fun
  | [d1, d2, d3, d4] => { results := [.lit (.bool true)], args := [d1, d2, d3, d4] }
  | _ => none }
def fnExactMergedCatalogueRow : OpenClaim := { program := "ytlinjkfbcekepaa", sum := "14a8ea43ac08a8b328666dd36ea17e186b4d26724f33760a05a7901dbf144038", func := "loop.example/g01017/laws.FnExactMergedCatalogue", spec := "fnExactMergedCatalogue", unfollowed := true, recurses := true, apart := false }
def FnExactMergedCatalogueSaid : Prop := fnExactMergedCatalogueRow.holds Try.pinned (OpenSpec.ofChange fnExactMergedCatalogueSpec)

/-- ITS FALSE NEIGHBOUR: 'it returns false'. Refute it at one input. -/
def fnExactMergedCatalogueWrong : ChangeSpec := { name := "fnExactMergedCatalogue", fn := fun _ => fun
  | [d1, d2, d3, d4] => { results := [.lit (.bool false)], args := [d1, d2, d3, d4] }
  | _ => none }
def FnExactMergedCatalogueWrongFalsely : Prop := fnExactMergedCatalogueRow.holds Try.pinned (OpenSpec.ofChange fnExactMergedCatalogueWrong)

/-- 'laws.FnMerging': WHATEVER THE INPUT: true; the input reads as it did. -/
def fnMergingSpec : ChangeSpec := { name := "fnMerging", fn := fun _ => fun
  | [d] => { results := [.lit (.bool true)], args := [d] }
  | _ => none }
def fnMergingRow : OpenClaim := { program := "ytlinjkfbcekepaa", sum := "14a8ea43ac08a8b328666dd36ea17e186b4d26724f33760a05a7901dbf144038", func := "loop.example/g01017/laws.FnMerging", spec := "fnMerging", unfollowed := true, recurses := true, apart := false }
def FnMergingSaid : Prop := fnMergingRow.holds Try.pinned (OpenSpec.ofChange fnMergingSpec)

/-- ITS FALSE NEIGHBOUR: 'it returns false'. Refute it at one input. -/
def fnMergingWrong : ChangeSpec := { name := "fnMerging", fn := fun _ => fun
  | [d] => { results := [.lit (.bool false)], args := [d] }
  | _ => none }
def FnMergingWrongFalsely : Prop := fnMergingRow.holds Try.pinned (OpenSpec.ofChange fnMergingWrong)

/- THE SECOND FORM. 'bulk': how many values and letters a reading holds, each counted each time it is reached (what is shared counts as often as it is met; a slice's spare places count too). A statement '..UptoSaid' is the law's where the arguments, and the package variables that the reading takes, are together of bulk at most 1048576: NARROWER than '..Said'. Prove '..Said' where nothing that the law and all that it calls make is longer than what came in: it says more and counts as full. Else prove '..UptoSaid'. A law counts once. -/
mutual
def uptoBulk {H : Type} : DataW H → Nat
  | .lit (.string bytes) => bytes.length + 1
  | .lit _ => 1
  | .nil => 1
  | .ptr d => uptoBulk d + 1
  | .slice elems spare => uptoBulkAll elems + uptoBulkAll spare + 1
  | .agg parts => uptoBulkAll parts + 1
  | .iface _ d => uptoBulk d + 1
  | .map entries => uptoBulkEntries entries + 1
  | .held _ => 1
def uptoBulkAll {H : Type} : List (DataW H) → Nat
  | [] => 0
  | d :: r => uptoBulk d + uptoBulkAll r
def uptoBulkEntries {H : Type} : List (Lit × DataW H) → Nat
  | [] => 0
  | x :: r => uptoBulkEntry x + uptoBulkEntries r
def uptoBulkEntry {H : Type} : Lit × DataW H → Nat
  | (.string bytes, d) => bytes.length + uptoBulk d + 1
  | (_, d) => uptoBulk d + 1
 end
def uptoSmall : (H : Type) → List (DataW H) → Bool := fun _ ds => decide (uptoBulkAll ds ≤ 1048576)
def OpenSpec.upto (s : _root_.Go.ChangeSpec) : _root_.Go.OpenSpec := { _root_.Go.OpenSpec.ofChange s with cond := some uptoSmall }

/-- 'laws.FnExactDoMatch', WHERE WHAT IT READS IS OF BULK AT MOST 1048576: true; the input reads as it did. -/
def fnExactDoMatchUptoRow : OpenClaim := { program := "ytlinjkfbcekepaa", sum := "14a8ea43ac08a8b328666dd36ea17e186b4d26724f33760a05a7901dbf144038", func := "loop.example/g01017/laws.FnExactDoMatch", spec := "fnExactDoMatch", apart := false, narrowed := true }
def FnExactDoMatchUptoSaid : Prop := fnExactDoMatchUptoRow.holds Try.pinned (OpenSpec.upto fnExactDoMatchSpec)

/-- 'laws.FnPairings', WHERE WHAT IT READS IS OF BULK AT MOST 1048576: true; the input reads as it did. -/
def fnPairingsUptoRow : OpenClaim := { program := "ytlinjkfbcekepaa", sum := "14a8ea43ac08a8b328666dd36ea17e186b4d26724f33760a05a7901dbf144038", func := "loop.example/g01017/laws.FnPairings", spec := "fnPairings", unfollowed := true, recurses := true, apart := false, narrowed := true }
def FnPairingsUptoSaid : Prop := fnPairingsUptoRow.holds Try.pinned (OpenSpec.upto fnPairingsSpec)

/-- 'laws.FnExactIsCatalogue', WHERE WHAT IT READS IS OF BULK AT MOST 1048576: true; the input reads as it did. -/
def fnExactIsCatalogueUptoRow : OpenClaim := { program := "ytlinjkfbcekepaa", sum := "14a8ea43ac08a8b328666dd36ea17e186b4d26724f33760a05a7901dbf144038", func := "loop.example/g01017/laws.FnExactIsCatalogue", spec := "fnExactIsCatalogue", unfollowed := true, recurses := true, apart := false, narrowed := true }
def FnExactIsCatalogueUptoSaid : Prop := fnExactIsCatalogueUptoRow.holds Try.pinned (OpenSpec.upto fnExactIsCatalogueSpec)

/-- 'laws.FnExactIsPairing', WHERE WHAT IT READS IS OF BULK AT MOST 1048576: true; the input reads as it did. -/
def fnExactIsPairingUptoRow : OpenClaim := { program := "ytlinjkfbcekepaa", sum := "14a8ea43ac08a8b328666dd36ea17e186b4d26724f33760a05a7901dbf144038", func := "loop.example/g01017/laws.FnExactIsPairing", spec := "fnExactIsPairing", unfollowed := true, recurses := true, apart := false, narrowed := true }
def FnExactIsPairingUptoSaid : Prop := fnExactIsPairingUptoRow.holds Try.pinned (OpenSpec.upto fnExactIsPairingSpec)

/-- 'laws.FnExactOnlyIn', WHERE WHAT IT READS IS OF BULK AT MOST 1048576: true; the input reads as it did. -/
def fnExactOnlyInUptoRow : OpenClaim := { program := "ytlinjkfbcekepaa", sum := "14a8ea43ac08a8b328666dd36ea17e186b4d26724f33760a05a7901dbf144038", func := "loop.example/g01017/laws.FnExactOnlyIn", spec := "fnExactOnlyIn", unfollowed := true, recurses := true, apart := false, narrowed := true }
def FnExactOnlyInUptoSaid : Prop := fnExactOnlyInUptoRow.holds Try.pinned (OpenSpec.upto fnExactOnlyInSpec)

/-- 'laws.FnExactMatchesOf', WHERE WHAT IT READS IS OF BULK AT MOST 1048576: true; the input reads as it did. -/
def fnExactMatchesOfUptoRow : OpenClaim := { program := "ytlinjkfbcekepaa", sum := "14a8ea43ac08a8b328666dd36ea17e186b4d26724f33760a05a7901dbf144038", func := "loop.example/g01017/laws.FnExactMatchesOf", spec := "fnExactMatchesOf", unfollowed := true, recurses := true, apart := false, narrowed := true }
def FnExactMatchesOfUptoSaid : Prop := fnExactMatchesOfUptoRow.holds Try.pinned (OpenSpec.upto fnExactMatchesOfSpec)

/-- 'laws.FnExactSizeOffset', WHERE WHAT IT READS IS OF BULK AT MOST 1048576: true; the input reads as it did. -/
def fnExactSizeOffsetUptoRow : OpenClaim := { program := "ytlinjkfbcekepaa", sum := "14a8ea43ac08a8b328666dd36ea17e186b4d26724f33760a05a7901dbf144038", func := "loop.example/g01017/laws.FnExactSizeOffset", spec := "fnExactSizeOffset", unfollowed := true, recurses := true, apart := false, narrowed := true }
def FnExactSizeOffsetUptoSaid : Prop := fnExactSizeOffsetUptoRow.holds Try.pinned (OpenSpec.upto fnExactSizeOffsetSpec)

/-- 'laws.FnExactLongestPairing', WHERE WHAT IT READS IS OF BULK AT MOST 1048576: true; the input reads as it did. -/
def fnExactLongestPairingUptoRow : OpenClaim := { program := "ytlinjkfbcekepaa", sum := "14a8ea43ac08a8b328666dd36ea17e186b4d26724f33760a05a7901dbf144038", func := "loop.example/g01017/laws.FnExactLongestPairing", spec := "fnExactLongestPairing", unfollowed := true, recurses := true, apart := false, narrowed := true }
def FnExactLongestPairingUptoSaid : Prop := fnExactLongestPairingUptoRow.holds Try.pinned (OpenSpec.upto fnExactLongestPairingSpec)

/-- 'laws.FnExactPutQuake', WHERE WHAT IT READS IS OF BULK AT MOST 1048576: true; the input reads as it did. -/
def fnExactPutQuakeUptoRow : OpenClaim := { program := "ytlinjkfbcekepaa", sum := "14a8ea43ac08a8b328666dd36ea17e186b4d26724f33760a05a7901dbf144038", func := "loop.example/g01017/laws.FnExactPutQuake", spec := "fnExactPutQuake", unfollowed := true, recurses := true, apart := false, narrowed := true }
def FnExactPutQuakeUptoSaid : Prop := fnExactPutQuakeUptoRow.holds Try.pinned (OpenSpec.upto fnExactPutQuakeSpec)

/-- 'laws.FnExactMergedCatalogue', WHERE WHAT IT READS IS OF BULK AT MOST 1048576: true; the input reads as it did. -/
def fnExactMergedCatalogueUptoRow : OpenClaim := { program := "ytlinjkfbcekepaa", sum := "14a8ea43ac08a8b328666dd36ea17e186b4d26724f33760a05a7901dbf144038", func := "loop.example/g01017/laws.FnExactMergedCatalogue", spec := "fnExactMergedCatalogue", unfollowed := true, recurses := true, apart := false, narrowed := true }
def FnExactMergedCatalogueUptoSaid : Prop := fnExactMergedCatalogueUptoRow.holds Try.pinned (OpenSpec.upto fnExactMergedCatalogueSpec)

/-- 'laws.FnMerging', WHERE WHAT IT READS IS OF BULK AT MOST 1048576: true; the input reads as it did. -/
def fnMergingUptoRow : OpenClaim := { program := "ytlinjkfbcekepaa", sum := "14a8ea43ac08a8b328666dd36ea17e186b4d26724f33760a05a7901dbf144038", func := "loop.example/g01017/laws.FnMerging", spec := "fnMerging", unfollowed := true, recurses := true, apart := false, narrowed := true }
def FnMergingUptoSaid : Prop := fnMergingUptoRow.holds Try.pinned (OpenSpec.upto fnMergingSpec)

end Rows
end Go.Proofs.Ytlinjkfbcekepaa
