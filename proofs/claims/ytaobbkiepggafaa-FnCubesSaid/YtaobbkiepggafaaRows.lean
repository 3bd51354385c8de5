/-
  No cell of these rows narrows 'for every input' (looked for: loops, veiled, ifaces, maps, wideKeys, modest, calm, conditions, laid).
  DERIVED. THE GIVEN ROWS OF THIS SEAT. 6 by the template 'for every input the law returns true; each argument reads behind the call as it read before'; 0 by the template 'total and deterministic' (their statements: YtaobbkiepggafaaTotals.lean).
  GIVEN WITH THE SEED: the statements are not yours to turn. If you find one false, say at which input.
  Laid BY PROGRAM, IN A SANDBOX (cutbox-rows.mjs): the forced cells as the released guide's own fill.sh prints them over the translation 1075cce39cf0b01c… (all of the seat's roots in one cut). By AI agents, Wed Nov 11 2026. No macro, syntax, notation, axiom, sorry.
-/
import Derived.Test.YtaobbkiepggafaaChecked
import GoSem.Claim
import GoSem.ClaimJoined
import GoSem.ClaimMapViews
import Derived.JoinedTies
import Derived.KernelRfl
namespace Go.Proofs.Ytaobbkiepggafaa
/- THE CELL 'sum', in the pinned program and in every row, IS THE sha256 OF THE DUMP (.gsa) THAT YtaobbkiepggafaaProg.lean LOADS. Nothing in Lean hashes anything: it is a label: what it is worth is what the hold of that sum in a sandbox is worth. -/
noncomputable def Try.pinned : Pinned := { name := "ytaobbkiepggafaa", sum := "1075cce39cf0b01cb9a0bade8fc561ad0339c4113a1a84ec6c2f7833524114dd", checked := Try.checked }
namespace Rows
def none {H : Type} : Left H := { results := [], args := [] }

/-- 'laws.FnExactIsConsistent': WHATEVER THE INPUT: true; the input reads as it did. -/
def fnExactIsConsistentSpec : ChangeSpec := { name := "fnExactIsConsistent", fn := fun _ => fun
  | [d1, d2] => { results := [.lit (.bool true)], args := [d1, d2] }
  | _ => none }
def fnExactIsConsistentRow : OpenClaim := { program := "ytaobbkiepggafaa", sum := "1075cce39cf0b01cb9a0bade8fc561ad0339c4113a1a84ec6c2f7833524114dd", func := "loop.example/g01017/laws.FnExactIsConsistent", spec := "fnExactIsConsistent", unfollowed := true, recurses := true, apart := false }
def FnExactIsConsistentSaid : Prop := fnExactIsConsistentRow.holds Try.pinned (OpenSpec.ofChange fnExactIsConsistentSpec)

/-- ITS FALSE NEIGHBOUR: 'it returns false'. Refute it at one input. -/
def fnExactIsConsistentWrong : ChangeSpec := { name := "fnExactIsConsistent", fn := fun _ => fun
  | [d1, d2] => { results := [.lit (.bool false)], args := [d1, d2] }
  | _ => none }
def FnExactIsConsistentWrongFalsely : Prop := fnExactIsConsistentRow.holds Try.pinned (OpenSpec.ofChange fnExactIsConsistentWrong)

/-- 'laws.FnExactIsPossible': WHATEVER THE INPUT: true; the input reads as it did. -/
def fnExactIsPossibleSpec : ChangeSpec := { name := "fnExactIsPossible", fn := fun _ => fun
  | [d1, d2] => { results := [.lit (.bool true)], args := [d1, d2] }
  | _ => none }
def fnExactIsPossibleRow : OpenClaim := { program := "ytaobbkiepggafaa", sum := "1075cce39cf0b01cb9a0bade8fc561ad0339c4113a1a84ec6c2f7833524114dd", func := "loop.example/g01017/laws.FnExactIsPossible", spec := "fnExactIsPossible", unfollowed := true, recurses := true, apart := false }
def FnExactIsPossibleSaid : Prop := fnExactIsPossibleRow.holds Try.pinned (OpenSpec.ofChange fnExactIsPossibleSpec)

/-- ITS FALSE NEIGHBOUR: 'it returns false'. Refute it at one input. -/
def fnExactIsPossibleWrong : ChangeSpec := { name := "fnExactIsPossible", fn := fun _ => fun
  | [d1, d2] => { results := [.lit (.bool false)], args := [d1, d2] }
  | _ => none }
def FnExactIsPossibleWrongFalsely : Prop := fnExactIsPossibleRow.holds Try.pinned (OpenSpec.ofChange fnExactIsPossibleWrong)

/-- 'laws.FnExactConsistentIn': WHATEVER THE INPUT: true; the input reads as it did. -/
def fnExactConsistentInSpec : ChangeSpec := { name := "fnExactConsistentIn", fn := fun _ => fun
  | [d1, d2] => { results := [.lit (.bool true)], args := [d1, d2] }
  | _ => none }
def fnExactConsistentInRow : OpenClaim := { program := "ytaobbkiepggafaa", sum := "1075cce39cf0b01cb9a0bade8fc561ad0339c4113a1a84ec6c2f7833524114dd", func := "loop.example/g01017/laws.FnExactConsistentIn", spec := "fnExactConsistentIn", unfollowed := true, recurses := true, apart := false }
def FnExactConsistentInSaid : Prop := fnExactConsistentInRow.holds Try.pinned (OpenSpec.ofChange fnExactConsistentInSpec)

/-- ITS FALSE NEIGHBOUR: 'it returns false'. Refute it at one input. -/
def fnExactConsistentInWrong : ChangeSpec := { name := "fnExactConsistentIn", fn := fun _ => fun
  | [d1, d2] => { results := [.lit (.bool false)], args := [d1, d2] }
  | _ => none }
def FnExactConsistentInWrongFalsely : Prop := fnExactConsistentInRow.holds Try.pinned (OpenSpec.ofChange fnExactConsistentInWrong)

/-- 'laws.FnCubes': WHATEVER THE INPUT: true; the input reads as it did. -/
def fnCubesSpec : ChangeSpec := { name := "fnCubes", fn := fun _ => fun
  | [d] => { results := [.lit (.bool true)], args := [d] }
  | _ => none }
def fnCubesRow : OpenClaim := { program := "ytaobbkiepggafaa", sum := "1075cce39cf0b01cb9a0bade8fc561ad0339c4113a1a84ec6c2f7833524114dd", func := "loop.example/g01017/laws.FnCubes", spec := "fnCubes", unfollowed := true, recurses := true, apart := false }
def FnCubesSaid : Prop := fnCubesRow.holds Try.pinned (OpenSpec.ofChange fnCubesSpec)

/-- ITS FALSE NEIGHBOUR: 'it returns false'. Refute it at one input. -/
def fnCubesWrong : ChangeSpec := { name := "fnCubes", fn := fun _ => fun
  | [d] => { results := [.lit (.bool false)], args := [d] }
  | _ => none }
def FnCubesWrongFalsely : Prop := fnCubesRow.holds Try.pinned (OpenSpec.ofChange fnCubesWrong)

/-- 'laws.FnExactProvesNone': WHATEVER THE INPUT: true; the input reads as it did. -/
def fnExactProvesNoneSpec : ChangeSpec := { name := "fnExactProvesNone", fn := fun _ => fun
  | [d1, d2, d3] => { results := [.lit (.bool true)], args := [d1, d2, d3] }
  | _ => none }
def fnExactProvesNoneRow : OpenClaim := { program := "ytaobbkiepggafaa", sum := "1075cce39cf0b01cb9a0bade8fc561ad0339c4113a1a84ec6c2f7833524114dd", func := "loop.example/g01017/laws.FnExactProvesNone", spec := "fnExactProvesNone", unfollowed := true, recurses := true, apart := false }
def FnExactProvesNoneSaid : Prop := fnExactProvesNoneRow.holds Try.pinned (OpenSpec.ofChange fnExactProvesNoneSpec)

/-- ITS FALSE NEIGHBOUR: 'it returns false'. Refute it at one input. -/
def fnExactProvesNoneWrong : ChangeSpec := { name := "fnExactProvesNone", fn := fun _ => fun
  | [d1, d2, d3] => { results := [.lit (.bool false)], args := [d1, d2, d3] }
  | _ => none }
def FnExactProvesNoneWrongFalsely : Prop := fnExactProvesNoneRow.holds Try.pinned (OpenSpec.ofChange fnExactProvesNoneWrong)

/-- 'laws.FnExactLocateIn': WHATEVER THE INPUT: true; the input reads as it did. -/
def fnExactLocateInSpec : ChangeSpec := { name := "fnExactLocateIn", fn := fun _ => fun
  | [d1, d2, d3] => { results := [.lit (.bool true)], args := [d1, d2, d3] }
  | _ => none }
def fnExactLocateInRow : OpenClaim := { program := "ytaobbkiepggafaa", sum := "1075cce39cf0b01cb9a0bade8fc561ad0339c4113a1a84ec6c2f7833524114dd", func := "loop.example/g01017/laws.FnExactLocateIn", spec := "fnExactLocateIn", unfollowed := true, recurses := true, apart := false }
def FnExactLocateInSaid : Prop := fnExactLocateInRow.holds Try.pinned (OpenSpec.ofChange fnExactLocateInSpec)

/-- ITS FALSE NEIGHBOUR: 'it returns false'. Refute it at one input. -/
def fnExactLocateInWrong : ChangeSpec := { name := "fnExactLocateIn", fn := fun _ => fun
  | [d1, d2, d3] => { results := [.lit (.bool false)], args := [d1, d2, d3] }
  | _ => none }
def FnExactLocateInWrongFalsely : Prop := fnExactLocateInRow.holds Try.pinned (OpenSpec.ofChange fnExactLocateInWrong)

/- THE SECOND FORM. 'bulk': how many values and letters a reading holds, each counted each time it is reached (what is shared counts as often as it is met; a slice's spare places count too). A statement '..UptoSaid' is the law's where the arguments, and the package variables that the reading takes, are together of bulk at most 1048576: NARROWER than '..Said'. Prove '..Said' where nothing that the law and all that it calls make is longer than what came in: it says more and counts as full. Else prove '..UptoSaid'. A law counts once. -/
mutual
def uptoBulk {H : Type} : DataW H → Nat
  | .lit (.string bytes) => bytes.length + 1
  | .lit _ => 1
  | .nil => 1
  | .ptr d => uptoBulk d + 1
  | .slice elems spare => uptoBulkAll elems + uptoBulkAll spare + 1
  | .agg parts => uptoBulkAll parts + 1
  | .iface _ d => uptoBulk d + 1
  | .map entries => uptoBulkEntries entries + 1
  | .held _ => 1
def uptoBulkAll {H : Type} : List (DataW H) → Nat
  | [] => 0
  | d :: r => uptoBulk d + uptoBulkAll r
def uptoBulkEntries {H : Type} : List (Lit × DataW H) → Nat
  | [] => 0
  | x :: r => uptoBulkEntry x + uptoBulkEntries r
def uptoBulkEntry {H : Type} : Lit × DataW H → Nat
  | (.string bytes, d) => bytes.length + uptoBulk d + 1
  | (_, d) => uptoBulk d + 1
 end
def uptoSmall : (H : Type) → List (DataW H) → Bool := fun _ ds => decide (uptoBulkAll ds ≤ 1048576)
def OpenSpec.upto (s : _root_.Go.ChangeSpec) : _root_.Go.OpenSpec := { _root_.Go.OpenSpec.ofChange s with cond := some uptoSmall }

/-- 'laws.FnExactIsConsistent', WHERE WHAT IT READS IS OF BULK AT MOST 1048576: true; the input reads as it did. -/
def fnExactIsConsistentUptoRow : OpenClaim := { program := "ytaobbkiepggafaa", sum := "1075cce39cf0b01cb9a0bade8fc561ad0339c4113a1a84ec6c2f7833524114dd", func := "loop.example/g01017/laws.FnExactIsConsistent", spec := "fnExactIsConsistent", unfollowed := true, recurses := true, apart := false, narrowed := true }
def FnExactIsConsistentUptoSaid : Prop := fnExactIsConsistentUptoRow.holds Try.pinned (OpenSpec.upto fnExactIsConsistentSpec)

/-- 'laws.FnExactIsPossible', WHERE WHAT IT READS IS OF BULK AT MOST 1048576: true; the input reads as it did. -/
def fnExactIsPossibleUptoRow : OpenClaim := { program := "ytaobbkiepggafaa", sum := "1075cce39cf0b01cb9a0bade8fc561ad0339c4113a1a84ec6c2f7833524114dd", func := "loop.example/g01017/laws.FnExactIsPossible", spec := "fnExactIsPossible", unfollowed := true, recurses := true, apart := false, narrowed := true }
def FnExactIsPossibleUptoSaid : Prop := fnExactIsPossibleUptoRow.holds Try.pinned (OpenSpec.upto fnExactIsPossibleSpec)

/-- 'laws.FnExactConsistentIn', WHERE WHAT IT READS IS OF BULK AT MOST 1048576: true; the input reads as it did. -/
def fnExactConsistentInUptoRow : OpenClaim := { program := "ytaobbkiepggafaa", sum := "1075cce39cf0b01cb9a0bade8fc561ad0339c4113a1a84ec6c2f7833524114dd", func := "loop.example/g01017/laws.FnExactConsistentIn", spec := "fnExactConsistentIn", unfollowed := true, recurses := true, apart := false, narrowed := true }
def FnExactConsistentInUptoSaid : Prop := fnExactConsistentInUptoRow.holds Try.pinned (OpenSpec.upto fnExactConsistentInSpec)

/-- 'laws.FnCubes', WHERE WHAT IT READS IS OF BULK AT MOST 1048576: true; the input reads as it did. -/
def fnCubesUptoRow : OpenClaim := { program := "ytaobbkiepggafaa", sum := "1075cce39cf0b01cb9a0bade8fc561ad0339c4113a1a84ec6c2f7833524114dd", func := "loop.example/g01017/laws.FnCubes", spec := "fnCubes", unfollowed := true, recurses := true, apart := false, narrowed := true }
def FnCubesUptoSaid : Prop := fnCubesUptoRow.holds Try.pinned (OpenSpec.upto fnCubesSpec)

/-- 'laws.FnExactProvesNone', WHERE WHAT IT READS IS OF BULK AT MOST 1048576: true; the input reads as it did. -/
def fnExactProvesNoneUptoRow : OpenClaim := { program := "ytaobbkiepggafaa", sum := "1075cce39cf0b01cb9a0bade8fc561ad0339c4113a1a84ec6c2f7833524114dd", func := "loop.example/g01017/laws.FnExactProvesNone", spec := "fnExactProvesNone", unfollowed := true, recurses := true, apart := false, narrowed := true }
def FnExactProvesNoneUptoSaid : Prop := fnExactProvesNoneUptoRow.holds Try.pinned (OpenSpec.upto fnExactProvesNoneSpec)

/-- 'laws.FnExactLocateIn', WHERE WHAT IT READS IS OF BULK AT MOST 1048576: true; the input reads as it did. -/
def fnExactLocateInUptoRow : OpenClaim := { program := "ytaobbkiepggafaa", sum := "1075cce39cf0b01cb9a0bade8fc561ad0339c4113a1a84ec6c2f7833524114dd", func := "loop.example/g01017/laws.FnExactLocateIn", spec := "fnExactLocateIn", unfollowed := true, recurses := true, apart := false, narrowed := true }
def FnExactLocateInUptoSaid : Prop := fnExactLocateInUptoRow.holds Try.pinned (OpenSpec.upto fnExactLocateInSpec)

end Rows
end Go.Proofs.Ytaobbkiepggafaa
