/-
  slices.insertionSortCmpFunc at []impl.Duty: the shelf's contract holds of this seat's program.
-/
import Derived.Shelf.SlSortCmp.InsertionK
import Derived.Test.YtldhlmjfpnpamaaProg
namespace Go.Proofs.Ytldhlmjfpnpamaa
open Go.RowKit
def laysDuty_ren : Go.Shelf.Ren := ⟨fun | 20 => 98 | n => n, fun | 0 => 0 | 3 => 3 | 4 => 4 | 22 => 31 | 24 => 25 | 25 => 66 | n => n, fun | n => n⟩
theorem laysDuty : Go.Proofs.SlLaysF0.n20 Try.prog laysDuty_ren := {
  mixed := by kernel_rfl
  f20 := ⟨Try.f98.name, by decide, Try.func98.trans (congrArg some (by kernel_rfl))⟩
  t0 := Try.underlying0
  a0 := Try.isAgg0
  z0 := Try.sizeOf0
  v0 := Try.zeroValue0
  t3 := Try.underlying3
  a3 := Try.isAgg3
  z3 := Try.sizeOf3
  v3 := Try.zeroValue3
  t4 := Try.underlying4
  a4 := Try.isAgg4
  z4 := Try.sizeOf4
  v4 := Try.zeroValue4
  t22 := Try.underlying31
  a22 := Try.isAgg31
  z22 := Try.sizeOf31
  v22 := Try.zeroValue31
  t25 := Try.underlying66
  a25 := Try.isAgg66
  z25 := Try.sizeOf66
  v25 := Try.zeroValue66
}
end Go.Proofs.Ytldhlmjfpnpamaa
