/-
  SplitCube and ReachOf: impl and spec compute one thing.
-/
import Derived.Test.YtaobbkiepggafaaGreatCuSpI
import Derived.Test.YtaobbkiepggafaaGreatCuLoc
import Derived.Test.YtaobbkiepggafaaGreatCuRch
namespace Go.Proofs.YtaobbkiepggafaaGreat
set_option linter.unusedVariables false
set_option linter.unusedSimpArgs false
set_option linter.unnecessarySimpa false
open Go.RowKit
attribute [local go_sem] ext_cell ext_frozen

def splOK (m : Cu) : Bool := cubeB m && !(m.sd == 1)
def splL (m : Cu) : List Cu := if splOK m then chC m else []
theorem splL_le (m : Cu) : (splL m).length ≤ 4 := by
  unfold splL
  split
  · unfold chC chN
    exact Nat.le_trans (List.length_filter_le _ _) (by simp)
  · simp
def rchO (m : Cu) (x y : Int) : Int × Int × Bool := if cubeB m && placeB x y then ((rchR m x y).1, (rchR m x y).2, true) else (0, 0, false)
end Go.Proofs.YtaobbkiepggafaaGreat
