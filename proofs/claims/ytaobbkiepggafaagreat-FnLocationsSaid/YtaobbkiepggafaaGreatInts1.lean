/-
  Lists of ints: the laws' own helpers over them (size, copy, comparison, marks).
-/
import Derived.Test.YtaobbkiepggafaaGreatBase
import Derived.Test.YtaobbkiepggafaaGreatRows
namespace Go.Proofs.YtaobbkiepggafaaGreat
set_option linter.unusedVariables false
set_option linter.unusedSimpArgs false
set_option linter.unnecessarySimpa false
open Go.RowKit
attribute [local go_sem] ext_cell ext_frozen

theorem infoI : (Tryz.prog.info? 3).map (fun i => (i.zero, i.size, i.bytes)) = some (some (.int .i64 0), 1, 8) := by kernel_rfl
theorem encI_one (n : Int) : ∀ v ∈ encI n, v.oneCell' = true := by
  intro v hv
  simp [encI] at hv
  rw [hv]
  rfl
theorem cellsI_one (l : List Int) : ∀ v ∈ l.flatMap encI, v.oneCell' = true := by
  intro v hv
  obtain ⟨m, _, h⟩ := List.mem_flatMap.1 hv
  exact encI_one m v h
end Go.Proofs.YtaobbkiepggafaaGreat
