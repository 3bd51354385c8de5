/-
  Origins as plain data: the struct, its row in memory, and the laws' own helpers over it (size, copy, comparison, marks).
-/
import Derived.Test.YtaobbkiepggafaaGreatBase
import Derived.Test.YtaobbkiepggafaaGreatRows
namespace Go.Proofs.YtaobbkiepggafaaGreat
set_option linter.unusedVariables false
set_option linter.unusedSimpArgs false
set_option linter.unnecessarySimpa false
open Go.RowKit
attribute [local go_sem] ext_cell ext_frozen

structure Og where
  x : Int
  y : Int
  tk : Int
def encOg (m : Og) : List Value := [.int .i64 m.x, .int .i64 m.y, .int .i64 m.tk]
theorem encOg_len (m : Og) : (encOg m).length = 3 := rfl
theorem encOg_one (m : Og) : ∀ v ∈ encOg m, v.oneCell' = true := by
  intro v hv
  simp [encOg] at hv
  rcases hv with rfl | rfl | rfl <;> rfl
theorem cellsOg_one (l : List Og) : ∀ v ∈ l.flatMap encOg, v.oneCell' = true := by
  intro v hv
  obtain ⟨m, _, h⟩ := List.mem_flatMap.1 hv
  exact encOg_one m v h
theorem cellsOg_len (l : List Og) : (l.flatMap encOg).length = l.length * 3 := by
  induction l with
  | nil => rfl
  | cons m l ih => rw [List.flatMap_cons, List.length_append, ih, encOg_len, List.length_cons]; omega
theorem infoOg : (Tryz.prog.info? 38).map (fun i => (i.zero, i.size, i.bytes)) = some (some (.agg #[.int .i64 0, .int .i64 0, .int .i64 0]), 3, 24) := by kernel_rfl

theorem RowAt.og {w : World} {k : Nat} {A : Option Addr} {l : List Og} {m : Og} (h : RowAt 3 encOg w A l) (hm : l[k]? = some m) :
    ∃ b off, A = some ⟨b, off, none⟩ ∧ b < w.heap.size ∧ w.cell? ⟨b, off + k * 3, none⟩ = some (.int .i64 m.x) ∧ w.cell? ⟨b, off + k * 3 + 1, none⟩ = some (.int .i64 m.y) ∧ w.cell? ⟨b, off + k * 3 + 2, none⟩ = some (.int .i64 m.tk) := by
  obtain ⟨b, off, e, hb, hc⟩ := h.at_ hm
  exact ⟨b, off, e, hb, hc k m hm 0 _ rfl, hc k m hm 1 _ rfl, hc k m hm 2 _ rfl⟩

theorem RowAt.og2 {w : World} {k j : Nat} {A : Option Addr} {l : List Og} {m p : Og} (h : RowAt 3 encOg w A l) (hm : l[k]? = some m) (hp : l[j]? = some p) :
    ∃ b off, A = some ⟨b, off, none⟩ ∧ b < w.heap.size ∧ w.cell? ⟨b, off + k * 3, none⟩ = some (.int .i64 m.x) ∧ w.cell? ⟨b, off + k * 3 + 1, none⟩ = some (.int .i64 m.y) ∧ w.cell? ⟨b, off + k * 3 + 2, none⟩ = some (.int .i64 m.tk) ∧ w.cell? ⟨b, off + j * 3, none⟩ = some (.int .i64 p.x) ∧ w.cell? ⟨b, off + j * 3 + 1, none⟩ = some (.int .i64 p.y) ∧ w.cell? ⟨b, off + j * 3 + 2, none⟩ = some (.int .i64 p.tk) := by
  obtain ⟨b, off, e, hb, hc⟩ := h.at_ hm
  exact ⟨b, off, e, hb, hc k m hm 0 _ rfl, hc k m hm 1 _ rfl, hc k m hm 2 _ rfl, hc j p hp 0 _ rfl, hc j p hp 1 _ rfl, hc j p hp 2 _ rfl⟩

end Go.Proofs.YtaobbkiepggafaaGreat
