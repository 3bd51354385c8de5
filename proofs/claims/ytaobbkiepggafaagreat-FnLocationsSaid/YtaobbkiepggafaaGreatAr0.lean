/-
  Arrivals as plain data: the struct, its row in memory, and the laws' own helpers over it (size, copy, comparison, marks).
-/
import Derived.Test.YtaobbkiepggafaaGreatBase
import Derived.Test.YtaobbkiepggafaaGreatRows
namespace Go.Proofs.YtaobbkiepggafaaGreat
set_option linter.unusedVariables false
set_option linter.unusedSimpArgs false
set_option linter.unnecessarySimpa false
open Go.RowKit
attribute [local go_sem] ext_cell ext_frozen

structure Ar where
  id : Int
  x : Int
  y : Int
  tk : Int
  er : Int
def encAr (m : Ar) : List Value := [.int .i64 m.id, .int .i64 m.x, .int .i64 m.y, .int .i64 m.tk, .int .i64 m.er]
theorem encAr_len (m : Ar) : (encAr m).length = 5 := rfl
theorem encAr_one (m : Ar) : ∀ v ∈ encAr m, v.oneCell' = true := by
  intro v hv
  simp [encAr] at hv
  rcases hv with rfl | rfl | rfl | rfl | rfl <;> rfl
theorem cellsAr_one (l : List Ar) : ∀ v ∈ l.flatMap encAr, v.oneCell' = true := by
  intro v hv
  obtain ⟨m, _, h⟩ := List.mem_flatMap.1 hv
  exact encAr_one m v h
theorem cellsAr_len (l : List Ar) : (l.flatMap encAr).length = l.length * 5 := by
  induction l with
  | nil => rfl
  | cons m l ih => rw [List.flatMap_cons, List.length_append, ih, encAr_len, List.length_cons]; omega
theorem infoAr : (Tryz.prog.info? 71).map (fun i => (i.zero, i.size, i.bytes)) = some (some (.agg #[.int .i64 0, .int .i64 0, .int .i64 0, .int .i64 0, .int .i64 0]), 5, 40) := by kernel_rfl

theorem RowAt.ar {w : World} {k : Nat} {A : Option Addr} {l : List Ar} {m : Ar} (h : RowAt 5 encAr w A l) (hm : l[k]? = some m) :
    ∃ b off, A = some ⟨b, off, none⟩ ∧ b < w.heap.size ∧ w.cell? ⟨b, off + k * 5, none⟩ = some (.int .i64 m.id) ∧ w.cell? ⟨b, off + k * 5 + 1, none⟩ = some (.int .i64 m.x) ∧ w.cell? ⟨b, off + k * 5 + 2, none⟩ = some (.int .i64 m.y) ∧ w.cell? ⟨b, off + k * 5 + 3, none⟩ = some (.int .i64 m.tk) ∧ w.cell? ⟨b, off + k * 5 + 4, none⟩ = some (.int .i64 m.er) := by
  obtain ⟨b, off, e, hb, hc⟩ := h.at_ hm
  exact ⟨b, off, e, hb, hc k m hm 0 _ rfl, hc k m hm 1 _ rfl, hc k m hm 2 _ rfl, hc k m hm 3 _ rfl, hc k m hm 4 _ rfl⟩

theorem RowAt.ar2 {w : World} {k j : Nat} {A : Option Addr} {l : List Ar} {m p : Ar} (h : RowAt 5 encAr w A l) (hm : l[k]? = some m) (hp : l[j]? = some p) :
    ∃ b off, A = some ⟨b, off, none⟩ ∧ b < w.heap.size ∧ w.cell? ⟨b, off + k * 5, none⟩ = some (.int .i64 m.id) ∧ w.cell? ⟨b, off + k * 5 + 1, none⟩ = some (.int .i64 m.x) ∧ w.cell? ⟨b, off + k * 5 + 2, none⟩ = some (.int .i64 m.y) ∧ w.cell? ⟨b, off + k * 5 + 3, none⟩ = some (.int .i64 m.tk) ∧ w.cell? ⟨b, off + k * 5 + 4, none⟩ = some (.int .i64 m.er) ∧ w.cell? ⟨b, off + j * 5, none⟩ = some (.int .i64 p.id) ∧ w.cell? ⟨b, off + j * 5 + 1, none⟩ = some (.int .i64 p.x) ∧ w.cell? ⟨b, off + j * 5 + 2, none⟩ = some (.int .i64 p.y) ∧ w.cell? ⟨b, off + j * 5 + 3, none⟩ = some (.int .i64 p.tk) ∧ w.cell? ⟨b, off + j * 5 + 4, none⟩ = some (.int .i64 p.er) := by
  obtain ⟨b, off, e, hb, hc⟩ := h.at_ hm
  exact ⟨b, off, e, hb, hc k m hm 0 _ rfl, hc k m hm 1 _ rfl, hc k m hm 2 _ rfl, hc k m hm 3 _ rfl, hc k m hm 4 _ rfl, hc j p hp 0 _ rfl, hc j p hp 1 _ rfl, hc j p hp 2 _ rfl, hc j p hp 3 _ rfl, hc j p hp 4 _ rfl⟩

def markAr (k : Int) : Ar := ⟨k, k + 1, k + 1 + 1, k + 1 + 1 + 1, k + 1 + 1 + 1 + 1⟩
def marksAr (k : Int) (n : Nat) : List Ar := (List.range n).map fun (i : Nat) => markAr (k + 5 * (i : Int))
theorem marksAr_len (k : Int) (n : Nat) : (marksAr k n).length = n := by simp [marksAr]
theorem marksAr_get {k : Int} {n i : Nat} (h : i < n) : (marksAr k n)[i]? = some (markAr (k + 5 * (i : Int))) := by simp [marksAr, h]

end Go.Proofs.YtaobbkiepggafaaGreat
