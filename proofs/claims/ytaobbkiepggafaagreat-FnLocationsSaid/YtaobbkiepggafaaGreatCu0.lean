/-
  Cubes as plain data: the struct, its row in memory, and the laws' own helpers over it (size, copy, comparison, marks).
-/
import Derived.Test.YtaobbkiepggafaaGreatBase
import Derived.Test.YtaobbkiepggafaaGreatRows
namespace Go.Proofs.YtaobbkiepggafaaGreat
set_option linter.unusedVariables false
set_option linter.unusedSimpArgs false
set_option linter.unnecessarySimpa false
open Go.RowKit
attribute [local go_sem] ext_cell ext_frozen

structure Cu where
  ws : Int
  so : Int
  sd : Int
  fr : Int
  to_ : Int
def encCu (m : Cu) : List Value := [.int .i64 m.ws, .int .i64 m.so, .int .i64 m.sd, .int .i64 m.fr, .int .i64 m.to_]
theorem encCu_len (m : Cu) : (encCu m).length = 5 := rfl
theorem encCu_one (m : Cu) : ∀ v ∈ encCu m, v.oneCell' = true := by
  intro v hv
  simp [encCu] at hv
  rcases hv with rfl | rfl | rfl | rfl | rfl <;> rfl
theorem cellsCu_one (l : List Cu) : ∀ v ∈ l.flatMap encCu, v.oneCell' = true := by
  intro v hv
  obtain ⟨m, _, h⟩ := List.mem_flatMap.1 hv
  exact encCu_one m v h
theorem cellsCu_len (l : List Cu) : (l.flatMap encCu).length = l.length * 5 := by
  induction l with
  | nil => rfl
  | cons m l ih => rw [List.flatMap_cons, List.length_append, ih, encCu_len, List.length_cons]; omega
theorem infoCu : (Tryz.prog.info? 26).map (fun i => (i.zero, i.size, i.bytes)) = some (some (.agg #[.int .i64 0, .int .i64 0, .int .i64 0, .int .i64 0, .int .i64 0]), 5, 40) := by kernel_rfl

theorem RowAt.cu {w : World} {k : Nat} {A : Option Addr} {l : List Cu} {m : Cu} (h : RowAt 5 encCu w A l) (hm : l[k]? = some m) :
    ∃ b off, A = some ⟨b, off, none⟩ ∧ b < w.heap.size ∧ w.cell? ⟨b, off + k * 5, none⟩ = some (.int .i64 m.ws) ∧ w.cell? ⟨b, off + k * 5 + 1, none⟩ = some (.int .i64 m.so) ∧ w.cell? ⟨b, off + k * 5 + 2, none⟩ = some (.int .i64 m.sd) ∧ w.cell? ⟨b, off + k * 5 + 3, none⟩ = some (.int .i64 m.fr) ∧ w.cell? ⟨b, off + k * 5 + 4, none⟩ = some (.int .i64 m.to_) := by
  obtain ⟨b, off, e, hb, hc⟩ := h.at_ hm
  exact ⟨b, off, e, hb, hc k m hm 0 _ rfl, hc k m hm 1 _ rfl, hc k m hm 2 _ rfl, hc k m hm 3 _ rfl, hc k m hm 4 _ rfl⟩

theorem RowAt.cu2 {w : World} {k j : Nat} {A : Option Addr} {l : List Cu} {m p : Cu} (h : RowAt 5 encCu w A l) (hm : l[k]? = some m) (hp : l[j]? = some p) :
    ∃ b off, A = some ⟨b, off, none⟩ ∧ b < w.heap.size ∧ w.cell? ⟨b, off + k * 5, none⟩ = some (.int .i64 m.ws) ∧ w.cell? ⟨b, off + k * 5 + 1, none⟩ = some (.int .i64 m.so) ∧ w.cell? ⟨b, off + k * 5 + 2, none⟩ = some (.int .i64 m.sd) ∧ w.cell? ⟨b, off + k * 5 + 3, none⟩ = some (.int .i64 m.fr) ∧ w.cell? ⟨b, off + k * 5 + 4, none⟩ = some (.int .i64 m.to_) ∧ w.cell? ⟨b, off + j * 5, none⟩ = some (.int .i64 p.ws) ∧ w.cell? ⟨b, off + j * 5 + 1, none⟩ = some (.int .i64 p.so) ∧ w.cell? ⟨b, off + j * 5 + 2, none⟩ = some (.int .i64 p.sd) ∧ w.cell? ⟨b, off + j * 5 + 3, none⟩ = some (.int .i64 p.fr) ∧ w.cell? ⟨b, off + j * 5 + 4, none⟩ = some (.int .i64 p.to_) := by
  obtain ⟨b, off, e, hb, hc⟩ := h.at_ hm
  exact ⟨b, off, e, hb, hc k m hm 0 _ rfl, hc k m hm 1 _ rfl, hc k m hm 2 _ rfl, hc k m hm 3 _ rfl, hc k m hm 4 _ rfl, hc j p hp 0 _ rfl, hc j p hp 1 _ rfl, hc j p hp 2 _ rfl, hc j p hp 3 _ rfl, hc j p hp 4 _ rfl⟩

def markCu (k : Int) : Cu := ⟨k, k + 1, k + 1 + 1, k + 1 + 1 + 1, k + 1 + 1 + 1 + 1⟩
def marksCu (k : Int) (n : Nat) : List Cu := (List.range n).map fun (i : Nat) => markCu (k + 5 * (i : Int))
theorem marksCu_len (k : Int) (n : Nat) : (marksCu k n).length = n := by simp [marksCu]
theorem marksCu_get {k : Int} {n i : Nat} (h : i < n) : (marksCu k n)[i]? = some (markCu (k + 5 * (i : Int))) := by simp [marksCu, h]

end Go.Proofs.YtaobbkiepggafaaGreat
