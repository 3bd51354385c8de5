/-
  Rows of ints; small facts on lists.
-/
import Derived.Test.YtifkakpiipoadaaPlain0
namespace Go.Proofs.Ytifkakpiipoadaa
set_option linter.unusedVariables false
set_option linter.unusedSimpArgs false
set_option linter.unnecessarySimpa false
open Go.RowKit

def encI (n : Int) : List Value := [.int .i64 n]
theorem encI_len (n : Int) : (encI n).length = 1 := rfl
theorem RowAt.i {w : World} {k : Nat} {A : Option Addr} {l : List Int} {n : Int} (h : RowAt 1 encI w A l) (hm : l[k]? = some n) :
    ∃ b off, A = some ⟨b, off, none⟩ ∧ b < w.heap.size ∧ w.cell? ⟨b, off + k, none⟩ = some (.int .i64 n) := by
  obtain ⟨b, off, e, hb, hc⟩ := h.at_ hm
  exact ⟨b, off, e, hb, by simpa using hc k n hm 0 _ rfl⟩
theorem RowAt.of_block {α : Type} {enc : α → List Value} {K : Nat} {w : World} {g E : Nat} {cs : Array Value} {l : List α} (hK : ∀ m, (enc m).length = K) (h : w.heap[g]? = some (.cells cs E (0, 0))) (hcs : cs.toList = l.flatMap enc) :
    RowAt K enc w (some ⟨g, 0, none⟩) l := fun _ => by
  refine ⟨g, 0, rfl, (Array.getElem?_eq_some_iff.1 h).1, fun i m hi j u hj => ?_⟩
  rw [Nat.zero_add, cell_of_row w g _ cs E (0, 0) h, ← Array.getElem?_toList, hcs]
  exact flat_get hK l i m hi j u hj

theorem drop_cons {α : Type} {l : List α} {k : Nat} {m : α} (hm : l[k]? = some m) : l.drop k = m :: l.drop (k + 1) := by
  obtain ⟨h, e⟩ := List.getElem?_eq_some_iff.1 hm
  rw [List.drop_eq_getElem_cons h, e]

end Go.Proofs.Ytifkakpiipoadaa
