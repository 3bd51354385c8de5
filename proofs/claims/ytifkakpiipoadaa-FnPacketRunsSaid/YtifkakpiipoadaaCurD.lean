/-
  The draws, as steps: Dr w0 w K says that from w0 to w only the draws' struct was changed and that at most K bytes were asked.
-/
import Derived.Test.YtifkakpiipoadaaCur
namespace Go.Proofs.Ytifkakpiipoadaa
set_option linter.unusedVariables false
set_option linter.unusedSimpArgs false
set_option linter.unnecessarySimpa false
open Go.RowKit
attribute [local go_sem] ext_cell ext_frozen

def Dr (w0 w : World) (p : Nat) (A : Option Addr) (n c K : Nat) : Prop := (∃ k, k ≤ K ∧ CurK w p A n c k) ∧ w0.grownBy w (some p)
theorem CurK.below {w w' : World} {p : Nat} {A : Option Addr} {n c k : Nat} (h : CurK w p A n c k) (hb : Below w.heap.size w w') : CurK w' p A n c k := by
  obtain ⟨s, h⟩ := h
  exact ⟨s, h.below hb⟩
theorem Dr.below {w0 w w' : World} {p : Nat} {A : Option Addr} {n c K : Nat} (h : Dr w0 w p A n c K) (hb : Below w.heap.size w w') : Dr w0 w' p A n c K := by
  obtain ⟨⟨k, h1, h2⟩, h3⟩ := h
  exact ⟨⟨k, h1, h2.below hb⟩, only_two h3 (only_of_below hb _)⟩
theorem Dr.alloc {w0 w : World} {p : Nat} {A : Option Addr} {n c K : Nat} (h : Dr w0 w p A n c K) (o : Obj) : Dr w0 (w.alloc o) p A n c K := h.below (balloc (bref w) o)
theorem Dr.self {w0 w : World} {p : Nat} {A : Option Addr} {n c K : Nat} (h : Dr w0 w p A n c K) : Dr w w p A n c K := ⟨h.1, World.grownBy.refl _ _⟩
theorem Dr.comp {w0 w w' : World} {p : Nat} {A : Option Addr} {n c K K' : Nat} (h : Dr w0 w p A n c K) (h2 : Dr w w' p A n c K') : Dr w0 w' p A n c K' := ⟨h2.1, only_two h.2 h2.2⟩
theorem Dr.went {w0 w w' : World} {p : Nat} {A : Option Addr} {n c K k d : Nat} (h0 : w0.grownBy w (some p)) (hk : k ≤ K) (h : Went w w' p A n c k d) : Dr w0 w' p A n c (K + d) := by
  obtain ⟨⟨k', h1, h2, h3⟩, h4⟩ := h
  exact ⟨⟨k', by omega, h3⟩, only_two h0 h4⟩
theorem pick_dr {w0 : World} {p : Nat} {A : Option Addr} {n c K : Nat} (m : Int) (w : World) (h : Dr w0 w p A n c K) (hk : K ≤ 900000) (hn : n ≤ 9223372036854775807) (hm : 0 ≤ m ∧ m ≤ 60000) :
    Calls Try.prog 91 #[.pointer (some ⟨p, 0, none⟩), .int .i64 m] w fun e w' => ∃ r : Int, e = .returned (.int .i64 r) ∧ (0 ≤ r ∧ (r = 0 ∨ r < m)) ∧ Dr w0 w' p A n c (K + 2) ∧ w.grownBy w' (some p) := by
  obtain ⟨⟨k, h1, h2⟩, h3⟩ := h
  refine (pick_any p A n c k m w h2 (by omega) hn hm).mono ?_
  rintro e w' ⟨r, he, hr, hw⟩
  exact ⟨r, he, hr, Dr.went h3 h1 hw, hw.2⟩
theorem one_dr {w0 : World} {p : Nat} {A : Option Addr} {n c K : Nat} (m : Int) (w : World) (h : Dr w0 w p A n c K) (hk : K ≤ 900000) (hn : n ≤ 9223372036854775807) (hm : 0 ≤ m ∧ m ≤ 60000) :
    Calls Try.prog 90 #[.pointer (some ⟨p, 0, none⟩), .int .i64 m] w fun e w' => ∃ b : Bool, e = .returned (.bool b) ∧ Dr w0 w' p A n c (K + 2) ∧ w.grownBy w' (some p) := by
  obtain ⟨⟨k, h1, h2⟩, h3⟩ := h
  refine (one_any p A n c k m w h2 (by omega) hn hm).mono ?_
  rintro e w' ⟨b, he, hw⟩
  exact ⟨b, he, Dr.went h3 h1 hw, hw.2⟩
/-- among, asked with a row that was just made. -/
theorem among_dr {w0 : World} {p : Nat} {A : Option Addr} {n c K : Nat} (l : List Int) (m cb g : Nat) (w : World) (h : Dr w0 w p A n c K) (hk : K ≤ 900000) (hn : n ≤ 9223372036854775807) (hrow : RowAt 1 encI w (some ⟨g, 0, none⟩) l) (hg : g ≠ p) (hl : l.length = m) (hl1 : 0 < m) (hl2 : m ≤ 1000) :
    Calls Try.prog 92 #[.pointer (some ⟨p, 0, none⟩), .slice (some ⟨g, 0, none⟩) m cb] w fun e w' => ∃ v : Int, e = .returned (.int .i64 v) ∧ v ∈ l ∧ Dr w0 w' p A n c (K + 2) ∧ w.grownBy w' (some p) := by
  subst hl
  obtain ⟨⟨k, h1, h2⟩, h3⟩ := h
  refine (among_any p A n c k l (some ⟨g, 0, none⟩) cb w h2 (by omega) hn hrow (fun b off e => by cases e; exact hg) hl1 hl2).mono ?_
  rintro e w' ⟨v, he, hv, hw⟩
  exact ⟨v, he, hv, Dr.went h3 h1 hw, hw.2⟩
theorem Dr.lt {w0 w : World} {p : Nat} {A : Option Addr} {n c K : Nat} (h : Dr w0 w p A n c K) : p < w.heap.size := by
  obtain ⟨⟨k, _, s, h2⟩, _⟩ := h
  exact h2.1
end Go.Proofs.Ytifkakpiipoadaa
