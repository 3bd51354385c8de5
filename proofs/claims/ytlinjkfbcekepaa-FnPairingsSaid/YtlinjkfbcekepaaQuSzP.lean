/-
  The mean difference of sizes, in plain words.
-/
import Derived.Test.YtlinjkfbcekepaaQuPrs
import Derived.Test.YtlinjkfbcekepaaGcd
namespace Go.Proofs.Ytlinjkfbcekepaa
set_option linter.unusedVariables false
set_option linter.unusedSimpArgs false
set_option linter.unnecessarySimpa false

def szD (a b : List Qu) (p : P2) : Int := match a[p.a.toNat]?, b[p.b.toNat]? with | some x, some y => y.sz - x.sz | _, _ => 0
def szS (a b : List Qu) (D : List P2) (k : Nat) : Int := ((D.take k).map (szD a b)).foldl (· + ·) 0
theorem szS_succ {a b : List Qu} {D : List P2} {k : Nat} {p : P2} (h : D[k]? = some p) : szS a b D (k + 1) = szS a b D k + szD a b p := by
  unfold szS
  rw [List.take_add_one, h]
  simp [List.foldl_append]
theorem lpP_in {a b : List Qu} {t f : Int} {k : Nat} {p : P2} (h : (lpP a b t f 0 0)[k]? = some p) : ∃ (i j : Nat) (x y : Qu), p = ⟨(i : Int), (j : Int)⟩ ∧ i < a.length ∧ j < b.length ∧ a[i]? = some x ∧ b[j]? = some y := by
  have hm := List.mem_of_getElem? h
  unfold lpP at hm
  obtain ⟨r, hr, e⟩ := List.mem_map.1 hm
  have := lpG_in (pB a b t f) a.length b.length (a.length - 0) 0 (by omega) r hr
  obtain ⟨x, hx⟩ := some_get this.1
  obtain ⟨y, hy⟩ := some_get this.2
  exact ⟨r.1, r.2, x, y, e.symm, this.1, this.2, hx, hy⟩
theorem szD_at {a b : List Qu} {i j : Nat} {x y : Qu} (hx : a[i]? = some x) (hy : b[j]? = some y) : szD a b ⟨(i : Int), (j : Int)⟩ = y.sz - x.sz := by
  simp [szD, hx, hy]
theorem szS_bd {a b : List Qu} {t f : Int} (hga : ∀ m ∈ a, oneQu m = true) (hgb : ∀ m ∈ b, oneQu m = true) : ∀ k, k ≤ (lpP a b t f 0 0).length → -115 * (k : Int) ≤ szS a b (lpP a b t f 0 0) k ∧ szS a b (lpP a b t f 0 0) k ≤ 115 * (k : Int)
  | 0, _ => by simp [szS]
  | k + 1, h => by
    have ih := szS_bd (t := t) (f := f) hga hgb k (by omega)
    obtain ⟨p, hp⟩ := some_get (show k < (lpP a b t f 0 0).length by omega)
    obtain ⟨i, j, x, y, rfl, _, _, hx, hy⟩ := lpP_in hp
    rw [szS_succ hp, szD_at hx hy]
    obtain ⟨_, _, _, h1⟩ := oneQu_bounds (hga x (List.mem_of_getElem? hx))
    obtain ⟨_, _, _, h2⟩ := oneQu_bounds (hgb y (List.mem_of_getElem? hy))
    omega
def szR (a b : List Qu) (t f : Int) : Int × Int × Bool :=
  if bothB a b t f then
    (if (lpP a b t f 0 0).length = 0 then (0, 0, false) else ((fracI (szS a b (lpP a b t f 0 0) (lpP a b t f 0 0).length) ((lpP a b t f 0 0).length : Int)).1, (fracI (szS a b (lpP a b t f 0 0) (lpP a b t f 0 0).length) ((lpP a b t f 0 0).length : Int)).2, true))
  else (0, 0, false)
end Go.Proofs.Ytlinjkfbcekepaa
