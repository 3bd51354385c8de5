/-
  Small words shared by the proofs of this seat: a test of bounds as a Bool; no program is named here.
-/
import Derived.WalkKit
import Derived.WalkSpells
import Derived.WalkLawsBesides
import Derived.Lib.Hide
import Derived.Deep.QuietTactic
import Derived.BigQuiet
import Derived.Laws.MakeOwn
import Derived.Laws.IdiomCopy
import Derived.Laws.OwnMore
import Derived.Deep.AppendLies
import Derived.OwnWalk
namespace Go.Proofs.Ytifkakpiipoadaa
set_option linter.unusedVariables false
set_option linter.unusedSimpArgs false
set_option linter.unnecessarySimpa false
open Go.RowKit

/-- 'low ≤ n ≤ high' as a Bool, closed to the walk. -/
def inB (n a b : Int) : Bool := decide (a ≤ n) && decide (n ≤ b)
theorem inB_true {n a b : Int} (h : inB n a b = true) : a ≤ n ∧ n ≤ b := by simpa [inB] using h
theorem inB_false {n a b : Int} (h : inB n a b = false) : n < a ∨ b < n := by
  simp [inB] at h
  by_cases k : a ≤ n
  · exact .inr (by have := h k; omega)
  · exact .inl (by omega)
theorem inB_eq (n a b : Int) : inB n a b = decide (a ≤ n ∧ n ≤ b) := by simp [inB, Bool.decide_and]

section
variable {a W w1 : World}
theorem bref (a : World) : Below a.heap.size a a := Below.refl _ _
theorem bstep (h : Below a.heap.size a W) (h1 : Below W.heap.size W w1) : Below a.heap.size a w1 := h.trans (h1.mono h.size)
theorem balloc (h : Below a.heap.size a W) (o : Obj) : Below a.heap.size a (W.alloc o) := h.alloc h.size o
theorem bdrew (h : Below a.heap.size a W) : Below a.heap.size a W.drew := h.drew
theorem bdrewN (h : Below a.heap.size a W) (n : Nat) : Below a.heap.size a (W.drewN n) := ⟨h.os, h.tape, h.output, h.size, h.block⟩
theorem bset (h : Below a.heap.size a W) {p : Addr} (hp : a.heap.size ≤ p.block) (u : Value) : Below a.heap.size a (W.setCell p u) := h.setCell hp u
theorem bgrown {row : Option Nat} (h : Below a.heap.size a W) (hg : W.grownBy w1 row) (hr : ∀ k, row = some k → a.heap.size ≤ k) : Below a.heap.size a w1 := h.grown hg h.size hr
/-- What a call that only makes memory leaves: cells and marks below B read as before, in the walk's own spelling. -/
theorem bcell {B : Nat} (hB : B ≤ W.heap.size) (hb : Below W.heap.size W w1) : (∀ b o, b < B → w1.cell? ⟨b, o, none⟩ = W.cell? ⟨b, o, none⟩) ∧ (∀ b o, b < B → w1.frozen? ⟨b, o, none⟩ = W.frozen? ⟨b, o, none⟩) ∧ B ≤ w1.heap.size :=
  ⟨fun b o h => hb.cell (p := ⟨b, o, none⟩) (show b < W.heap.size by omega), fun b o h => hb.frozen (p := ⟨b, o, none⟩) (show b < W.heap.size by omega), Nat.le_trans hB hb.size⟩
end

/-- The slice value '.slice A l.length c' reads as the list l, k cells an element. -/
def RowAt {α : Type} (k : Nat) (enc : α → List Value) (w : World) (A : Option Addr) (l : List α) : Prop :=
  l ≠ [] → ∃ b off, A = some ⟨b, off, none⟩ ∧ b < w.heap.size ∧ ∀ i m, l[i]? = some m → ∀ j u, (enc m)[j]? = some u → w.cell? ⟨b, off + (i * k + j), none⟩ = some u

section
variable {α : Type} {k : Nat} {enc : α → List Value} {w w' : World} {A : Option Addr} {l : List α}
theorem RowAt.nil_ : RowAt k enc w none ([] : List α) := fun h => absurd rfl h
theorem RowAt.at_ (h : RowAt k enc w A l) {i : Nat} {m : α} (hi : l[i]? = some m) :
    ∃ b off, A = some ⟨b, off, none⟩ ∧ b < w.heap.size ∧ ∀ i m, l[i]? = some m → ∀ j u, (enc m)[j]? = some u → w.cell? ⟨b, off + (i * k + j), none⟩ = some u :=
  h (by rintro rfl; simp at hi)
theorem RowAt.below (h : RowAt k enc w A l) (hb : Below w.heap.size w w') : RowAt k enc w' A l := fun hl => by
  obtain ⟨b, off, e, hlt, hc⟩ := h hl
  exact ⟨b, off, e, Nat.lt_of_lt_of_le hlt hb.size, fun i m hi j u hu => (hb.cell (p := ⟨b, off + (i * k + j), none⟩) hlt).trans (hc i m hi j u hu)⟩
end

/-- The worlds that a call which only makes memory may leave. -/
def Ext (W : World) : Type := { w' : World // Below W.heap.size W w' }
instance extSome (W : World) : Nonempty (Ext W) := ⟨⟨W, bref W⟩⟩
def Ext.w {W : World} (x : Ext W) : World := x.1
theorem Ext.is {W : World} (x : Ext W) : Below W.heap.size W x.w := x.2
theorem ext_cell {W : World} (x : Ext W) (b o : Nat) (h : b < W.heap.size) : x.w.cell? ⟨b, o, none⟩ = W.cell? ⟨b, o, none⟩ := x.is.cell (p := ⟨b, o, none⟩) h
theorem ext_frozen {W : World} (x : Ext W) (b o : Nat) (h : b < W.heap.size) : x.w.frozen? ⟨b, o, none⟩ = W.frozen? ⟨b, o, none⟩ := x.is.frozen (p := ⟨b, o, none⟩) h

/-- A region that draws its order, whose operations read old memory and whose callees only make memory: one walk in the order of the text. -/
theorem wp_region_calm {P : Program} {id : Nat} {Q : Exit → Act → World → Prop} {a : Act} {w : World} {l : List Oper} (hm : P.follows .mixedOrders = true) (hB : Region.lexB .any l.toArray = true)
    (h : wpQuiet P l.toArray (fun w' => ∃ x : Ext w, w' = x.w) (fun a' => ∀ x : Ext w, Q .normal a' x.w) l a) : (Code.region id l.toArray true).wp P Q a w :=
  wp_region_quiet (C := fun w' => ∃ x : Ext w, w' = x.w) hm hB ⟨⟨_, (bref w).drew⟩, rfl⟩ (by
    have e : (fun a' => ∀ w', (∃ x : Ext w, w' = x.w) → Q .normal a' w') = (fun a' => ∀ x : Ext w, Q .normal a' x.w) := by
      funext a'
      exact propext ⟨fun h x => h _ ⟨x, rfl⟩, fun h w' ⟨x, hx⟩ => hx ▸ h x⟩
    simp only [e]
    simpa using h)
section
variable {P : Program} {f : FuncId} {args : Array Value} {W : World} {x : Ext W} {v : Value}
theorem calm_of (h : Calls P f args x.w fun e w' => e = .returned v ∧ Below x.w.heap.size x.w w') : Calls P f args x.w fun e w'' => e = .returned v ∧ ∃ y : Ext W, w'' = y.w :=
  h.mono fun _ _ ⟨he, hb⟩ => ⟨he, ⟨_, bstep x.is hb⟩, rfl⟩
theorem calm_same (h : Calls P f args x.w fun e w' => e = .returned v ∧ x.w = w') : Calls P f args x.w fun e w'' => e = .returned v ∧ ∃ y : Ext W, w'' = y.w :=
  h.mono fun _ _ ⟨he, hb⟩ => ⟨he, x, hb.symm⟩
end
theorem run_make_rowN {P : Program} (t e : TypeId) (i : TypeInfo) (z : Value) (ht : P.underlying t = some (.slice e)) (hi : P.info? e = some i) (hz : i.zero = some z)
    (kl kc : IntKind) (n c : Nat) (hnc : n ≤ c) (hbytes : i.bytes * c ≤ 281474976710656) (h63 : c ≤ 9223372036854775807) (w : World) :
    (Instr.makeSlice t (.int kl (n : Int)) (.int kc (c : Int))).run P w = .ok (.slice (some ⟨w.heap.size, 0, none⟩) n c) (w.alloc (.cells (madeCells z.cells (c * i.size)) e)) := by
  have hb : (i.bytes : Int) * (c : Int) ≤ 281474976710656 := by
    have h : ((i.bytes * c : Nat) : Int) ≤ 281474976710656 := by omega
    rwa [Int.natCast_mul] at h
  have hr := run_make (P := P) w t e i z ht hi hz kl kc n c (by omega) (by omega) hb (by omega)
  simp only [Int.toNat_natCast] at hr
  exact hr

theorem only_drewN {a w : World} {row : Option Nat} (h : a.grownBy w row) (n : Nat) : a.grownBy (w.drewN n) row := ⟨h.os, h.tape, h.output, h.size, h.block⟩
theorem only_drew {a w : World} {row : Option Nat} (h : a.grownBy w row) : a.grownBy w.drew row := ⟨h.os, h.tape, h.output, h.size, h.block⟩
theorem only_alloc {a w : World} {row : Option Nat} (h : a.grownBy w row) (o : Obj) : a.grownBy (w.alloc o) row :=
  ⟨h.os, h.tape, h.output, Nat.le_trans h.size (by simp), fun i hi hne => (Below.heap_alloc w o i (Nat.lt_of_lt_of_le hi h.size)).trans (h.block i hi hne)⟩
theorem only_setCell {a w : World} {g : Nat} (h : a.grownBy w (some g)) {p : Addr} (hp : p.block = g ∨ a.heap.size ≤ p.block) (u : Value) : a.grownBy (w.setCell p u) (some g) :=
  ⟨h.os, h.tape, h.output, by simpa [World.setCell] using h.size, fun i hi hne => (Below.heap_setCell w p u i (by
    rintro rfl
    rcases hp with hp | hp
    · exact hne (by rw [hp])
    · omega)).trans (h.block i hi hne)⟩
theorem only_of_below {a w : World} (h : Below a.heap.size a w) (row : Option Nat) : a.grownBy w row := ⟨h.os, h.tape, h.output, h.size, fun i hi _ => h.block i hi⟩

/-- Results: a slice in memory of the call's own. -/
def MkS (E K n : Nat) (xs : List Value) (w : World) (e : Ending) (w' : World) : Prop :=
  ∃ A c, e = .returned (.slice A n c) ∧ w'.ownsRow w.heap.size E K (.slice A n c) n xs ∧ Below w.heap.size w w'
def MkS2 (E K n : Nat) (xs : List Value) (ok : Bool) (w : World) (e : Ending) (w' : World) : Prop :=
  ∃ A c, e = .returned (.tuple #[.slice A n c, .bool ok]) ∧ w'.ownsRow w.heap.size E K (.slice A n c) n xs ∧ Below w.heap.size w w'

section
variable {w w' : World} {base E K n c g : Nat} {xs : List Value} {v : Value}
theorem own_made {w : World} {cur : Array Value} {E K n : Nat} (hs : cur.size = n * K) (hm : n ≤ maxLen) :
    (w.alloc (.cells cur E)).ownsRow w.heap.size E K (.slice (some ⟨w.heap.size, 0, none⟩) n n) n cur.toList :=
  ⟨by simpa using hs, .inr ⟨w.heap.size, n, cur, rfl, Nat.le_refl _, heap_alloc_new w _, Nat.le_refl _, hm, hs, by rw [← hs, ← Array.length_toList, List.take_length]⟩⟩
theorem own_below (h : w.ownsRow base E K v n xs) (hb : Below w.heap.size w w') : w'.ownsRow base E K v n xs := by
  refine ⟨h.1, ?_⟩
  rcases h.2 with h | ⟨g, cap, cur, hv, hg, hh, r⟩
  · exact .inl h
  · exact .inr ⟨g, cap, cur, hv, hg, (hb.block g (Array.getElem?_eq_some_iff.1 hh).1).trans hh, r⟩
theorem own_form {A : Option Addr} (h : w.ownsRow base E K (.slice A n c) n xs) : (A = none ∧ n = 0 ∧ c = 0) ∨ ∃ g, A = some ⟨g, 0, none⟩ := by
  rcases h.2 with ⟨hv, hn⟩ | ⟨g, cap, cur, hv, _⟩
  · simp only [Value.slice.injEq] at hv
    exact .inl ⟨hv.1, hn, hv.2.2⟩
  · simp only [Value.slice.injEq] at hv
    exact .inr ⟨g, hv.1⟩
theorem own_base {base' : Nat} (h : w.ownsRow base E K v n xs) (hb : base' ≤ base) : w.ownsRow base' E K v n xs := by
  refine ⟨h.1, ?_⟩
  rcases h.2 with h | ⟨g, cap, cur, hv, hg, hh, r⟩
  · exact .inl h
  · exact .inr ⟨g, cap, cur, hv, by omega, hh, r⟩
/-- A row that lies above a bound shares no block with one that lies below it. -/
theorem own_apart {row : Option Nat} (h : w.ownsRow base E K v n xs) (hr : ∀ k, row = some k → k < base) : v.ownBlock = none ∨ v.ownBlock ≠ row := by
  cases hv : v.ownBlock with
  | none => exact .inl rfl
  | some k =>
    refine .inr (fun e => ?_)
    have h1 := (h.lt k hv).1
    have h2 := hr k e.symm
    omega
theorem own_cell (h : w.ownsRow base E K (.slice (some ⟨g, 0, none⟩) n c) n xs) {j : Nat} (hj : j < n * K) : ∃ u, w.cell? ⟨g, j, none⟩ = some u := by
  have e := h.cellAt j hj
  have hl := h.1
  exact ⟨xs[j]'(by omega), by rw [e]; exact List.getElem?_eq_getElem _⟩
end

theorem flat_len {α : Type} {enc : α → List Value} {K : Nat} (hK : ∀ m, (enc m).length = K) (l : List α) : (l.flatMap enc).length = l.length * K := by
  induction l with
  | nil => simp
  | cons m l ih => rw [List.flatMap_cons, List.length_append, ih, hK, List.length_cons, Nat.add_mul]; omega
theorem flat_get {α : Type} {enc : α → List Value} {K : Nat} (hK : ∀ m, (enc m).length = K) : ∀ (l : List α) (i : Nat) (m : α), l[i]? = some m → ∀ j u, (enc m)[j]? = some u → (l.flatMap enc)[i * K + j]? = some u
  | [], i, m, h, _, _, _ => by simp at h
  | x :: l, 0, m, h, j, u, hj => by
    simp at h
    subst h
    have hl : j < (enc x).length := (List.getElem?_eq_some_iff.1 hj).1
    rw [List.flatMap_cons, Nat.zero_mul, Nat.zero_add, List.getElem?_append_left hl]
    exact hj
  | x :: l, i + 1, m, h, j, u, hj => by
    have ih := flat_get hK l i m (by simpa using h) j u hj
    rw [List.flatMap_cons, List.getElem?_append_right (by rw [hK, Nat.add_mul]; omega), hK, ← ih]
    congr 1
    rw [Nat.add_mul]; omega
theorem RowAt.of_own {α : Type} {enc : α → List Value} {w : World} {base E K n c : Nat} {A : Option Addr} {l : List α} (h : w.ownsRow base E K (.slice A n c) n (l.flatMap enc)) (hK : ∀ m, (enc m).length = K) (h0 : 0 < K) : RowAt K enc w A l := fun hl => by
  rcases own_form h with ⟨rfl, rfl, rfl⟩ | ⟨g, rfl⟩
  · have h1 := h.1
    rw [Nat.zero_mul] at h1
    match l, hl with
    | x :: l, _ =>
      rw [flat_len hK, List.length_cons, Nat.add_mul] at h1; omega
  · refine ⟨g, 0, rfl, (h.lt _ rfl).2, fun i m hi j u hj => ?_⟩
    have hg := flat_get hK l i m hi j u hj
    have := h.cells (g := g) rfl _ u hg
    simpa [Addr.add_lit] using this
/-- A row that is filled element by element: the first k are those of l, the others as they were. -/
def fillS {α : Type} (enc : α → List Value) (K : Nat) (l : List α) (zs : List Value) (k : Nat) : List Value := (l.take k).flatMap enc ++ zs.drop (k * K)
def setFrom (xs : List Value) (o : Nat) : List Value → List Value
  | [] => xs
  | v :: vs => setFrom (xs.set o v) (o + 1) vs
theorem setFrom_mid (vs : List Value) : ∀ (a old b : List Value), old.length = vs.length → setFrom (a ++ old ++ b) a.length vs = a ++ vs ++ b := by
  induction vs with
  | nil =>
    intro a old b h
    obtain rfl : old = [] := List.eq_nil_of_length_eq_zero (by simpa using h)
    rfl
  | cons v vs ih =>
    intro a old b h
    match old, h with
    | o :: old, h =>
      have h1 := ih (a ++ [v]) old b (by simpa using h)
      simp only [setFrom]
      simp only [List.length_append, List.length_cons, List.length_nil, Nat.zero_add, List.append_assoc, List.cons_append, List.nil_append] at h1
      have e : (a ++ o :: old ++ b).set a.length v = a ++ v :: (old ++ b) := by simp [List.set_append]
      rw [e, h1]
      simp
theorem setFrom_fill {α : Type} {enc : α → List Value} {K k : Nat} {l : List α} {zs : List Value} {m : α} (hm : l[k]? = some m) (hz : zs.length = l.length * K) (hk : k < l.length) (hK : ∀ m, (enc m).length = K) :
    setFrom (fillS enc K l zs k) (k * K) (enc m) = fillS enc K l zs (k + 1) := by
  have hl : ((l.take k).flatMap enc).length = k * K := by rw [flat_len hK, List.length_take, Nat.min_eq_left (by omega)]
  have hd : zs.drop (k * K) = (zs.drop (k * K)).take K ++ zs.drop ((k + 1) * K) := by
    rw [show (k + 1) * K = k * K + K from by rw [Nat.add_mul, Nat.one_mul], ← List.drop_drop, List.take_append_drop]
  have hle : k * K + K ≤ l.length * K := by
    have := Nat.mul_le_mul_right K (show k + 1 ≤ l.length from hk)
    rwa [Nat.add_mul, Nat.one_mul] at this
  have h := setFrom_mid (enc m) ((l.take k).flatMap enc) ((zs.drop (k * K)).take K) (zs.drop ((k + 1) * K)) (by rw [List.length_take, List.length_drop, hz, hK]; omega)
  rw [hl] at h
  unfold fillS
  rw [hd, ← List.append_assoc, h]
  congr 1
  rw [List.take_add_one, hm]
  simp
theorem own_setFrom {base E K n c g : Nat} (vs : List Value) : ∀ {w : World} {xs : List Value} {o : Nat}, w.ownsRow base E K (.slice (some ⟨g, 0, none⟩) n c) n xs → (w.setCells g o vs).ownsRow base E K (.slice (some ⟨g, 0, none⟩) n c) n (setFrom xs o vs) := by
  induction vs with
  | nil => intro w xs o h; exact h
  | cons v vs ih => intro w xs o h; exact ih (h.stored o v).1
theorem fillS_step {α : Type} {enc : α → List Value} {base E K n c g k : Nat} {l : List α} {zs : List Value} {m : α} {w : World} (hm : l[k]? = some m) (hz : zs.length = l.length * K) (hk : k < l.length) (hK : ∀ m, (enc m).length = K)
    (h : w.ownsRow base E K (.slice (some ⟨g, 0, none⟩) n c) n (fillS enc K l zs k)) : (w.setCells g (k * K) (enc m)).ownsRow base E K (.slice (some ⟨g, 0, none⟩) n c) n (fillS enc K l zs (k + 1)) := by
  rw [← setFrom_fill hm hz hk hK]
  exact own_setFrom _ h
theorem fillS_end {α : Type} {enc : α → List Value} {base E K n : Nat} {v : Value} {l : List α} {zs : List Value} {w : World} (hz : zs.length = l.length * K) (h : w.ownsRow base E K v n (fillS enc K l zs l.length)) : w.ownsRow base E K v n (l.flatMap enc) := by
  unfold fillS at h
  rw [List.take_length, List.drop_eq_nil_of_le (by omega), List.append_nil] at h
  exact h
section
variable {w : World}
theorem heap_new1 (w : World) (o : Obj) : (w.alloc o).heap[w.heap.size]? = some o := heap_alloc_new w o
theorem heap_new2 (w : World) (a o : Obj) : ((w.alloc a).alloc o).heap[w.heap.size + 1]? = some o := by
  have h := heap_alloc_new (w.alloc a) o
  simpa using h
theorem heap_new3 (w : World) (a b o : Obj) : (((w.alloc a).alloc b).alloc o).heap[w.heap.size + 1 + 1]? = some o := by
  have h := heap_alloc_new ((w.alloc a).alloc b) o
  simpa using h
end
/-- append(out, x) onto a slice of the call's own. -/
theorem wpList_app {P : Program} {ops : Array Oper} {rest : List Oper} {o : Oper} {a : Act} {Q : Exit → Act → World → Prop} {w : World} (hgd : o.guard = none) (s x : Operand) (t E K bytes : Nat) (z : Value)
    (ho : o.op = .call { callee := .builtin .append, args := #[s, x], argTypes := #[t, t] }) (ht : P.underlying t = some (.slice E)) (hinfo : (P.info? E).map (fun i => (i.zero, i.size, i.bytes)) = some (some z, K, bytes))
    (hzs : z.cells.size = K) (hsz : 0 < K) (base : Nat) (v : Value) (n : Nat) (xs : List Value) (hs : a.eval s = v) (hown : w.ownsRow base E K v n xs)
    (g : Nat) (cs : Array Value) (hx : a.eval x = .slice (some ⟨g, 0, none⟩) 1 1) (hcs : w.heap[g]? = some (.cells cs E (0, 0))) (hl : cs.toList.length = K) (h1 : ∀ u ∈ cs.toList, u.oneCell' = true)
    (hn : n + 1 ≤ 4194304) (hby : bytes ≤ 1000) (hbase : base ≤ w.heap.size)
    (h : ∀ g' c' w', w'.ownsRow base E K (.slice (some ⟨g', 0, none⟩) (n + 1) c') (n + 1) (xs ++ cs.toList) → w.grownBy w' v.ownBlock → (v.ownBlock = some g' ∨ g' = w.heap.size) → wpList P ops Q rest (a.put o.dst (.slice (some ⟨g', 0, none⟩) (n + 1) c')) w') :
    wpList P ops Q (o :: rest) a w := by
  obtain ⟨i, hi, hz, hz1, hz2⟩ := info_parts hinfo
  have hb : (n + 1) * bytes ≤ 140737488355328 := Nat.le_trans (Nat.mul_le_mul hn hby) (by decide)
  exact wpList_append_lies w hgd s x t ho base E i z K bytes ht hi hz hz1 hz2 hzs hsz v n xs hs hown ⟨g, 0, none⟩ 1 1 cs.toList hx (by omega) (World.news_of_block hcs) h1 (by omega) (by unfold maxLen; omega) hb hbase w.heap.size rfl
    fun g' c' w' h2 h3 h4 _ => h g' c' w' h2 h3 h4
/-- The old row, or a new one: in either case one of the call's own. -/
theorem row_mine {w : World} {base E K n c : Nat} {A : Option Addr} {xs : List Value} (h : w.ownsRow base E K (.slice A n c) n xs) : ∀ k, (Value.slice A n c).ownBlock = some k → base ≤ k := fun k hk => (h.lt k hk).1
theorem ret_bool {a b : Bool} (h : a = b) : Ending.returned (.bool a) = .returned (.bool b) := by rw [h]
theorem ret_int {k : IntKind} {a b : Int} (h : a = b) : Ending.returned (.int k a) = .returned (.int k b) := by rw [h]
theorem ret_iib {F : Int × Int × Bool} {a b : Int} {c : Bool} (h : F = (a, b, c)) : Ending.returned (.tuple #[.int .i64 a, .int .i64 b, .bool c]) = .returned (.tuple #[.int .i64 F.1, .int .i64 F.2.1, .bool F.2.2]) := by rw [h]
theorem ret_ib {F : Int × Bool} {a : Int} {c : Bool} (h : F = (a, c)) : Ending.returned (.tuple #[.int .i64 a, .bool c]) = .returned (.tuple #[.int .i64 F.1, .bool F.2]) := by rw [h]
theorem ret_bb {F : Bool × Bool} {a : Bool} {c : Bool} (h : F = (a, c)) : Ending.returned (.tuple #[.bool a, .bool c]) = .returned (.tuple #[.bool F.1, .bool F.2]) := by rw [h]
theorem ret_iii {F : Int × Int × Int} {a b c : Int} (h : F = (a, b, c)) : Ending.returned (.tuple #[.int .i64 a, .int .i64 b, .int .i64 c]) = .returned (.tuple #[.int .i64 F.1, .int .i64 F.2.1, .int .i64 F.2.2]) := by rw [h]
theorem ib0 (k : Nat) : (0 : Int) ≤ (k : Int) := Int.natCast_nonneg _
theorem ib1 {k n : Nat} (h : k < n) : (k : Int) < (n : Int) := by omega
theorem some_get {α : Type} {l : List α} {k : Nat} (h : k < l.length) : ∃ m, l[k]? = some m := ⟨_, List.getElem?_eq_getElem h⟩
end Go.Proofs.Ytifkakpiipoadaa
