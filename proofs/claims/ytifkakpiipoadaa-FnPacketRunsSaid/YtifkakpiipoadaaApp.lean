/-
  append(out, xs...): a whole row appended to a row of the call's own.
-/
import Derived.Test.YtifkakpiipoadaaInts0
namespace Go.Proofs.Ytifkakpiipoadaa
set_option linter.unusedVariables false
set_option linter.unusedSimpArgs false
set_option linter.unnecessarySimpa false
open Go.RowKit

section
variable {α : Type} {enc : α → List Value} {K : Nat} {w : World} {A : Option Addr} {l : List α}
theorem RowAt.news (h : RowAt K enc w A l) (hK : ∀ m, (enc m).length = K) : ∀ j u, (l.flatMap enc)[j]? = some u → ∃ ad, A = some ad ∧ w.cell? (ad.add j) = some u := fun j u hj => by
  have hlt : j < l.length * K := by
    have := (List.getElem?_eq_some_iff.1 hj).1
    rwa [flat_len hK] at this
  have h0 : 0 < K := by
    rcases Nat.eq_zero_or_pos K with h | h
    · subst h; simp at hlt
    · exact h
  have hi : j / K < l.length := Nat.div_lt_of_lt_mul (by rw [Nat.mul_comm]; exact hlt)
  obtain ⟨m, hm⟩ := some_get hi
  have hr : j % K < (enc m).length := by rw [hK]; exact Nat.mod_lt _ h0
  have hu : (enc m)[j % K]? = some ((enc m)[j % K]'hr) := List.getElem?_eq_getElem hr
  have hf := flat_get hK l _ m hm _ _ hu
  have e : j / K * K + j % K = j := by rw [Nat.mul_comm]; exact Nat.div_add_mod _ _
  rw [e, hj] at hf
  cases hf
  obtain ⟨b, off, rfl, _, hc⟩ := h.at_ hm
  have := hc _ m hm _ _ hu
  rw [e] at this
  exact ⟨_, rfl, by rw [Addr.add_lit]; exact this⟩
theorem RowAt.takeR (h : RowAt K enc w A l) (k : Nat) : RowAt K enc w A (l.take k) := fun hne => by
  obtain ⟨b, off, rfl, hb, hc⟩ := h (by rintro rfl; simp at hne)
  refine ⟨b, off, rfl, hb, fun i m hi j u hj => hc i m ?_ j u hj⟩
  rw [List.getElem?_take] at hi
  split at hi
  · exact hi
  · cases hi
theorem RowAt.drop {b off : Nat} (h : RowAt K enc w (some ⟨b, off, none⟩) l) (k : Nat) : RowAt K enc w (some ⟨b, off + k * K, none⟩) (l.drop k) := fun hne => by
  obtain ⟨b', off', e, hb, hc⟩ := h (by rintro rfl; simp at hne)
  simp only [Option.some.injEq, Addr.mk.injEq, and_true] at e
  obtain ⟨rfl, rfl⟩ := e
  refine ⟨b, off + k * K, rfl, hb, fun i m hi j u hj => ?_⟩
  rw [List.getElem?_drop] at hi
  have := hc (k + i) m hi j u hj
  rw [Nat.add_mul] at this
  rw [show off + k * K + (i * K + j) = off + (k * K + i * K + j) by omega]
  exact this
end

/-- append(out, xs...) onto a slice of the call's own: xs may be empty or nil. -/
theorem wp_appS {P : Program} {o : Oper} {a : Act} {K' : Act → World → Prop} {Q : Exit → Act → World → Prop} {w : World} (s x : Operand) (t E K bytes : Nat) (z : Value)
    (ho : o.op = .call { callee := .builtin .append, args := #[s, x], argTypes := #[t, t] }) (ht : P.underlying t = some (.slice E)) (hinfo : (P.info? E).map (fun i => (i.zero, i.size, i.bytes)) = some (some z, K, bytes))
    (hzs : z.cells.size = K) (hsz : 0 < K) (base : Nat) (v : Value) (n : Nat) (xs : List Value) (hs : a.eval s = v) (hown : w.ownsRow base E K v n xs)
    (A2 : Option Addr) (m c2 : Nat) (news : List Value) (hx : a.eval x = .slice A2 m c2) (hl : news.length = m * K) (hnews : ∀ j u, news[j]? = some u → ∃ ad, A2 = some ad ∧ w.cell? (ad.add j) = some u) (h1 : ∀ u ∈ news, u.oneCell' = true)
    (N : Nat) (hN : n + m = N) (ys : List Value) (hys : xs ++ news = ys) (hn : N ≤ 4194304) (hby : bytes ≤ 1000) (hbase : base ≤ w.heap.size)
    (h : ∀ A' c' w', w'.ownsRow base E K (.slice A' N c') N ys → w.grownBy w' v.ownBlock → (v.ownBlock = (Value.slice A' N c').ownBlock ∨ some w.heap.size = (Value.slice A' N c').ownBlock) → K' (a.put o.dst (.slice A' N c')) w') :
    o.wp P a w K' Q := by
  subst hN hys
  obtain ⟨i, hi, hz, hz1, hz2⟩ := info_parts hinfo
  have hb : (n + m) * bytes ≤ 140737488355328 := Nat.le_trans (Nat.mul_le_mul hn hby) (by decide)
  have key : ∃ A' c' w', (Builtin.append_ #[t, t] o.type #[v, .slice A2 m c2]).run P w = .ok (.slice A' (n + m) c') w' ∧ w'.ownsRow base E K (.slice A' (n + m) c') (n + m) (xs ++ news) ∧ w.grownBy w' v.ownBlock ∧ (v.ownBlock = (Value.slice A' (n + m) c').ownBlock ∨ some w.heap.size = (Value.slice A' (n + m) c').ownBlock) := by
    cases A2 with
    | some ad =>
      obtain ⟨v', w', hr, h2, h3, _, h5⟩ := run_append_own_at (P := P) w base t o.type E i z K bytes ht hi hz hz1 hz2 hzs hsz v n xs hown ad m c2 news hl (fun j u hj => by
        obtain ⟨ad', e, hc⟩ := hnews j u hj
        cases e
        exact hc) h1 (by unfold maxLen; omega) hb hbase
      have hv : ∃ A' c', v' = .slice A' (n + m) c' := by
        rcases h2.2 with ⟨e, e2⟩ | ⟨g, cap, cur, e, _⟩
        · exact ⟨none, 0, by rw [e, e2]⟩
        · exact ⟨_, _, e⟩
      obtain ⟨A', c', rfl⟩ := hv
      exact ⟨A', c', w', hr, h2, h3, h5.imp Eq.symm Eq.symm⟩
    | none =>
      have hm : m = 0 := by
        rcases Nat.eq_zero_or_pos m with h | h
        · exact h
        · have : 0 < news.length := by rw [hl]; exact Nat.mul_pos h hsz
          obtain ⟨_, e, _⟩ := hnews 0 _ (List.getElem?_eq_getElem this)
          cases e
      subst hm
      have hn0 : news = [] := List.eq_nil_of_length_eq_zero (by simpa using hl)
      subst hn0
      subst hz1
      rcases hown.2 with ⟨rfl, rfl⟩ | ⟨g, cap, cur, rfl, hbg, hg, hnc, r⟩
      · refine ⟨none, 0, w, ?_, by simpa using hown, World.grownBy.refl _ _, .inl rfl⟩
        simp [Builtin.append_, run_underlying ht, sizeOf, typeInfo, hi, Builtin.lenOf, Builtin.firstCells]
      · refine ⟨some ⟨g, 0, none⟩, cap, w, ?_, by simpa using hown, World.grownBy.refl _ _, .inl rfl⟩
        simp [Builtin.append_, run_underlying ht, sizeOf, typeInfo, hi, Builtin.lenOf, Builtin.firstCells, hnc, storeCells]
  obtain ⟨A', c', w', hr, h2, h3, h4⟩ := key
  unfold Oper.wp execOp
  simp only [ho, resolve, invoke, builtin, Sem.run_bind, Sem.run_pure, Result.andThen_ok, List.map_toArray, List.map_cons, List.map_nil, hs, hx, hr]
  exact h A' c' w' h2 h3 h4
theorem wpList_appS {P : Program} {ops : Array Oper} {rest : List Oper} {o : Oper} {a : Act} {Q : Exit → Act → World → Prop} {w : World} (hgd : o.guard = none) (s x : Operand) (t E K bytes : Nat) (z : Value)
    (ho : o.op = .call { callee := .builtin .append, args := #[s, x], argTypes := #[t, t] }) (ht : P.underlying t = some (.slice E)) (hinfo : (P.info? E).map (fun i => (i.zero, i.size, i.bytes)) = some (some z, K, bytes))
    (hzs : z.cells.size = K) (hsz : 0 < K) (base : Nat) (v : Value) (n : Nat) (xs : List Value) (hs : a.eval s = v) (hown : w.ownsRow base E K v n xs)
    (A2 : Option Addr) (m c2 : Nat) (news : List Value) (hx : a.eval x = .slice A2 m c2) (hl : news.length = m * K) (hnews : ∀ j u, news[j]? = some u → ∃ ad, A2 = some ad ∧ w.cell? (ad.add j) = some u) (h1 : ∀ u ∈ news, u.oneCell' = true)
    (N : Nat) (hN : n + m = N) (ys : List Value) (hys : xs ++ news = ys) (hn : N ≤ 4194304) (hby : bytes ≤ 1000) (hbase : base ≤ w.heap.size)
    (h : ∀ A' c' w', w'.ownsRow base E K (.slice A' N c') N ys → w.grownBy w' v.ownBlock → (v.ownBlock = (Value.slice A' N c').ownBlock ∨ some w.heap.size = (Value.slice A' N c').ownBlock) → wpList P ops Q rest (a.put o.dst (.slice A' N c')) w') :
    wpList P ops Q (o :: rest) a w :=
  wpList_plain hgd fun _ hK => wp_appS s x t E K bytes z ho ht hinfo hzs hsz base v n xs hs hown A2 m c2 news hx hl hnews h1 N hN ys hys hn hby hbase fun A' c' w' h2 h3 h4 => hK _ _ (h A' c' w' h2 h3 h4)
theorem step_appS {P : Program} {ops : Array Oper} {o : Oper} {a : Act} {K' : Act → World → Prop} {Q : Exit → Act → World → Prop} {E' : Prop} {w : World} (hgd : o.guard = none) (s x : Operand) (t E K bytes : Nat) (z : Value)
    (ho : o.op = .call { callee := .builtin .append, args := #[s, x], argTypes := #[t, t] }) (ht : P.underlying t = some (.slice E)) (hinfo : (P.info? E).map (fun i => (i.zero, i.size, i.bytes)) = some (some z, K, bytes))
    (hzs : z.cells.size = K) (hsz : 0 < K) (base : Nat) (v : Value) (n : Nat) (xs : List Value) (hs : a.eval s = v) (hown : w.ownsRow base E K v n xs)
    (A2 : Option Addr) (m c2 : Nat) (news : List Value) (hx : a.eval x = .slice A2 m c2) (hl : news.length = m * K) (hnews : ∀ j u, news[j]? = some u → ∃ ad, A2 = some ad ∧ w.cell? (ad.add j) = some u) (h1 : ∀ u ∈ news, u.oneCell' = true)
    (N : Nat) (hN : n + m = N) (ys : List Value) (hys : xs ++ news = ys) (hn : N ≤ 4194304) (hby : bytes ≤ 1000) (hbase : base ≤ w.heap.size)
    (h : ∀ A' c' w', w'.ownsRow base E K (.slice A' N c') N ys → w.grownBy w' v.ownBlock → (v.ownBlock = (Value.slice A' N c').ownBlock ∨ some w.heap.size = (Value.slice A' N c').ownBlock) → K' (a.put o.dst (.slice A' N c')) w') :
    if Region.wanted o (yielded ops a.tmps) = true then Oper.wp P o a w K' Q else E' := by
  have hw : Region.wanted o (yielded ops a.tmps) = true := by simp [Region.wanted, hgd]
  rw [if_pos hw]
  exact wp_appS s x t E K bytes z ho ht hinfo hzs hsz base v n xs hs hown A2 m c2 news hx hl hnews h1 N hN ys hys hn hby hbase h
theorem own_empty {W : World} {base E K g : Nat} (h : W.heap[g]? = some (.cells #[] E (0, 0))) (hb : base ≤ g) : W.ownsRow base E K (.slice (some ⟨g, 0, none⟩) 0 0) 0 [] :=
  ⟨by simp, .inr ⟨g, 0, #[], rfl, hb, h, Nat.le_refl _, Nat.zero_le _, by simp, by simp⟩⟩
theorem heap_old2 (w : World) (a o : Obj) : ((w.alloc a).alloc o).heap[w.heap.size]? = some a := (Below.heap_alloc _ _ _ (by simp)).trans (heap_new1 w a)
theorem news1 {W : World} {g E : Nat} {cs : Array Value} {fr : Nat × Nat} {xs : List Value} (h : W.heap[g]? = some (.cells cs E fr)) (hx : cs.toList = xs) : ∀ j u, xs[j]? = some u → ∃ ad, (some ⟨g, 0, none⟩ : Option Addr) = some ad ∧ W.cell? (ad.add j) = some u := fun j u hu =>
  ⟨_, rfl, World.news_of_block h j u (by rw [hx]; exact hu)⟩
theorem own_drew {W : World} {base E K n : Nat} {v : Value} {xs : List Value} (h : W.ownsRow base E K v n xs) : W.drew.ownsRow base E K v n xs := h
theorem RowAt.drop1 {α : Type} {enc : α → List Value} {w : World} {l : List α} {b off : Nat} (h : RowAt 1 enc w (some ⟨b, off, none⟩) l) (k : Nat) : RowAt 1 enc w (some ⟨b, off + k, none⟩) (l.drop k) := by simpa using h.drop k
end Go.Proofs.Ytifkakpiipoadaa
