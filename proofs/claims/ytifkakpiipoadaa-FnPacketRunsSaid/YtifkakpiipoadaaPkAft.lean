/-
  Packets with one more: impl and spec compute one list, each in memory of its own.
-/
import Derived.Test.YtifkakpiipoadaaPkRes
import Derived.Deep.RegionHeld3
namespace Go.Proofs.Ytifkakpiipoadaa
set_option linter.unusedVariables false
set_option linter.unusedSimpArgs false
set_option linter.unnecessarySimpa false
open Go.RowKit
attribute [local go_sem] ext_cell ext_frozen

theorem flat_oneP {xs : List Pk} {x : Pk} : (xs ++ [x]).flatMap encPk = xs.flatMap encPk ++ encPk x := by simp
theorem plS_one (L : List Pk) (m : Pk) : plS (L ++ [m]) = plS L ++ [(m.no, m.sm)] := by simp [plS, Pk.pl]
theorem tot_one (L : List Pk) (m : Pk) : tot (L ++ [m]) = tot L + m.sm.length + 1 := by
  unfold tot
  rw [totS_app]
  simp [totS]
  omega
def aftL (P : List PP) (q : PP) : List PP := if goodP (P ++ [q]) then P ++ [q] else []
/-- A call's answer: packets in memory of its own, and whether they are valid. -/
def AftR (L : List PP) (ok : Bool) (w : World) (e : Ending) (w' : World) : Prop :=
  ∃ (l : List Pk) (A : Option Addr) (c : Nat), e = .returned (.tuple #[.slice A L.length c, .bool ok]) ∧ plS l = L ∧ PkRes w.heap.size w' A c l ∧ Below w.heap.size w w'
theorem step_appW {P : Program} {ops : Array Oper} {o : Oper} {a : Act} {K' : Act → World → Prop} {Q : Exit → Act → World → Prop} {E' : Prop} {w : World} (hw : Region.wanted o (yielded ops a.tmps) = true) (s x : Operand) (t E K bytes : Nat) (z : Value)
    (ho : o.op = .call { callee := .builtin .append, args := #[s, x], argTypes := #[t, t] }) (ht : P.underlying t = some (.slice E)) (hinfo : (P.info? E).map (fun i => (i.zero, i.size, i.bytes)) = some (some z, K, bytes))
    (hzs : z.cells.size = K) (hsz : 0 < K) (base : Nat) (v : Value) (n : Nat) (xs : List Value) (hs : a.eval s = v) (hown : w.ownsRow base E K v n xs)
    (A2 : Option Addr) (m c2 : Nat) (news : List Value) (hx : a.eval x = .slice A2 m c2) (hl : news.length = m * K) (hnews : ∀ j u, news[j]? = some u → ∃ ad, A2 = some ad ∧ w.cell? (ad.add j) = some u) (h1 : ∀ u ∈ news, u.oneCell' = true)
    (N : Nat) (hN : n + m = N) (ys : List Value) (hys : xs ++ news = ys) (hn : N ≤ 4194304) (hby : bytes ≤ 1000) (hbase : base ≤ w.heap.size)
    (h : ∀ A' c' w', w'.ownsRow base E K (.slice A' N c') N ys → w.grownBy w' v.ownBlock → (v.ownBlock = (Value.slice A' N c').ownBlock ∨ some w.heap.size = (Value.slice A' N c').ownBlock) → K' (a.put o.dst (.slice A' N c')) w') :
    if Region.wanted o (yielded ops a.tmps) = true then Oper.wp P o a w K' Q else E' := by
  rw [if_pos hw]
  exact wp_appS s x t E K bytes z ho ht hinfo hzs hsz base v n xs hs hown A2 m c2 news hx hl hnews h1 N hN ys hys hn hby hbase h
theorem boxP (w : World) (no : Int) (v : Value) : (w.alloc (.cells #[.int .i64 no, v] 40)).cell? ⟨w.heap.size, 0, none⟩ = some (.int .i64 no) ∧ (w.alloc (.cells #[.int .i64 no, v] 40)).cell? ⟨w.heap.size, 1, none⟩ = some v := ⟨by simp [go_sem], by simp [go_sem]⟩
theorem PkRes.empty {base g : Nat} {W : World} (h : W.heap[g]? = some (.cells #[] 40 (0, 0))) (hb : base ≤ g) : PkRes base W (some ⟨g, 0, none⟩) 0 [] :=
  ⟨own_empty h hb, fun p hp => by simp at hp, List.Pairwise.nil⟩

set_option maxRecDepth 100000 in
set_option maxHeartbeats 4000000 in
theorem sAft_any (l : List Pk) (A : Option Addr) (c : Nat) (no : Int) (sm : List Int) (B : Option Addr) (cb : Nat) (w : World) (hr : PkAt w A l) (hs : RowAt 1 encI w B sm) (hlen : tot l + sm.length ≤ 1048576) :
    Calls Try.prog 27 #[.slice A l.length c, .agg #[.int .i64 no, .slice B sm.length cb]] w (AftR (aftL (plS l) (no, sm)) (goodP (plS l ++ [(no, sm)])) w) := by
  have hl : l.length ≤ 1048576 := by unfold tot at hlen; omega
  have HR := Lib.hid hr
  have HS := Lib.hid hs
  have HL := Lib.hid hlen
  clear hr hs hlen
  go_enter Try.func27, Try.ntmps27
  go_wp2_with fail
  obtain ⟨bx, hbx⟩ : ∃ bx, bx = w.alloc (.cells #[.int .i64 no, .slice B sm.length cb] 40) := ⟨_, rfl⟩
  have HBX := Lib.hid hbx
  clear hbx
  have hbw : Below w.heap.size w bx := by rw [HBX.out]; exact balloc (bref _) _
  have hszb : bx.heap.size = w.heap.size + 1 := by rw [HBX.out]; simp
  rw [← HBX.out]
  have hs1 := (HS.out.below hbw)
  obtain ⟨x0, x1⟩ := boxP w no (.slice B sm.length cb)
  rw [← HBX.out] at x0 x1
  have HS1 := Lib.hid hs1
  have HX0 := Lib.hid x0
  have HX1 := Lib.hid x1
  have hxb : w.heap.size < bx.heap.size := by omega
  clear hs1 x0 x1
  go_loopw [6, 7] (fun v i wr => ∃ (L : List Pk) (A' : Option Addr) (c' : Nat), L.length ≤ l.length ∧ i = .int .i64 L.length ∧ v = .slice A' L.length c' ∧ Hid (plS L = (plS l).take L.length) ∧ Hid (PkRes bx.heap.size wr A' c' L) ∧ Below bx.heap.size bx wr) (fun _ i _ => l.length - (intOf i).toNat)
  case atStart =>
    have h0 := PkRes.empty (base := bx.heap.size) (heap_new1 bx (.cells #[] 40)) (Nat.le_refl _)
    rw [show (some (⟨bx.heap.size, 0, none⟩ : Addr)) = some ⟨w.heap.size + 1, 0, none⟩ by rw [hszb]] at h0
    exact ⟨[], _, 0, Nat.zero_le _, rfl, rfl, Lib.hid rfl, Lib.hid h0, balloc (bref _) _⟩
  case round =>
    obtain ⟨L, A', c', hk, rfl, rfl, HP, HPR, hbr⟩ := hrel
    by_cases hlt : L.length < l.length
    · obtain ⟨m, hm⟩ := some_get hlt
      have i0 := ib0 L.length
      have i1 := ib1 hlt
      obtain ⟨b, off, rfl, hb, q0, q1, hs⟩ := (HR.out.below hbw).pk hm
      have HM := Lib.hid hm
      have HMS := Lib.hid hs
      have HB := Lib.hid hb
      have HQ0 := Lib.hid q0
      have HQ1 := Lib.hid q1
      have hml : m.sm.length ≤ 1048576 := by have := totS_mem (List.mem_of_getElem? hm); have := HL.out; unfold tot at this; omega
      clear hm hs
      go_wp2_with fail
      go_region_held3 (fun w' => w'.cell? ⟨b, off + L.length * 2, none⟩ = some (.int .i64 m.no) ∧ w'.cell? ⟨b, off + L.length * 2 + 1, none⟩ = some (.slice m.A m.sm.length m.c))
        (exact ⟨(Below.cell (B := bx.heap.size) (w := bx) (p := ⟨b, off + L.length * 2, none⟩) (by repeat (first | exact hbX2 | exact hbX1 | exact hbr | (refine balloc ?_ _) | (refine bdrew ?_) | (refine bdrewN ?_ _))) HB.out).trans HQ0.out, (Below.cell (B := bx.heap.size) (w := bx) (p := ⟨b, off + L.length * 2 + 1, none⟩) (by repeat (first | exact hbX2 | exact hbX1 | exact hbr | (refine balloc ?_ _) | (refine bdrew ?_) | (refine bdrewN ?_ _))) HB.out).trans HQ1.out⟩)
        (first
          | (go_at_call 69; (with_reducible refine (l1Own_any m.sm m.A m.c _ ?_ (by omega)).mono ?_); exact RowAt.below HMS.out (by repeat (first | exact hbX2 | exact hbX1 | exact hbr | (refine balloc ?_ _) | (refine bdrew ?_) | (refine bdrewN ?_ _))); rintro e w5 ⟨g5, c5, rfl, ho5, hb5⟩; have hbX1 : Below bx.heap.size bx w5 := bstep (by repeat (first | exact hbX2 | exact hbX1 | exact hbr | (refine balloc ?_ _) | (refine bdrew ?_) | (refine bdrewN ?_ _))) hb5; have hbY1 : Below wr.heap.size wr w5 := bstep (by repeat (first | exact bref _ | (refine balloc ?_ _) | (refine bdrew ?_) | (refine bdrewN ?_ _))) hb5; have HO5 := Lib.hid ho5; have hg5 := row_mine ho5 g5 rfl; have hl5 := (ho5.lt g5 rfl).2; clear ho5 hb5)
          | (refine step_appS (by rfl) (.tmp 15) (.tmp 28) 25 40 2 32 _ (by rfl) Try.underlying25 infoPk rfl (by decide) bx.heap.size _ L.length _ (by rfl) (own_below HPR.out.out (by repeat (first | exact bref _ | exact hbY1 | (refine balloc ?_ _) | (refine bdrew ?_) | (refine bdrewN ?_ _)))) _ 1 _ (encPk ⟨m.no, m.sm, some ⟨g5, 0, none⟩, c5⟩) (by rfl) rfl (news1 (heap_new1 _ _) rfl) (encPk_one ⟨m.no, m.sm, some ⟨g5, 0, none⟩, c5⟩) (L.length + 1) rfl _ rfl (by omega) (by decide) (by have := hbX1.size; simp; omega) ?_; intro A6 c6 w6 ho6 hg6 hl6; have hbX2 : Below bx.heap.size bx w6 := bgrown (by repeat (first | exact hbX2 | exact hbX1 | exact hbr | (refine balloc ?_ _) | (refine bdrew ?_) | (refine bdrewN ?_ _))) hg6 (fun k hk => row_mine HPR.out.out k hk))
          | fail)
      all_goals
        have hpush := PkRes.push (no := m.no) (sm := m.sm) HPR.out hg5 (balloc hbY1 _) (by simp; omega) (Nat.le_refl _) (own_base (own_below HO5.out (balloc (bref _) _)) hbr.size) ho6 hg6 hl6
        go_wp2_with fail
        go_roundw
        case rel =>
          refine ⟨L ++ [⟨m.no, m.sm, some ⟨g5, 0, none⟩, c5⟩], A6, c6, by simp; try omega, by first | go_num | simp, by simp, Lib.hid ?_, Lib.hid hpush, hbX2⟩
          rw [plS_one, HP.out, List.length_append, List.length_singleton, List.take_add_one, plS_get HM.out]
          rfl
        case measure => simp [intOf]; omega
    · have hkl : L.length = l.length := by omega
      have HPL := Lib.hid (show plS L = plS l by rw [HP.out, hkl, ← plS_len l, List.take_length])
      have hsl : sm.length ≤ 1048576 := by have := HL.out; omega
      have hk2 : L.length ≤ 1048576 := by omega
      have HKL := Lib.hid hkl
      clear hkl
      have HG := Lib.hid (show goodP (plS l ++ [(no, sm)]) = goodP (plS (L ++ [⟨no, sm, B, cb⟩])) by rw [plS_one, HPL.out])
      go_wp2_with fail
      go_region_held3 (fun w' => w'.cell? ⟨w.heap.size, 0, none⟩ = some (.int .i64 no) ∧ w'.cell? ⟨w.heap.size, 1, none⟩ = some (.slice B sm.length cb))
        (exact ⟨(Below.cell (B := bx.heap.size) (w := bx) (p := ⟨w.heap.size, 0, none⟩) (by repeat (first | exact hbX2 | exact hbX1 | exact hbr | (refine balloc ?_ _) | (refine bdrew ?_) | (refine bdrewN ?_ _))) hxb).trans HX0.out, (Below.cell (B := bx.heap.size) (w := bx) (p := ⟨w.heap.size, 1, none⟩) (by repeat (first | exact hbX2 | exact hbX1 | exact hbr | (refine balloc ?_ _) | (refine bdrew ?_) | (refine bdrewN ?_ _))) hxb).trans HX1.out⟩)
        (first
          | (go_at_call 69; (with_reducible refine (l1Own_any sm B cb _ ?_ (by omega)).mono ?_); exact RowAt.below HS1.out (by repeat (first | exact hbX2 | exact hbX1 | exact hbr | (refine balloc ?_ _) | (refine bdrew ?_) | (refine bdrewN ?_ _))); rintro e w5 ⟨g5, c5, rfl, ho5, hb5⟩; have hbX1 : Below bx.heap.size bx w5 := bstep (by repeat (first | exact hbX2 | exact hbX1 | exact hbr | (refine balloc ?_ _) | (refine bdrew ?_) | (refine bdrewN ?_ _))) hb5; have hbY1 : Below wr.heap.size wr w5 := bstep (by repeat (first | exact bref _ | (refine balloc ?_ _) | (refine bdrew ?_) | (refine bdrewN ?_ _))) hb5; have HO5 := Lib.hid ho5; have hg5 := row_mine ho5 g5 rfl; have hl5 := (ho5.lt g5 rfl).2; clear ho5 hb5)
          | (refine step_appS (by rfl) (.tmp 30) (.tmp 37) 25 40 2 32 _ (by rfl) Try.underlying25 infoPk rfl (by decide) bx.heap.size _ L.length _ (by rfl) (own_below HPR.out.out (by repeat (first | exact bref _ | exact hbY1 | (refine balloc ?_ _) | (refine bdrew ?_) | (refine bdrewN ?_ _)))) _ 1 _ (encPk ⟨no, sm, some ⟨g5, 0, none⟩, c5⟩) (by rfl) rfl (news1 (heap_new1 _ _) rfl) (encPk_one ⟨no, sm, some ⟨g5, 0, none⟩, c5⟩) (L.length + 1) rfl _ rfl (by omega) (by decide) (by have := hbX1.size; simp; omega) ?_; intro A6 c6 w6 ho6 hg6 hl6; have hbX2 : Below bx.heap.size bx w6 := bgrown (by repeat (first | exact hbX2 | exact hbX1 | exact hbr | (refine balloc ?_ _) | (refine bdrew ?_) | (refine bdrewN ?_ _))) hg6 (fun k hk => row_mine HPR.out.out k hk))
          | fail)
      all_goals
        have hpush := PkRes.push (no := no) (sm := sm) HPR.out hg5 (balloc hbY1 _) (by simp; omega) (Nat.le_refl _) (own_base (own_below HO5.out (balloc (bref _) _)) hbr.size) ho6 hg6 hl6
        have hpl : plS (L ++ [⟨no, sm, some ⟨g5, 0, none⟩, c5⟩]) = plS l ++ [(no, sm)] := by rw [plS_one, HPL.out]
        have htt : tot (L ++ [⟨no, sm, some ⟨g5, 0, none⟩, c5⟩]) = tot (l ++ [⟨no, sm, B, cb⟩]) := tot_pl (hpl.trans (plS_one l ⟨no, sm, B, cb⟩).symm)
        rw [tot_one l] at htt
        have hgd := sgoodP_any _ A6 c6 w6 hpush.at_ (by rw [htt]; have := HL.out; simp only; omega)
        rw [hpl, List.length_append, List.length_singleton] at hgd
        have HGD := Lib.hid hgd
        have HPU := Lib.hid hpush
        have HPT := Lib.hid hpl
        clear hgd hpush hpl htt ho6 hg6 hl6
        have hbX3 := bstep hbw hbX2
        cases hgg : goodP (plS l ++ [(no, sm)])
        · have hE : aftL (plS l) (no, sm) = [] := by simp [aftL, hgg]
          rw [hgg] at HGD
          rw [hE]
          go_wp2_with (go_at_call 61; (with_reducible refine (HGD.out).mono ?_); rintro e w' ⟨rfl, rfl⟩)
          go_ret2
          exact ⟨[], _, 0, by rw [hE, hgg]; rfl, hE.symm, PkRes.empty (heap_new1 _ _) hbX3.size, balloc hbX3 _⟩
        · have hE : aftL (plS l) (no, sm) = plS l ++ [(no, sm)] := by simp [aftL, hgg]
          rw [hgg] at HGD
          rw [hE]
          go_wp2_with (go_at_call 61; (with_reducible refine (HGD.out).mono ?_); rintro e w' ⟨rfl, rfl⟩)
          go_ret2
          refine ⟨_, A6, c6, ?_, HPT.out.trans hE.symm, PkRes.base_ HPU.out hbw.size, hbX3⟩
          rw [hgg, hE, List.length_append, List.length_singleton, plS_len, HKL.out]
          rfl

theorem goodP_front {P : List PP} {q : PP} (h : goodP (P ++ [q]) = true) : goodP P = true := by
  unfold goodP at h ⊢
  simp only [Bool.and_eq_true, decide_eq_true_eq, List.all_append, List.length_append, List.length_singleton] at h ⊢
  exact ⟨h.1.1, by omega⟩

set_option maxRecDepth 100000 in
set_option maxHeartbeats 4000000 in
theorem iAft_any (l : List Pk) (A : Option Addr) (c : Nat) (no : Int) (sm : List Int) (B : Option Addr) (cb : Nat) (w : World) (hr : PkAt w A l) (hs : RowAt 1 encI w B sm) (hlen : tot l + sm.length ≤ 1048576) :
    Calls Try.prog 29 #[.slice A l.length c, .agg #[.int .i64 no, .slice B sm.length cb]] w (AftR (aftL (plS l) (no, sm)) (goodP (plS l ++ [(no, sm)])) w) := by
  have hl : l.length ≤ 1048576 := by unfold tot at hlen; omega
  have HR := Lib.hid hr
  have HS := Lib.hid hs
  have HL := Lib.hid hlen
  clear hr hs hlen
  cases hg1 : goodP (plS l)
  case false =>
    have hgg : goodP (plS l ++ [(no, sm)]) = false := by
      cases h : goodP (plS l ++ [(no, sm)])
      · rfl
      · rw [goodP_front h] at hg1; cases hg1
    have hE : aftL (plS l) (no, sm) = [] := by simp [aftL, hgg]
    have HG := Lib.hid hgg
    have HE := Lib.hid hE
    have HG1 := Lib.hid hg1
    clear hgg hE hg1
    have hbr : Below w.heap.size w (w.alloc (.cells #[.int .i64 no, .slice B sm.length cb] 40)) := balloc (bref _) _
    have HF := Lib.hid (fun W' (h : Below (w.alloc (.cells #[.int .i64 no, .slice B sm.length cb] 40)).heap.size (w.alloc (.cells #[.int .i64 no, .slice B sm.length cb] 40)) W') => show Calls Try.prog 18 #[.slice A l.length c] W' fun e w' => e = .returned (.bool false) ∧ Below W'.heap.size W' w' by
      have := iAreP_any l A c W' (HR.out.below (bstep hbr h)) (by have := HL.out; omega)
      rw [HG1.out] at this
      exact this)
    go_enter Try.func29, Try.ntmps29
    go_wp2_with fail
    (refine wp_region_calm (by kernel_rfl) (by kernel_rfl) ?_; (repeat (go_big_quiet_step (((go_at_call 18; with_reducible exact calm_of (HF.out _ (Ext.is _))))))); refine wpQuiet_nil ?_; intro xw; have hb2 := xw.is; generalize xw.w = w2 at hb2 ⊢; clear xw)
    go_wp2_with fail
    go_ret2
    exact ⟨[], none, 0, by rw [HE.out, HG.out]; rfl, HE.out.symm, PkRes.nil_ _ _, bstep hbr hb2⟩
  case true =>
    obtain ⟨bx, hbx⟩ : ∃ bx, bx = w.alloc (.cells #[.int .i64 no, .slice B sm.length cb] 40) := ⟨_, rfl⟩
    have HBX := Lib.hid hbx
    clear hbx
    have hbw : Below w.heap.size w bx := by rw [HBX.out]; exact balloc (bref _) _
    have hszb : bx.heap.size = w.heap.size + 1 := by rw [HBX.out]; simp
    have hs1 := HS.out.below hbw
    have HR1 := Lib.hid (HR.out.below hbw)
    obtain ⟨x0, x1⟩ := boxP w no (.slice B sm.length cb)
    rw [← HBX.out] at x0 x1
    have HS1 := Lib.hid hs1
    have HX0 := Lib.hid x0
    have HX1 := Lib.hid x1
    have hxb : w.heap.size < bx.heap.size := by omega
    have HG1 := Lib.hid hg1
    have HZB := Lib.hid (Nat.le_refl bx.heap.size)
    have hbr := bref bx
    have HMS := Lib.hid (show ∀ m ∈ l ++ [(⟨no, sm, B, cb⟩ : Pk)], RowAt 1 encI bx m.A m.sm from fun m hm => by
      rcases List.mem_append.1 hm with h | h
      · exact HR1.out.2 m h
      · obtain rfl := List.mem_singleton.1 h
        exact HS1.out)
    have HF1 := Lib.hid (fun (W' : World) (A6 : Option Addr) (c6 : Nat) (h : Below bx.heap.size bx W') (ho : W'.ownsRow bx.heap.size 40 2 (.slice A6 (l.length + 1) c6) (l.length + 1) ((l ++ [(⟨no, sm, B, cb⟩ : Pk)]).flatMap encPk)) => show Calls Try.prog 18 #[.slice A6 (l.length + 1) c6] W' fun e w' => e = .returned (.bool (goodP (plS l ++ [(no, sm)]))) ∧ Below W'.heap.size W' w' by
      have ho' : W'.ownsRow bx.heap.size 40 2 (.slice A6 (l ++ [(⟨no, sm, B, cb⟩ : Pk)]).length c6) (l ++ [(⟨no, sm, B, cb⟩ : Pk)]).length ((l ++ [(⟨no, sm, B, cb⟩ : Pk)]).flatMap encPk) := by simpa using ho
      have := iAreP_any (l ++ [⟨no, sm, B, cb⟩]) A6 c6 W' ⟨RowAt.of_own ho' encPk_len (by omega), fun p hp => (HMS.out p hp).below h⟩ (by rw [tot_one]; have := HL.out; simp only; omega)
      rw [plS_one, List.length_append, List.length_singleton] at this
      exact this)
    clear hs1 x0 x1 hg1
    cases hgg : goodP (plS l ++ [(no, sm)])
    case false =>
      have HF2 := Lib.hid (fun W' A6 c6 h ho => by have := HF1.out W' A6 c6 h ho; rw [hgg] at this; exact this)
      have hE : aftL (plS l) (no, sm) = [] := by simp [aftL, hgg]
      have HE := Lib.hid hE
      clear hE hgg HF1
      go_enter Try.func29, Try.ntmps29
      go_wp2_with fail
      rw [← HBX.out]
      go_region_held3 (fun w' => w'.cell? ⟨w.heap.size, 0, none⟩ = some (.int .i64 no) ∧ w'.cell? ⟨w.heap.size, 1, none⟩ = some (.slice B sm.length cb))
        (exact ⟨(Below.cell (B := bx.heap.size) (w := bx) (p := ⟨w.heap.size, 0, none⟩) (by repeat (first | exact hbX4 | exact hbX3 | exact hbX2 | exact hbX1 | exact hbr | exact bref _ | (refine balloc ?_ _) | (refine bdrew ?_) | (refine bdrewN ?_ _))) hxb).trans HX0.out, (Below.cell (B := bx.heap.size) (w := bx) (p := ⟨w.heap.size, 1, none⟩) (by repeat (first | exact hbX4 | exact hbX3 | exact hbX2 | exact hbX1 | exact hbr | exact bref _ | (refine balloc ?_ _) | (refine bdrew ?_) | (refine bdrewN ?_ _))) hxb).trans HX1.out⟩)
        (first
          | (go_at_call 18; first
            | ((with_reducible refine (iAreP_any l A c _ (HR1.out.below (by repeat (first | exact hbX4 | exact hbX3 | exact hbX2 | exact hbX1 | exact hbr | exact bref _ | (refine balloc ?_ _) | (refine bdrew ?_) | (refine bdrewN ?_ _)))) (by have := HL.out; omega)).mono ?_); rw [HG1.out]; rintro e w2 ⟨rfl, hb2⟩; have hbX1 : Below bx.heap.size bx w2 := bstep (by repeat (first | exact hbX4 | exact hbX3 | exact hbX2 | exact hbX1 | exact hbr | exact bref _ | (refine balloc ?_ _) | (refine bdrew ?_) | (refine bdrewN ?_ _))) hb2)
            | ((with_reducible refine (HF2.out _ A6 c6 (by repeat (first | exact hbX4 | exact hbX3 | exact hbX2 | exact hbX1 | exact hbr | exact bref _ | (refine balloc ?_ _) | (refine bdrew ?_) | (refine bdrewN ?_ _))) (own_below HO6.out (by repeat (first | exact bref _ | (refine balloc ?_ _) | (refine bdrew ?_) | (refine bdrewN ?_ _))))).mono ?_); rintro e w7 ⟨rfl, hb7⟩; have hbX4 : Below bx.heap.size bx w7 := bstep (by repeat (first | exact hbX4 | exact hbX3 | exact hbX2 | exact hbX1 | exact hbr | exact bref _ | (refine balloc ?_ _) | (refine bdrew ?_) | (refine bdrewN ?_ _))) hb7))
          | (go_at_call 71; (with_reducible refine (copyPk_any l A c _ ?_ (by omega)).mono ?_); exact RowAt.below HR1.out.1 (by repeat (first | exact hbX4 | exact hbX3 | exact hbX2 | exact hbX1 | exact hbr | exact bref _ | (refine balloc ?_ _) | (refine bdrew ?_) | (refine bdrewN ?_ _))); rintro e w5 ⟨g5, c5, rfl, ho5, hb5⟩; have hbX2 : Below bx.heap.size bx w5 := bstep (by repeat (first | exact hbX4 | exact hbX3 | exact hbX2 | exact hbX1 | exact hbr | exact bref _ | (refine balloc ?_ _) | (refine bdrew ?_) | (refine bdrewN ?_ _))) hb5; have HO5 := Lib.hid (own_base ho5 (show bx.heap.size ≤ _ from (Below.size (w := bx) (B := bx.heap.size) (by repeat (first | exact hbX4 | exact hbX3 | exact hbX2 | exact hbX1 | exact hbr | exact bref _ | (refine balloc ?_ _) | (refine bdrew ?_) | (refine bdrewN ?_ _)))))); clear ho5)
          | (refine step_appW (by rfl) (.tmp 14) (.tmp 16) 25 40 2 32 _ (by rfl) Try.underlying25 infoPk rfl (by decide) bx.heap.size _ l.length _ (by rfl) (own_below HO5.out (by repeat (first | exact bref _ | (refine balloc ?_ _) | (refine bdrew ?_) | (refine bdrewN ?_ _)))) _ 1 _ (encPk ⟨no, sm, B, cb⟩) (by rfl) rfl (news1 (by first | exact heap_new1 _ _ | exact (hb5.block _ (by simp)).trans (heap_new1 _ _)) rfl) (encPk_one ⟨no, sm, B, cb⟩) (l.length + 1) rfl _ (flat_oneP (xs := l) (x := ⟨no, sm, B, cb⟩)).symm (by omega) (by decide) (by have := hbX2.size; simp <;> omega) ?_; intro A6 c6 w6 ho6 hg6 hl6; have hbX3 : Below bx.heap.size bx w6 := bgrown (by repeat (first | exact hbX4 | exact hbX3 | exact hbX2 | exact hbX1 | exact hbr | exact bref _ | (refine balloc ?_ _) | (refine bdrew ?_) | (refine bdrewN ?_ _))) hg6 (fun k hk => Nat.le_trans HZB.out (row_mine HO5.out k hk)); have HO6 := Lib.hid ho6; clear ho6 hg6 hl6)
          | fail)
      all_goals
        go_wp2_with fail
        go_ret2
        exact ⟨[], none, 0, by rw [HE.out]; rfl, HE.out.symm, PkRes.nil_ _ _, bstep hbw (by repeat (first | exact hbX4 | exact hbX3 | exact hbX2 | exact hbX1 | exact hbr | exact bref _ | (refine balloc ?_ _) | (refine bdrew ?_) | (refine bdrewN ?_ _)))⟩
    case true =>
      have HF2 := Lib.hid (fun W' A6 c6 h ho => by have := HF1.out W' A6 c6 h ho; rw [hgg] at this; exact this)
      have hE : aftL (plS l) (no, sm) = plS l ++ [(no, sm)] := by simp [aftL, hgg]
      have HE := Lib.hid hE
      clear hE hgg HF1
      go_enter Try.func29, Try.ntmps29
      go_wp2_with fail
      rw [← HBX.out]
      go_region_held3 (fun w' => w'.cell? ⟨w.heap.size, 0, none⟩ = some (.int .i64 no) ∧ w'.cell? ⟨w.heap.size, 1, none⟩ = some (.slice B sm.length cb))
        (exact ⟨(Below.cell (B := bx.heap.size) (w := bx) (p := ⟨w.heap.size, 0, none⟩) (by repeat (first | exact hbX4 | exact hbX3 | exact hbX2 | exact hbX1 | exact hbr | exact bref _ | (refine balloc ?_ _) | (refine bdrew ?_) | (refine bdrewN ?_ _))) hxb).trans HX0.out, (Below.cell (B := bx.heap.size) (w := bx) (p := ⟨w.heap.size, 1, none⟩) (by repeat (first | exact hbX4 | exact hbX3 | exact hbX2 | exact hbX1 | exact hbr | exact bref _ | (refine balloc ?_ _) | (refine bdrew ?_) | (refine bdrewN ?_ _))) hxb).trans HX1.out⟩)
        (first
          | (go_at_call 18; first
            | ((with_reducible refine (iAreP_any l A c _ (HR1.out.below (by repeat (first | exact hbX4 | exact hbX3 | exact hbX2 | exact hbX1 | exact hbr | exact bref _ | (refine balloc ?_ _) | (refine bdrew ?_) | (refine bdrewN ?_ _)))) (by have := HL.out; omega)).mono ?_); rw [HG1.out]; rintro e w2 ⟨rfl, hb2⟩; have hbX1 : Below bx.heap.size bx w2 := bstep (by repeat (first | exact hbX4 | exact hbX3 | exact hbX2 | exact hbX1 | exact hbr | exact bref _ | (refine balloc ?_ _) | (refine bdrew ?_) | (refine bdrewN ?_ _))) hb2)
            | ((with_reducible refine (HF2.out _ A6 c6 (by repeat (first | exact hbX4 | exact hbX3 | exact hbX2 | exact hbX1 | exact hbr | exact bref _ | (refine balloc ?_ _) | (refine bdrew ?_) | (refine bdrewN ?_ _))) (own_below HO6.out (by repeat (first | exact bref _ | (refine balloc ?_ _) | (refine bdrew ?_) | (refine bdrewN ?_ _))))).mono ?_); rintro e w7 ⟨rfl, hb7⟩; have hbX4 : Below bx.heap.size bx w7 := bstep (by repeat (first | exact hbX4 | exact hbX3 | exact hbX2 | exact hbX1 | exact hbr | exact bref _ | (refine balloc ?_ _) | (refine bdrew ?_) | (refine bdrewN ?_ _))) hb7))
          | (go_at_call 71; (with_reducible refine (copyPk_any l A c _ ?_ (by omega)).mono ?_); exact RowAt.below HR1.out.1 (by repeat (first | exact hbX4 | exact hbX3 | exact hbX2 | exact hbX1 | exact hbr | exact bref _ | (refine balloc ?_ _) | (refine bdrew ?_) | (refine bdrewN ?_ _))); rintro e w5 ⟨g5, c5, rfl, ho5, hb5⟩; have hbX2 : Below bx.heap.size bx w5 := bstep (by repeat (first | exact hbX4 | exact hbX3 | exact hbX2 | exact hbX1 | exact hbr | exact bref _ | (refine balloc ?_ _) | (refine bdrew ?_) | (refine bdrewN ?_ _))) hb5; have HO5 := Lib.hid (own_base ho5 (show bx.heap.size ≤ _ from (Below.size (w := bx) (B := bx.heap.size) (by repeat (first | exact hbX4 | exact hbX3 | exact hbX2 | exact hbX1 | exact hbr | exact bref _ | (refine balloc ?_ _) | (refine bdrew ?_) | (refine bdrewN ?_ _)))))); clear ho5)
          | (refine step_appW (by rfl) (.tmp 14) (.tmp 16) 25 40 2 32 _ (by rfl) Try.underlying25 infoPk rfl (by decide) bx.heap.size _ l.length _ (by rfl) (own_below HO5.out (by repeat (first | exact bref _ | (refine balloc ?_ _) | (refine bdrew ?_) | (refine bdrewN ?_ _)))) _ 1 _ (encPk ⟨no, sm, B, cb⟩) (by rfl) rfl (news1 (by first | exact heap_new1 _ _ | exact (hb5.block _ (by simp)).trans (heap_new1 _ _)) rfl) (encPk_one ⟨no, sm, B, cb⟩) (l.length + 1) rfl _ (flat_oneP (xs := l) (x := ⟨no, sm, B, cb⟩)).symm (by omega) (by decide) (by have := hbX2.size; simp <;> omega) ?_; intro A6 c6 w6 ho6 hg6 hl6; have hbX3 : Below bx.heap.size bx w6 := bgrown (by repeat (first | exact hbX4 | exact hbX3 | exact hbX2 | exact hbX1 | exact hbr | exact bref _ | (refine balloc ?_ _) | (refine bdrew ?_) | (refine bdrewN ?_ _))) hg6 (fun k hk => Nat.le_trans HZB.out (row_mine HO5.out k hk)); have HO6 := Lib.hid ho6; clear ho6 hg6 hl6)
          | fail)
      all_goals
        go_wp2_with fail
        have hbw7 := bstep hbw hbX4
        have hbz := balloc hbX4 (.cells #[] 40)
        have hPZ := PkRes.empty (base := bx.heap.size) (heap_new1 w7 (.cells #[] 40)) hbX4.size
        have hsz : w7.heap.size < (w7.alloc (.cells #[] 40)).heap.size := by simp
        generalize w7.alloc (.cells #[] 40) = wz at hbz hPZ hsz ⊢
        have HPZ := Lib.hid hPZ
        have HZ0 := Lib.hid ((hbz.cell (p := ⟨w.heap.size, 0, none⟩) hxb).trans HX0.out)
        have HZ1 := Lib.hid ((hbz.cell (p := ⟨w.heap.size, 1, none⟩) hxb).trans HX1.out)
        have hxz : w.heap.size < wz.heap.size := Nat.lt_of_lt_of_le hxb hbz.size
        have HRZ := Lib.hid (HR1.out.below hbz)
        clear hPZ hbX1 hbX2 hbX3 hb5 HO5 HO6
        go_region_held3 (fun w' => w'.cell? ⟨w.heap.size, 0, none⟩ = some (.int .i64 no) ∧ w'.cell? ⟨w.heap.size, 1, none⟩ = some (.slice B sm.length cb))
          (exact ⟨(Below.cell (B := wz.heap.size) (w := wz) (p := ⟨w.heap.size, 0, none⟩) (by repeat (first | exact hbX3 | exact hbX2 | exact bref _ | (refine balloc ?_ _) | (refine bdrew ?_) | (refine bdrewN ?_ _))) hxz).trans HZ0.out, (Below.cell (B := wz.heap.size) (w := wz) (p := ⟨w.heap.size, 1, none⟩) (by repeat (first | exact hbX3 | exact hbX2 | exact bref _ | (refine balloc ?_ _) | (refine bdrew ?_) | (refine bdrewN ?_ _))) hxz).trans HZ1.out⟩)
          (first
            | (go_at_call 71; (with_reducible refine (copyPk_any l A c _ ?_ (by omega)).mono ?_); exact RowAt.below HRZ.out.1 (by repeat (first | exact hbX3 | exact hbX2 | exact bref _ | (refine balloc ?_ _) | (refine bdrew ?_) | (refine bdrewN ?_ _))); rintro e w8 ⟨g8, c8, rfl, ho8, hb8⟩; have hbX2 : Below wz.heap.size wz w8 := bstep (by repeat (first | exact hbX3 | exact hbX2 | exact bref _ | (refine balloc ?_ _) | (refine bdrew ?_) | (refine bdrewN ?_ _))) hb8; have HO8 := Lib.hid (own_base ho8 (show wz.heap.size ≤ _ from (Below.size (w := wz) (B := wz.heap.size) (by repeat (first | exact bref _ | (refine balloc ?_ _) | (refine bdrew ?_) | (refine bdrewN ?_ _)))))); clear ho8)
            | (refine step_appW (by rfl) (.tmp 23) (.tmp 25) 25 40 2 32 _ (by rfl) Try.underlying25 infoPk rfl (by decide) wz.heap.size _ l.length _ (by rfl) (own_below HO8.out (by repeat (first | exact bref _ | (refine balloc ?_ _) | (refine bdrew ?_) | (refine bdrewN ?_ _)))) _ 1 _ (encPk ⟨no, sm, B, cb⟩) (by rfl) rfl (news1 (by first | exact heap_new1 _ _ | exact (hb8.block _ (by simp)).trans (heap_new1 _ _)) rfl) (encPk_one ⟨no, sm, B, cb⟩) (l.length + 1) rfl _ (flat_oneP (xs := l) (x := ⟨no, sm, B, cb⟩)).symm (by omega) (by decide) (by have := hbX2.size; simp <;> omega) ?_; intro A9 c9 w9 ho9 hg9 hl9; have hbX3 : Below wz.heap.size wz w9 := bgrown (by repeat (first | exact hbX3 | exact hbX2 | exact bref _ | (refine balloc ?_ _) | (refine bdrew ?_) | (refine bdrewN ?_ _))) hg9 (fun k hk => row_mine HO8.out k hk); have HO9 := Lib.hid ho9; clear ho9 hg9 hl9)
            | fail)
        all_goals
          obtain ⟨g9, rfl⟩ : ∃ g9, A9 = some ⟨g9, 0, none⟩ := by
            rcases own_form HO9.out with ⟨_, h0, _⟩ | h
            · omega
            · exact h
          have hg9 := row_mine HO9.out g9 rfl
          have hg9l := (HO9.out.lt g9 rfl).2
          go_wp2_with fail
          go_loopw [6, 28] (fun v i wr => ∃ (L : List Pk) (A' : Option Addr) (c' : Nat), L.length ≤ l.length + 1 ∧ i = .int .i64 L.length ∧ v = .slice A' L.length c' ∧ Hid (plS L = (plS l ++ [(no, sm)]).take L.length) ∧ Hid (PkRes bx.heap.size wr A' c' L) ∧ Hid (wr.ownsRow wz.heap.size 40 2 (.slice (some ⟨g9, 0, none⟩) (l.length + 1) c9) (l.length + 1) ((l ++ [(⟨no, sm, B, cb⟩ : Pk)]).flatMap encPk)) ∧ Hid (∀ k' : Nat, (Value.slice A' L.length c').ownBlock = some k' → k' ≠ g9) ∧ Below bx.heap.size bx wr) (fun _ i _ => l.length + 1 - (intOf i).toNat)
          case atStart => exact ⟨[], some ⟨w7.heap.size, 0, none⟩, 0, by simp, rfl, rfl, Lib.hid rfl, Lib.hid (HPZ.out.below hbX3), HO9, Lib.hid (fun k' e => by simp [Value.ownBlock] at e; omega), bstep hbz hbX3⟩
          case round =>
            obtain ⟨L, A', c', hk, rfl, rfl, HP, HPR, HSR, HNE, hbr2⟩ := hrel
            by_cases hlt : L.length < l.length + 1
            · obtain ⟨m, hm⟩ := some_get (l := l ++ [(⟨no, sm, B, cb⟩ : Pk)]) (k := L.length) (by simpa using hlt)
              have i0 := ib0 L.length
              have i1 : (L.length : Int) < (l.length : Int) + 1 := by omega
              have HM := Lib.hid hm
              have hrow := RowAt.of_own (l := l ++ [(⟨no, sm, B, cb⟩ : Pk)]) (c := c9) (by simpa using HSR.out) encPk_len (by omega)
              obtain ⟨b, off, e9, hb, q0, q1⟩ := RowAt.pkc hrow hm
              cases e9
              have HB := Lib.hid hb
              have hml : m.sm.length ≤ 1048576 := by
                have h1 := totS_mem (List.mem_of_getElem? hm)
                rw [totS_app] at h1
                have h2 : totS [(⟨no, sm, B, cb⟩ : Pk)] = sm.length := by simp [totS]
                have := HL.out
                unfold tot at this
                omega
              have HMR := Lib.hid (RowAt.below (HMS.out m (List.mem_of_getElem? hm)) hbr2)
              clear hm hrow
              simp only [Nat.zero_add] at q0 q1
              obtain ⟨y0, y1⟩ := boxP wr m.no (.slice m.A m.sm.length m.c)
              have hqw : Below wr.heap.size wr (wr.alloc (.cells #[.int .i64 m.no, .slice m.A m.sm.length m.c] 40)) := balloc (bref _) _
              have hqb : wr.heap.size < (wr.alloc (.cells #[.int .i64 m.no, .slice m.A m.sm.length m.c] 40)).heap.size := by simp
              go_wp2_with fail
              generalize wr.alloc (.cells #[.int .i64 m.no, .slice m.A m.sm.length m.c] 40) = wq at y0 y1 hqw hqb ⊢
              have HQ0 := Lib.hid y0
              have HQ1 := Lib.hid y1
              have HQB := Lib.hid hqb
              have HMQ := Lib.hid (HMR.out.below hqw)
              have HPQ := Lib.hid (HPR.out.below hqw)
              have HSQ := Lib.hid (own_below HSR.out hqw)
              have HBQ := Lib.hid (bstep hbr2 hqw)
              have hgq : g9 < wq.heap.size := Nat.lt_of_lt_of_le HB.out hqw.size
              have HNQ := Lib.hid (show some wr.heap.size ≠ (Value.slice A' L.length c').ownBlock from fun e => by have := (HPR.out.out.lt _ e.symm).2; omega)
              have hkb : L.length ≤ 1048577 := by omega
              clear y0 y1 q0 q1
              go_region_held3 (fun w' => w'.cell? ⟨wr.heap.size, 0, none⟩ = some (.int .i64 m.no) ∧ w'.cell? ⟨wr.heap.size, 1, none⟩ = some (.slice m.A m.sm.length m.c))
                (first | exact hKA | exact ⟨(Below.cell (B := wq.heap.size) (w := wq) (p := ⟨wr.heap.size, 0, none⟩) (by repeat (first | exact bref _ | exact hbX6 | (refine balloc ?_ _) | (refine bdrew ?_) | (refine bdrewN ?_ _))) HQB.out).trans HQ0.out, (Below.cell (B := wq.heap.size) (w := wq) (p := ⟨wr.heap.size, 1, none⟩) (by repeat (first | exact bref _ | exact hbX6 | (refine balloc ?_ _) | (refine bdrew ?_) | (refine bdrewN ?_ _))) HQB.out).trans HQ1.out⟩)
                (first
                  | (go_at_call 72; (with_reducible refine (copyI_any m.sm m.A m.c _ ?_ (by omega)).mono ?_); exact RowAt.below HMQ.out (by repeat (first | exact bref _ | exact hbX6 | (refine balloc ?_ _) | (refine bdrew ?_) | (refine bdrewN ?_ _))); rintro e w10 ⟨g10, c10, rfl, ho10, hb10⟩; have hbX6 : Below wq.heap.size wq w10 := bstep (by repeat (first | exact bref _ | exact hbX6 | (refine balloc ?_ _) | (refine bdrew ?_) | (refine bdrewN ?_ _))) hb10; have HO10 := Lib.hid ho10; have hg10 := row_mine ho10 g10 rfl; have hl10 := (ho10.lt g10 rfl).2; clear ho10 hb10)
                  | (refine step_appS (by rfl) (.tmp 32) (.tmp 39) 25 40 2 32 _ (by rfl) Try.underlying25 infoPk rfl (by decide) bx.heap.size _ L.length _ (by rfl) (own_below HPQ.out.out (by repeat (first | exact bref _ | exact hbX6 | (refine balloc ?_ _) | (refine bdrew ?_) | (refine bdrewN ?_ _)))) _ 1 _ (encPk ⟨m.no, m.sm, some ⟨g10, 0, none⟩, c10⟩) (by rfl) rfl (news1 (heap_new1 _ _) rfl) (encPk_one ⟨m.no, m.sm, some ⟨g10, 0, none⟩, c10⟩) (L.length + 1) rfl _ rfl (by omega) (by decide) (by have := hbX6.size; have := HBQ.out.size; simp <;> omega) ?_; intro A11 c11 w11 ho11 hg11 hl11; have hKA : w11.cell? ⟨wr.heap.size, 0, none⟩ = some (.int .i64 m.no) ∧ w11.cell? ⟨wr.heap.size, 1, none⟩ = some (.slice m.A m.sm.length m.c) := ⟨hg11.cell ((Below.cell (B := wq.heap.size) (w := wq) (p := ⟨wr.heap.size, 0, none⟩) (by repeat (first | exact bref _ | exact hbX6 | (refine balloc ?_ _) | (refine bdrew ?_) | (refine bdrewN ?_ _))) HQB.out).trans HQ0.out) HNQ.out, hg11.cell ((Below.cell (B := wq.heap.size) (w := wq) (p := ⟨wr.heap.size, 1, none⟩) (by repeat (first | exact bref _ | exact hbX6 | (refine balloc ?_ _) | (refine bdrew ?_) | (refine bdrewN ?_ _))) HQB.out).trans HQ1.out) HNQ.out⟩)
                  | fail)
              all_goals
                have hpush := PkRes.push (no := m.no) (sm := m.sm) HPQ.out hg10 (balloc hbX6 _) (by simp; omega) (Nat.le_refl _) (own_base (own_below HO10.out (balloc (bref _) _)) HBQ.out.size) ho11 hg11 hl11
                have hbX7 : Below bx.heap.size bx w11 := bgrown (balloc (bstep HBQ.out hbX6) _) hg11 (fun k hk => row_mine HPQ.out.out k hk)
                have hsrc := World.ownsRow.kept (own_below HSQ.out (balloc hbX6 _)) hg11 (.inr (fun e => HNE.out _ e.symm rfl))
                go_wp2_with fail
                go_roundw
                case rel =>
                  refine ⟨L ++ [⟨m.no, m.sm, some ⟨g10, 0, none⟩, c10⟩], A11, c11, by simp; try omega, by first | go_num | simp, by simp, Lib.hid ?_, Lib.hid hpush, Lib.hid hsrc, Lib.hid ?_, hbX7⟩
                  · rw [plS_one, HP.out, List.length_append, List.length_singleton, List.take_add_one, ← plS_one l ⟨no, sm, B, cb⟩, plS_get HM.out]
                    rfl
                  · intro k' e
                    rw [List.length_append, List.length_singleton] at e
                    rcases hl11 with r | r
                    · exact HNE.out k' (r.trans e)
                    · rw [e] at r
                      cases r
                      have := hbX6.size
                      simp
                      omega
                case measure => simp [intOf]; omega
            · have hkl : L.length = l.length + 1 := by omega
              have HPL := Lib.hid (show plS L = plS l ++ [(no, sm)] by rw [HP.out, hkl, List.take_of_length_le (by simp [plS_len])])
              have HKL := Lib.hid hkl
              clear hkl
              go_wp2_with fail
              go_ret2
              refine ⟨L, A', c', ?_, HPL.out.trans HE.out.symm, PkRes.base_ HPR.out hbw.size, bstep hbw hbr2⟩
              rw [HE.out, List.length_append, List.length_singleton, plS_len, ← HKL.out]
              rfl
end Go.Proofs.Ytifkakpiipoadaa
