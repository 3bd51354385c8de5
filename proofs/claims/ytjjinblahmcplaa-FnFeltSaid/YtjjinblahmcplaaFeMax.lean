/-
  The strongest place: slices.MaxFunc against spec's loop.
-/
import Derived.Test.YtjjinblahmcplaaFeGood
import Derived.Test.YtjjinblahmcplaaCmp
import Derived.Deep.RegionHeld3
namespace Go.Proofs.Ytjjinblahmcplaa
open Go.RowKit
attribute [local go_sem] ext_cell ext_frozen

def gtS (a b : Fe) : Bool := decide (b.lv < a.lv) || (decide (a.lv = b.lv) && decide (b.pp < a.pp))
def bestF (x : Fe) : List Fe → Fe
  | [] => x
  | y :: ys => bestF (if gtS y x then y else x) ys
def cmpS (a b : Fe) : Int := orL [cmpI a.lv b.lv, cmpI a.pp b.pp, cmpI b.id a.id]
theorem listed_succ {α : Type} {one : α → Bool} {id : α → Int} {most : Nat} {l : List α} (h : listed one id most l = true) {i : Nat} {m p : α} (hm : l[i + 1]? = some m) (hp : l[i]? = some p) : id p < id m := by
  unfold listed at h
  rw [Bool.and_eq_true, List.all_eq_true] at h
  have hk : i + 1 < l.length := (List.getElem?_eq_some_iff.1 hm).1
  have h2 := h.1 (i + 1) (by simpa using hk)
  rw [okAt_succ hm hp] at h2
  simp at h2
  exact h2.2
theorem listed_lt {α : Type} {one : α → Bool} {id : α → Int} {most : Nat} {l : List α} (h : listed one id most l = true) {i : Nat} {p : α} (hp : l[i]? = some p) : ∀ (d : Nat) (m : α), l[i + 1 + d]? = some m → id p < id m
  | 0, m, hm => listed_succ h hm hp
  | d + 1, m, hm => by
    have hk : i + 1 + (d + 1) < l.length := (List.getElem?_eq_some_iff.1 hm).1
    obtain ⟨q, hq⟩ := some_get (show i + 1 + d < l.length by omega)
    have h1 := listed_lt h hp d q hq
    have h2 := listed_succ h (i := i + 1 + d) hm hq
    omega
theorem goodFe_lt {l : List Fe} {i j : Nat} {p m : Fe} (h : goodFe l = true) (hp : l[i]? = some p) (hm : l[j]? = some m) (hij : i < j) : p.id < m.id := by
  unfold goodFe at h
  obtain ⟨d, rfl⟩ : ∃ d, j = i + 1 + d := ⟨j - i - 1, by omega⟩
  have h2 := listed_lt h hp d m hm
  exact h2
theorem cmpS_gt {a b : Fe} (h : b.id < a.id) : decide (0 < cmpS a b) = gtS a b := by
  unfold cmpS gtS
  rcases Int.lt_trichotomy a.lv b.lv with h1 | h1 | h1
  · have : ¬ (b.lv < a.lv) := by omega
    have h3 : ¬ a.lv = b.lv := by omega
    simp [orL, cmpI_lt h1, this, h3]
  · rw [cmpI_eq h1]
    rcases Int.lt_trichotomy a.pp b.pp with h2 | h2 | h2
    · simp [orL, cmpI_lt h2, h1]; omega
    · rw [cmpI_eq h2]; simp [orL, cmpI_lt h, h1, h2]
    · simp [orL, cmpI_gt h2, h1, h2]
  · simp [orL, cmpI_gt h1, h1]

set_option maxRecDepth 100000 in
set_option maxHeartbeats 1000000 in
theorem cmpFe_any (a d : Fe) (w : World) :
    Calls Try.prog 72 #[.agg #[.int .i64 a.id, .int .i64 a.x, .int .i64 a.y, .int .i64 a.lv, .int .i64 a.pp], .agg #[.int .i64 d.id, .int .i64 d.x, .int .i64 d.y, .int .i64 d.lv, .int .i64 d.pp]] w fun e w' => e = .returned (.int .i64 (cmpS a d)) ∧ Below w.heap.size w w' := by
  go_enter Try.func72, Try.ntmps72
  go_wp2_with fail
  go_region_held3 (fun w' => w'.cell? ⟨w.heap.size, 0, none⟩ = some (.int .i64 a.id) ∧ w'.cell? ⟨w.heap.size, 3, none⟩ = some (.int .i64 a.lv) ∧ w'.cell? ⟨w.heap.size, 4, none⟩ = some (.int .i64 a.pp) ∧ w'.cell? ⟨w.heap.size + 1, 0, none⟩ = some (.int .i64 d.id) ∧ w'.cell? ⟨w.heap.size + 1, 3, none⟩ = some (.int .i64 d.lv) ∧ w'.cell? ⟨w.heap.size + 1, 4, none⟩ = some (.int .i64 d.pp))
    (go_keep) (first | (go_at_call 74; (with_reducible refine (cmp_any _ _ _).mono ?_); rintro e w' ⟨rfl, rfl⟩) | (go_at_call 73; (with_reducible refine (or3_any (cmpI a.lv d.lv) (cmpI a.pp d.pp) (cmpI d.id a.id) _ _ _ ?_).mono ?_); exact RowAt.of_block encI_len (heap_new3 _ _ _ _) rfl; rintro e w' ⟨rfl, rfl⟩))
  go_wp2
  go_ret
  exact ⟨rfl, (by repeat (first | exact bref _ | (refine balloc ?_ _) | (refine bdrew ?_) | (refine bdrewN ?_ _) | (refine bstep ?_ (by assumption))))⟩

theorem own_put {α : Type} {enc : α → List Value} {K base E g c : Nat} {w : World} {zs : List Value} (hK : ∀ x, (enc x).length = K) (m : α) (h : w.ownsRow base E K (.slice (some ⟨g, 0, none⟩) 1 c) 1 zs) :
    (w.setCells g 0 (enc m)).ownsRow base E K (.slice (some ⟨g, 0, none⟩) 1 c) 1 (enc m) := by
  have hz : zs.length = ([m] : List α).length * K := by simpa using h.1
  have h1 := fillS_step (l := [m]) (k := 0) (zs := zs) rfl hz (by simp) hK (by simpa [fillS] using h)
  have h2 := fillS_end hz h1
  simpa using h2
theorem own_setOther {base E K n g c : Nat} {w : World} {xs : List Value} {p : Addr} (h : w.ownsRow base E K (.slice (some ⟨g, 0, none⟩) n c) n xs) (hp : g ≠ p.block) (u : Value) : (w.setCell p u).ownsRow base E K (.slice (some ⟨g, 0, none⟩) n c) n xs := by
  refine ⟨h.1, ?_⟩
  rcases h.2 with h | ⟨g', cap, cur, hv, hg, hh, r⟩
  · exact .inl h
  · simp only [Value.slice.injEq, Option.some.injEq, Addr.mk.injEq, and_true, true_and] at hv
    obtain ⟨rfl, rfl⟩ := hv
    exact .inr ⟨g, c, cur, rfl, hg, (Below.heap_setCell _ _ _ _ hp).trans hh, r⟩
theorem gtS_cmp {a b : Fe} (h : b.id < a.id) : (gtS a b = true ∧ 0 < cmpS a b) ∨ (gtS a b = false ∧ cmpS a b ≤ 0) := by
  have h1 := cmpS_gt h
  cases hg : gtS a b
  · right; rw [hg] at h1; simp at h1; exact ⟨rfl, h1⟩
  · left; rw [hg] at h1; simp at h1; exact ⟨rfl, h1⟩

theorem gtS_iff (a b : Fe) : (gtS a b = true ↔ (b.lv < a.lv ∨ (a.lv = b.lv ∧ b.pp < a.pp))) := by simp [gtS]
def aggF (m : Fe) : Value := .agg #[.int .i64 m.id, .int .i64 m.x, .int .i64 m.y, .int .i64 m.lv, .int .i64 m.pp]

set_option maxRecDepth 100000 in
set_option maxHeartbeats 4000000 in
theorem maxFe_any (l : List Fe) (A : Option Addr) (c : Nat) (w : World) (x : Fe) (hr : RowAt 5 encFe w A l) (hlen : l.length ≤ 2097152) (hg : goodFe l = true) (h0 : l[0]? = some x) :
    Calls Try.prog 71 #[.slice A l.length c, .func (.func 72) #[] #[]] w fun e w' => e = .returned (aggF (bestF x (l.drop 1))) ∧ Below w.heap.size w w' := by
  have hpos : 0 < l.length := (List.getElem?_eq_some_iff.1 h0).1
  have HR := Lib.hid hr
  have HG := Lib.hid hg
  have H0 := Lib.hid h0
  obtain ⟨b, off, rfl, hb, q0, q1, q2, q3, q4⟩ := hr.fe h0
  simp only [Nat.zero_mul, Nat.add_zero] at q0 q1 q2 q3 q4
  clear hr hg h0
  go_enter Try.func71, Try.ntmps71
  go_wp2_with fail
  go_loopw [6] (fun i wr => ∃ (k : Nat) (y : Fe), 1 ≤ k ∧ k ≤ l.length ∧ i = .int .i64 k ∧ Below w.heap.size w wr ∧ Hid (bestF y (l.drop k) = bestF x (l.drop 1)) ∧ Hid (∃ j, j < k ∧ l[j]? = some y) ∧ Hid (∃ zs, wr.ownsRow w.heap.size 25 5 (.slice (some ⟨w.heap.size, 0, none⟩) 1 1) 1 zs) ∧ wr.ownsRow w.heap.size 25 5 (.slice (some ⟨w.heap.size + 1, 0, none⟩) 1 1) 1 (encFe y)) (fun i _ => l.length - (intOf i).toNat)
  case atStart =>
    refine ⟨1, x, Nat.le_refl _, hpos, rfl, balloc (balloc (bref _) _) _, rfl, Lib.hid ⟨0, by omega, H0.out⟩, ?_, ?_⟩
    · exact Lib.hid ⟨_, own_below (own_made (n := 1) (K := 5) rfl (by decide)) (balloc (bref _) _)⟩
    · have h := own_made (w := w.alloc (.cells #[.int .i64 0, .int .i64 0, .int .i64 0, .int .i64 0, .int .i64 0] 25)) (n := 1) (K := 5) (E := 25) (cur := #[.int .i64 x.id, .int .i64 x.x, .int .i64 x.y, .int .i64 x.lv, .int .i64 x.pp]) rfl (by decide)
      simp only [World.size_alloc] at h
      exact own_base h (by omega)
  case round =>
    obtain ⟨k, y, hk1, hk, rfl, hbr, HB, HJ, HZ, hown⟩ := hrel
    have hsz : w.heap.size + 1 < wr.heap.size := (hown.lt _ rfl).2
    by_cases hlt : k < l.length
    · obtain ⟨m, hm⟩ := some_get hlt
      have i0 := ib0 k
      have i1 := ib1 hlt
      obtain ⟨b, off, e, hb, p0, p1, p2, p3, p4⟩ := (HR.out.below hbr).fe hm
      cases e
      have r0 := (hown.cellAt 0 (by decide)); have r1 := (hown.cellAt 1 (by decide)); have r2 := (hown.cellAt 2 (by decide)); have r3 := (hown.cellAt 3 (by decide)); have r4 := (hown.cellAt 4 (by decide))
      simp only [encFe, List.getElem?_cons_zero, List.getElem?_cons_succ] at r0 r1 r2 r3 r4
      have z0 := hown.frozenAt 0; have z1 := hown.frozenAt 1; have z2 := hown.frozenAt 2; have z3 := hown.frozenAt 3; have z4 := hown.frozenAt 4
      have HD := Lib.hid (drop_cons hm)
      obtain ⟨j, hj, hy⟩ := HJ.out
      have hc := gtS_cmp (goodFe_lt HG.out hy hm hj)
      have HM := Lib.hid hm
      have HO := Lib.hid hown
      have HY := Lib.hid hy
      clear hm hown hy HR
      rcases hc with ⟨hc1, hc2⟩ | ⟨hc1, hc2⟩
      · have HN := Lib.hid (show bestF m (l.drop (k + 1)) = bestF x (l.drop 1) by rw [← HB.out, HD.out]; simp [bestF, hc1])
        clear hc1
        go_wp2_with fail
        (refine wp_region_calm (by kernel_rfl) (by kernel_rfl) ?_; (repeat (go_big_quiet_step (((go_at_call 72; exact calm_of (cmpFe_any _ _ _)))))); refine wpQuiet_nil ?_; intro xw; have hb1 := xw.is; generalize xw.w = w1 at hb1 ⊢; clear xw)
        obtain ⟨hc_1, hf_1, hz_1⟩ := bcell (B := wr.heap.size) (Nat.le_refl _) hb1
        go_wp2
        go_roundw
        case rel => 
          refine ⟨k + 1, m, by omega, by omega, by go_num, ?_, HN, Lib.hid ⟨k, by omega, HM.out⟩, ?_, ?_⟩
          · exact bset (bset (bset (bset (bset (bstep hbr hb1) (by simp) _) (by simp) _) (by simp) _) (by simp) _) (by simp) _
          · obtain ⟨zs, hz⟩ := HZ.out
            exact Lib.hid ⟨zs, own_setOther (own_setOther (own_setOther (own_setOther (own_setOther (own_below hz hb1) (by simp) _) (by simp) _) (by simp) _) (by simp) _) (by simp) _⟩
          · exact own_put encFe_len m (own_below HO.out hb1)
        case measure => simp [intOf]; omega
      · have HN := Lib.hid (show bestF y (l.drop (k + 1)) = bestF x (l.drop 1) by rw [← HB.out, HD.out]; simp [bestF, hc1])
        have hc3 : ¬ 0 < cmpS m y := by omega
        clear hc1
        go_wp2_with fail
        (refine wp_region_calm (by kernel_rfl) (by kernel_rfl) ?_; (repeat (go_big_quiet_step (((go_at_call 72; exact calm_of (cmpFe_any _ _ _)))))); refine wpQuiet_nil ?_; intro xw; have hb1 := xw.is; generalize xw.w = w1 at hb1 ⊢; clear xw)
        go_wp2
        go_roundw
        case rel => exact ⟨k + 1, y, by omega, by omega, by go_num, bstep hbr hb1, HN, Lib.hid ⟨j, by omega, HY.out⟩, (by obtain ⟨zs, hz⟩ := HZ.out; exact Lib.hid ⟨zs, own_below hz hb1⟩), own_below HO.out hb1⟩
        case measure => simp [intOf]; omega
    · obtain rfl : k = l.length := by omega
      have HF := Lib.hid (show y = bestF x (l.drop 1) by rw [← HB.out, List.drop_length]; rfl)
      have r0 := (hown.cellAt 0 (by decide)); have r1 := (hown.cellAt 1 (by decide)); have r2 := (hown.cellAt 2 (by decide)); have r3 := (hown.cellAt 3 (by decide)); have r4 := (hown.cellAt 4 (by decide))
      simp only [encFe, List.getElem?_cons_zero, List.getElem?_cons_succ] at r0 r1 r2 r3 r4
      obtain ⟨zs, hz⟩ := HZ.out
      obtain ⟨o0, t0⟩ := own_cell hz (j := 0) (by omega)
      obtain ⟨o1, t1⟩ := own_cell hz (j := 1) (by omega)
      obtain ⟨o2, t2⟩ := own_cell hz (j := 2) (by omega)
      obtain ⟨o3, t3⟩ := own_cell hz (j := 3) (by omega)
      obtain ⟨o4, t4⟩ := own_cell hz (j := 4) (by omega)
      have z0 := hz.frozenAt 0; have z1 := hz.frozenAt 1; have z2 := hz.frozenAt 2; have z3 := hz.frozenAt 3; have z4 := hz.frozenAt 4
      clear hown hz HB HR HG H0 HZ HJ
      go_wp2
      exact bodyPost_ret (v := .agg #[.int .i64 y.id, .int .i64 y.x, .int .i64 y.y, .int .i64 y.lv, .int .i64 y.pp]) (by simp [results, Try.results71, go_sem, *]) rfl ⟨by rw [← HF.out]; rfl, bset (bset (bset (bset (bset hbr (by simp) _) (by simp) _) (by simp) _) (by simp) _) (by simp) _⟩

theorem fieldFe0 (m : Fe) (w : World) : (Instr.field 25 (.agg #[.int .i64 m.id, .int .i64 m.x, .int .i64 m.y, .int .i64 m.lv, .int .i64 m.pp]) 0).run Try.prog w = .ok (.int .i64 m.id) w := by kernel_rfl
def strongL (l : List Fe) : Int × Bool :=
  match l with
  | [] => (0, false)
  | x :: ys => if goodFe (x :: ys) then ((bestF x ys).id, true) else (0, false)
theorem strongL_bad {l : List Fe} (h : goodFe l = false) : strongL l = (0, false) := by
  cases l with
  | nil => rfl
  | cons x ys => simp [strongL, h]

set_option maxRecDepth 100000 in
set_option maxHeartbeats 1000000 in
theorem iStrong_any (l : List Fe) (A : Option Addr) (c : Nat) (w : World) (hr : RowAt 5 encFe w A l) (hlen : l.length ≤ 2097152) :
    Calls Try.prog 28 #[.slice A l.length c] w fun e w' => e = .returned (.tuple #[.int .i64 (strongL l).1, .bool (strongL l).2]) ∧ Below w.heap.size w w' := by
  have HR := Lib.hid hr
  clear hr
  cases hg : goodFe l
  · rw [strongL_bad hg]
    go_enter Try.func28, Try.ntmps28
    go_wp2_with (go_at_call 21; (with_reducible refine (iAreFe_any l _ _ _ HR.out hlen).mono ?_); rintro e w1 ⟨rfl, hb1⟩; obtain ⟨hc_hb1, hf_hb1, hz_hb1⟩ := bcell (B := w.heap.size) (by first | omega | (simp; done) | (simp; omega)) hb1)
    go_ret2
    exact ⟨rfl, hb1⟩
  · rcases l with _ | ⟨x, ys⟩
    · have hA := iAreFe_any ([] : List Fe) A c w HR.out hlen
      rw [hg] at hA
      simp only [List.length_nil] at hA
      have HA := Lib.hid hA
      clear hA HR hg
      simp only [List.length_nil]
      go_enter Try.func28, Try.ntmps28
      go_wp2_with (go_at_call 21; (with_reducible refine (HA.out).mono ?_); rintro e w1 ⟨rfl, hb1⟩; obtain ⟨hc_hb1, hf_hb1, hz_hb1⟩ := bcell (B := w.heap.size) (by first | omega | (simp; done) | (simp; omega)) hb1)
      go_ret2
      exact ⟨rfl, hb1⟩
    · have e : strongL (x :: ys) = ((bestF x ys).id, true) := by simp [strongL, hg]
      rw [e]
      clear e
      have HG := Lib.hid hg
      have hn : (x :: ys).length ≠ 0 := by simp
      have hn2 : ¬ ((x :: ys).length : Int) = 0 := by omega
      have HM := fun w1 (h1 : Below w.heap.size w w1) => maxFe_any (x :: ys) A c w1 x (HR.out.below h1) hlen HG.out rfl
      simp only [List.drop_succ_cons, List.drop_zero] at HM
      have hA := iAreFe_any (x :: ys) A c w HR.out hlen
      rw [hg] at hA
      have HA := Lib.hid hA
      have HX := Lib.hid HM
      clear HM hA HR hg hlen
      generalize (x :: ys).length = n at *
      go_enter Try.func28, Try.ntmps28
      go_wp2_with (go_at_call 21; (with_reducible refine (HA.out).mono ?_); rintro e w1 ⟨rfl, hb1⟩; obtain ⟨hc_hb1, hf_hb1, hz_hb1⟩ := bcell (B := w.heap.size) (by first | omega | (simp; done) | (simp; omega)) hb1)
      refine (HX.out w1 hb1).mono ?_; rintro e w2 ⟨rfl, hb2⟩
      clear HA HX
      simp only [aggF]
      have hfd := fieldFe0 (bestF x ys)
      go_wp2
      go_ret2
      exact ⟨rfl, bstep hb1 hb2⟩

set_option maxRecDepth 100000 in
set_option maxHeartbeats 4000000 in
theorem sStrong_any (l : List Fe) (A : Option Addr) (c : Nat) (w : World) (hr : RowAt 5 encFe w A l) (hlen : l.length ≤ 2097152) :
    Calls Try.prog 27 #[.slice A l.length c] w fun e w' => e = .returned (.tuple #[.int .i64 (strongL l).1, .bool (strongL l).2]) ∧ Below w.heap.size w w' := by
  have HR := Lib.hid hr
  clear hr
  cases hg : goodFe l
  · rw [strongL_bad hg]
    go_enter Try.func27, Try.ntmps27
    go_wp2_with (go_at_call 64; (with_reducible refine (sgoodFe_any l _ _ _ HR.out hlen).mono ?_); rintro e w1 ⟨rfl, hb1⟩; obtain ⟨hc_hb1, hf_hb1, hz_hb1⟩ := bcell (B := w.heap.size) (by first | omega | (simp; done) | (simp; omega)) hb1)
    go_ret2
    exact ⟨rfl, hb1⟩
  · rcases l with _ | ⟨x, ys⟩
    · have hA := sgoodFe_any ([] : List Fe) A c w HR.out hlen
      rw [hg] at hA
      simp only [List.length_nil] at hA
      have HA := Lib.hid hA
      clear hA HR hg
      simp only [List.length_nil]
      go_enter Try.func27, Try.ntmps27
      go_wp2_with (go_at_call 64; (with_reducible refine (HA.out).mono ?_); rintro e w1 ⟨rfl, hb1⟩; obtain ⟨hc_hb1, hf_hb1, hz_hb1⟩ := bcell (B := w.heap.size) (by first | omega | (simp; done) | (simp; omega)) hb1)
      go_ret2
      exact ⟨rfl, hb1⟩
    · have HE := Lib.hid (show strongL (x :: ys) = (bestF x ys |>.id, true) by simp [strongL, hg])
      have HG := Lib.hid hg
      have hA := sgoodFe_any (x :: ys) A c w HR.out hlen
      rw [hg] at hA
      have HA := Lib.hid hA
      have H0 := Lib.hid (show (x :: ys)[0]? = some x from rfl)
      have HY := Lib.hid (show (x :: ys).drop 1 = ys from rfl)
      clear hA hg
      have hn : (x :: ys).length ≠ 0 := by simp
      have hn2 : ¬ ((x :: ys).length : Int) = 0 := by omega
      generalize x :: ys = l at *
      obtain ⟨b, off, rfl, hb, q0, q1, q2, q3, q4⟩ := HR.out.fe H0.out
      simp only [Nat.zero_mul, Nat.add_zero] at q0 q1 q2 q3 q4
      have i1 : (0 : Int) < l.length := by omega
      go_enter Try.func27, Try.ntmps27
      go_wp2_with (go_at_call 64; (with_reducible refine (HA.out).mono ?_); rintro e w1 ⟨rfl, hb1⟩; obtain ⟨hc_hb1, hf_hb1, hz_hb1⟩ := bcell (B := w.heap.size) (by first | omega | (simp; done) | (simp; omega)) hb1)
      clear HA hc_hb1 hf_hb1
      go_loopw [5] (fun i wr => ∃ (k : Nat) (y : Fe), 1 ≤ k ∧ k ≤ l.length ∧ i = .int .i64 k ∧ Below w.heap.size w wr ∧ Hid (bestF y (l.drop k) = bestF x ys) ∧ wr.ownsRow w.heap.size 25 5 (.slice (some ⟨w1.heap.size, 0, none⟩) 1 1) 1 (encFe y)) (fun i _ => l.length - (intOf i).toNat)
      case atStart => exact ⟨1, x, Nat.le_refl _, by omega, rfl, balloc hb1 _, Lib.hid (by rw [HY.out]), own_base (own_made (n := 1) (K := 5) rfl (by decide)) hz_hb1⟩
      case round =>
        obtain ⟨k, y, hk1, hk, rfl, hbr, HB, hown⟩ := hrel
        have hsz : w1.heap.size < wr.heap.size := (hown.lt _ rfl).2
        have r0 := (hown.cellAt 0 (by decide)); have r1 := (hown.cellAt 1 (by decide)); have r2 := (hown.cellAt 2 (by decide)); have r3 := (hown.cellAt 3 (by decide)); have r4 := (hown.cellAt 4 (by decide))
        simp only [encFe, List.getElem?_cons_zero, List.getElem?_cons_succ] at r0 r1 r2 r3 r4
        have z0 := hown.frozenAt 0; have z1 := hown.frozenAt 1; have z2 := hown.frozenAt 2; have z3 := hown.frozenAt 3; have z4 := hown.frozenAt 4
        have HO := Lib.hid hown
        clear hown
        by_cases hlt : k < l.length
        · obtain ⟨m, hm⟩ := some_get hlt
          have i0 := ib0 k
          have i1 := ib1 hlt
          obtain ⟨b, off, e, hb, p0, p1, p2, p3, p4⟩ := (HR.out.below hbr).fe hm
          cases e
          have HD := Lib.hid (drop_cons hm)
          clear hm
          have yes : gtS m y = true → Hid (bestF m (l.drop (k + 1)) = bestF x ys) := fun hc => Lib.hid (by rw [← HB.out, HD.out]; simp [bestF, hc])
          have no : gtS m y = false → Hid (bestF y (l.drop (k + 1)) = bestF x ys) := fun hc => Lib.hid (by rw [← HB.out, HD.out]; simp [bestF, hc])
          rcases Int.lt_trichotomy m.lv y.lv with h1 | h1 | h1
          · have HN := no (by simp [gtS]; omega)
            have h2 : ¬ y.lv < m.lv := by omega
            have h3 : ¬ m.lv = y.lv := by omega
            clear yes no
            go_wp2
            exact ⟨⟨k + 1, by omega, by omega, by go_num, balloc hbr _, y, HN, HO.out.alloc _⟩, by simp [intOf]; omega⟩
          · have hq : (m.lv == y.lv) = true := by simpa using h1
            have h2 : ¬ y.lv < m.lv := by omega
            by_cases h4 : y.pp < m.pp
            · have HN := yes (by simp [gtS]; omega)
              clear yes no h1
              go_wp2
              refine ⟨⟨k + 1, m, by omega, by omega, by go_num, ?_, HN, ?_⟩, by simp [intOf]; omega⟩
              · exact balloc (bset (bset (bset (bset (bset hbr hz_hb1 _) hz_hb1 _) hz_hb1 _) hz_hb1 _) hz_hb1 _) _
              · exact (own_put encFe_len m HO.out).alloc _
            · have HN := no (by simp [gtS]; omega)
              clear yes no h1
              go_wp2
              exact ⟨⟨k + 1, y, by omega, by omega, by go_num, balloc hbr _, HN, HO.out.alloc _⟩, by simp [intOf]; omega⟩
          · have HN := yes (by simp [gtS]; omega)
            have h3 : ¬ m.lv = y.lv := by omega
            clear yes no
            go_wp2
            refine ⟨⟨k + 1, m, by omega, by omega, by go_num, ?_, HN, ?_⟩, by simp [intOf]; omega⟩
            · exact balloc (bset (bset (bset (bset (bset hbr hz_hb1 _) hz_hb1 _) hz_hb1 _) hz_hb1 _) hz_hb1 _) _
            · exact (own_put encFe_len m HO.out).alloc _
        · obtain rfl : k = l.length := by omega
          have HF := Lib.hid (show y = bestF x ys by rw [← HB.out, List.drop_length]; rfl)
          clear HR HB
          go_wp2
          go_ret2
          exact ⟨by rw [HE.out, ← HF.out]; rfl, hbr⟩
end Go.Proofs.Ytjjinblahmcplaa
