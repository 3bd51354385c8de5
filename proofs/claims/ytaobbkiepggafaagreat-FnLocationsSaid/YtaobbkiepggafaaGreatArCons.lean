/-
  Whether an origin is consistent with arrivals: impl and spec answer alike.
-/
import Derived.Test.YtaobbkiepggafaaGreatArFit
namespace Go.Proofs.YtaobbkiepggafaaGreat
set_option linter.unusedVariables false
set_option linter.unusedSimpArgs false
set_option linter.unnecessarySimpa false
open Go.RowKit
attribute [local go_sem] ext_cell ext_frozen

theorem infoI12 : (Tryz.prog.info? 3).map (fun i => (i.zero, i.size, i.bytes)) = some (some (.int .i64 0), 1, 8) := by kernel_rfl
def origB (o : Og) : Bool := placeB o.x o.y && inB o.tk 0 1000000
theorem origB_true {o : Og} (h : origB o = true) : (0 ≤ o.x ∧ o.x ≤ 999) ∧ (0 ≤ o.y ∧ o.y ≤ 999) ∧ (0 ≤ o.tk ∧ o.tk ≤ 1000000) := by
  unfold origB at h
  rw [Bool.and_eq_true] at h
  exact ⟨(placeB_true h.1).1, (placeB_true h.1).2, inB_true h.2⟩
theorem boxOg (w : World) (T : Nat) (o : Og) : (w.alloc (.cells #[.int .i64 o.x, .int .i64 o.y, .int .i64 o.tk] T)).cell? ⟨w.heap.size, 0, none⟩ = some (.int .i64 o.x) ∧ (w.alloc (.cells #[.int .i64 o.x, .int .i64 o.y, .int .i64 o.tk] T)).cell? ⟨w.heap.size, 1, none⟩ = some (.int .i64 o.y) ∧ (w.alloc (.cells #[.int .i64 o.x, .int .i64 o.y, .int .i64 o.tk] T)).cell? ⟨w.heap.size, 2, none⟩ = some (.int .i64 o.tk) := by
  simp [go_sem]
theorem cellOg {w W : World} {b : Nat} {o : Og} (hb : b < w.heap.size) (h : w.cell? ⟨b, 0, none⟩ = some (.int .i64 o.x) ∧ w.cell? ⟨b, 1, none⟩ = some (.int .i64 o.y) ∧ w.cell? ⟨b, 2, none⟩ = some (.int .i64 o.tk)) (hW : Below w.heap.size w W) :
    W.cell? ⟨b, 0, none⟩ = some (.int .i64 o.x) ∧ W.cell? ⟨b, 1, none⟩ = some (.int .i64 o.y) ∧ W.cell? ⟨b, 2, none⟩ = some (.int .i64 o.tk) :=
  ⟨(hW.cell (p := ⟨b, 0, none⟩) hb).trans h.1, (hW.cell (p := ⟨b, 1, none⟩) hb).trans h.2.1, (hW.cell (p := ⟨b, 2, none⟩) hb).trans h.2.2⟩

set_option maxHeartbeats 1000000 in
theorem isOrigin_any (o : Og) (w : World) :
    Calls Tryz.prog 41 #[.agg #[.int .i64 o.x, .int .i64 o.y, .int .i64 o.tk]] w fun e w' => e = .returned (.bool (origB o)) ∧ Below w.heap.size w w' := by
  cases h1 : placeB o.x o.y
  all_goals
    go_enter Tryz.func41, Tryz.ntmps41
    go_wp2_with (first | (go_at_call 37; (with_reducible refine (isPlace_any _ _ _).mono ?_); rintro e w' ⟨rfl, rfl⟩) | (go_at_call 38; (with_reducible refine (isTick_any _ _).mono ?_); rintro e w' ⟨rfl, rfl⟩))
    go_ret
    exact ⟨ret_bool (by simp [origB, h1]), (by repeat (first | exact bref _ | (refine balloc ?_ _) | (refine bdrew ?_) | (refine bdrewN ?_ _) | (refine bstep ?_ (by assumption))))⟩
set_option maxHeartbeats 1000000 in
theorem l10Origin_any (o : Og) (w : World) :
    Calls Tryz.prog 49 #[.agg #[.int .i64 o.x, .int .i64 o.y, .int .i64 o.tk]] w fun e w' => e = .returned (.bool (origB o)) ∧ Below w.heap.size w w' := by
  cases h1 : placeB o.x o.y
  all_goals
    go_enter Tryz.func49, Tryz.ntmps49
    go_wp2_with (first | (go_at_call 67; (with_reducible refine (l2Place_any _ _ _).mono ?_); rintro e w' ⟨rfl, rfl⟩) | (go_at_call 68; (with_reducible refine (l2Tick_any _ _).mono ?_); rintro e w' ⟨rfl, rfl⟩))
    go_ret
    exact ⟨ret_bool (by simp [origB, h1]), (by repeat (first | exact bref _ | (refine balloc ?_ _) | (refine bdrew ?_) | (refine bdrewN ?_ _) | (refine bstep ?_ (by assumption))))⟩
theorem boxAr0 (w : World) (T : Nat) (m : Ar) : (w.alloc (.cells #[.int .i64 m.id, .int .i64 m.x, .int .i64 m.y, .int .i64 m.tk, .int .i64 m.er] T)).cell? ⟨w.heap.size, 0, none⟩ = some (.int .i64 m.id) := by
  simp [go_sem]
set_option maxRecDepth 100000 in
set_option maxHeartbeats 2000000 in
theorem fits_any (a : Ar) (o : Og) (w : World) (ha : oneArM a = true) (ho : origB o = true) :
    Calls Tryz.prog 74 #[.agg #[.int .i64 a.id, .int .i64 a.x, .int .i64 a.y, .int .i64 a.tk, .int .i64 a.er], .agg #[.int .i64 o.x, .int .i64 o.y, .int .i64 o.tk]] w fun e w' => e = .returned (.bool (fitB a o)) ∧ Below w.heap.size w w' := by
  obtain ⟨ox, oy, ot⟩ := origB_true ho
  have HT := Lib.hid (fun W => ticks_any a o.x o.y W ha (by omega) (by omega))
  have HF := Lib.hid (show fitB a o = inB o.tk (loT a o.x o.y) (hiT a o.x o.y) from rfl)
  have HB0 := Lib.hid (boxOg (w.alloc (.cells #[.int .i64 a.id, .int .i64 a.x, .int .i64 a.y, .int .i64 a.tk, .int .i64 a.er] 71)) 38 o)
  generalize loT a o.x o.y = lo at HT HF
  generalize hiT a o.x o.y = hi at HT HF
  go_enter Tryz.func74, Tryz.ntmps74
  go_wp2_with (first | (go_at_call 46; (with_reducible refine (HT.out _).mono ?_); rintro e w1 ⟨rfl, hb1⟩; obtain ⟨d0, d1, d2⟩ := cellOg (by simp) HB0.out hb1; simp only [World.size_alloc] at d0 d1 d2) | (go_at_call 59; (with_reducible refine (in_any _ _ _ _).mono ?_); rintro e w' ⟨rfl, rfl⟩))
  go_ret
  exact ⟨ret_bool HF.out.symm, bstep (balloc (balloc (bref _) _) _) hb1⟩
set_option maxRecDepth 100000 in
set_option maxHeartbeats 4000000 in
theorem l10Fits_any (a : Ar) (o : Og) (w : World) (ha : oneArM a = true) (ho : origB o = true) :
    Calls Tryz.prog 81 #[.agg #[.int .i64 a.id, .int .i64 a.x, .int .i64 a.y, .int .i64 a.tk, .int .i64 a.er], .agg #[.int .i64 o.x, .int .i64 o.y, .int .i64 o.tk]] w fun e w' => e = .returned (.bool (fitB a o)) ∧ Below w.heap.size w w' := by
  obtain ⟨ox, oy, ot⟩ := origB_true ho
  obtain ⟨_, bx, by_, bt, be⟩ := oneAr_bounds ha
  have hs := sqT_bd (x := o.x) (y := o.y) ha (by omega) (by omega)
  have HS := Lib.hid (fun W => l10Square_any a o.x o.y W ha (by omega) (by omega))
  have HF := Lib.hid (fit_law (o := o) ha (by omega) (by omega) ot)
  have hn : 0 ≤ 400 * sqT a o.x o.y ∧ 400 * sqT a o.x o.y ≤ 1600000000 := by omega
  generalize 400 * sqT a o.x o.y = n at HS HF hn
  have s1 := sqw_bd (d := a.tk + a.er - o.tk) (by omega)
  have s2 := sqw_bd (d := a.tk - a.er - o.tk) (by omega)
  have hw1 : IntKind.i64.wrap (a.tk + a.er) = a.tk + a.er := by rw [IntKind.wrap_i64]; omega
  have hw2 : IntKind.i64.wrap (a.tk + a.er - o.tk) = a.tk + a.er - o.tk := by rw [IntKind.wrap_i64]; omega
  have hw3 : IntKind.i64.wrap (a.tk - a.er) = a.tk - a.er := by rw [IntKind.wrap_i64]; omega
  have hw4 : IntKind.i64.wrap (a.tk - a.er - o.tk) = a.tk - a.er - o.tk := by rw [IntKind.wrap_i64]; omega
  go_enter Tryz.func81, Tryz.ntmps81
  go_wp2_with (go_at_call 57; (with_reducible refine (HS.out _).mono ?_); rintro e w' ⟨rfl, rfl⟩)
  have hbw : Below w.heap.size w ((w.alloc (.cells #[.int .i64 a.id, .int .i64 a.x, .int .i64 a.y, .int .i64 a.tk, .int .i64 a.er] 71)).alloc (.cells #[.int .i64 o.x, .int .i64 o.y, .int .i64 o.tk] 38)) := balloc (balloc (bref _) _) _
  (refine wp_region_calm (by kernel_rfl) (by kernel_rfl) ?_; (repeat (go_big_quiet_step ((fail)))); refine wpQuiet_nil ?_; intro xw; have hb2 := xw.is; generalize xw.w = w2 at hb2 ⊢; clear xw)
  have hbw2 := bstep hbw hb2
  clear hb2 hbw
  generalize a.tk + a.er - o.tk = P at s1 hw2 HF ⊢
  generalize a.tk - a.er - o.tk = Q at s2 hw4 HF ⊢
  generalize hPP : P * P = PP at s1 HF ⊢
  generalize hQQ : Q * Q = QQ at s2 HF ⊢
  by_cases h1 : 0 ≤ P
  · by_cases h2 : n ≤ PP
    · by_cases h3 : Q ≤ 0
      · go_wp2_with fail
        go_ret
        exact ⟨ret_bool (by rw [HF.out]; simp [h1, h2, h3] <;> (intros; omega)), hbw2⟩
      · go_wp2_with fail
        all_goals
          go_ret
          exact ⟨ret_bool (by rw [HF.out]; simp [h1, h2, h3] <;> (intros; omega)), hbw2⟩
    · go_wp2_with fail
      go_ret
      exact ⟨ret_bool (by rw [HF.out]; simp [h1, h2] <;> (intros; omega)), hbw2⟩
  · go_wp2_with fail
    go_ret
    exact ⟨ret_bool (by rw [HF.out]; simp [h1] <;> (intros; omega)), hbw2⟩
set_option maxRecDepth 100000 in
set_option maxHeartbeats 2000000 in
theorem votClos_any (a : Ar) (o : Og) (b : Nat) (w : World) (ha : oneArM a = true) (ho : origB o = true) (hb : b < w.heap.size) (hc : w.cell? ⟨b, 0, none⟩ = some (.int .i64 o.x) ∧ w.cell? ⟨b, 1, none⟩ = some (.int .i64 o.y) ∧ w.cell? ⟨b, 2, none⟩ = some (.int .i64 o.tk)) :
    Calls Tryz.prog 73 #[.agg #[.int .i64 a.id, .int .i64 a.x, .int .i64 a.y, .int .i64 a.tk, .int .i64 a.er], .pointer (some ⟨b, 0, none⟩)] w fun e w' => e = .returned (.bool (fitB a o)) ∧ Below w.heap.size w w' := by
  obtain ⟨c0, c1, c2⟩ := hc
  have HT := Lib.hid (fun W => fits_any a o W ha ho)
  go_enter Tryz.func73, Tryz.ntmps73
  go_wp2_with (go_at_call 74; (with_reducible refine (HT.out _).mono ?_); rintro e w1 ⟨rfl, hb1⟩)
  go_ret
  exact ⟨rfl, bstep (balloc (bref _) _) hb1⟩
set_option maxRecDepth 100000 in
set_option maxHeartbeats 2000000 in
theorem voters_any (l : List Ar) (o : Og) (A : Option Addr) (c : Nat) (w : World) (ho : origB o = true) (hr : RowAt 5 encAr w A l) (hlen : l.length ≤ 2097152) (hg : ∀ a ∈ l, oneArM a = true) :
    Calls Tryz.prog 42 #[.slice A l.length c, .agg #[.int .i64 o.x, .int .i64 o.y, .int .i64 o.tk]] w (MkS 71 5 (l.filter fun a => fitB a o).length ((l.filter fun a => fitB a o).flatMap encAr) w) := by
  have hmf : ∀ (fn : Fn) (first cap : Array Value) (w : World), (Instr.makeFunc fn first cap).run Tryz.prog w = .ok (.func fn first cap) w := fun _ _ _ _ => rfl
  have HB0 := boxOg w 38 o
  have h := filterAr_any l A c 73 #[.pointer (some ⟨w.heap.size, 0, none⟩)] (fun a => fitB a o) (enters_of Tryz.func73 (by kernel_rfl) rfl) (w.alloc (.cells #[.int .i64 o.x, .int .i64 o.y, .int .i64 o.tk] 38)) (hr.below (balloc (bref w) _)) hlen
    (fun w1 hb1 a ha => votClos_any a o w.heap.size w1 (hg a ha) ho (Nat.lt_of_lt_of_le (by simp) hb1.size) (cellOg (by simp) HB0 hb1))
  have HH := Lib.hid h
  clear h HB0 hr
  go_enter Tryz.func42, Tryz.ntmps42
  go_wp2_with (go_at_call 72; (with_reducible refine (HH.out).mono ?_); rintro e w1 ⟨A1, c1, rfl, ho1, hb1⟩)
  go_ret
  exact ⟨A1, c1, rfl, own_base ho1 (by simp), bstep (balloc (bref _) _) hb1⟩
theorem flt_hit {l : List Ar} {o : Og} {k : Nat} {m : Ar} (hm : l[k]? = some m) (h : fitB m o = true) : ((l.take (k + 1)).filter fun a => fitB a o).length = ((l.take k).filter fun a => fitB a o).length + 1 := by
  rw [filter_hitAr (p := fun a => fitB a o) hm h]; simp
theorem flt_miss {l : List Ar} {o : Og} {k : Nat} {m : Ar} (hm : l[k]? = some m) (h : fitB m o = false) : ((l.take (k + 1)).filter fun a => fitB a o).length = ((l.take k).filter fun a => fitB a o).length := by
  rw [filter_missAr (p := fun a => fitB a o) hm h]
set_option maxRecDepth 100000 in
set_option maxHeartbeats 4000000 in
theorem l10Voters_any (l : List Ar) (o : Og) (A : Option Addr) (c : Nat) (w : World) (ho : origB o = true) (hr : RowAt 5 encAr w A l) (hlen : l.length ≤ 2097152) (hg : ∀ a ∈ l, oneArM a = true) :
    Calls Tryz.prog 50 #[.slice A l.length c, .agg #[.int .i64 o.x, .int .i64 o.y, .int .i64 o.tk]] w fun e w' => ∃ A' c', e = .returned (.slice A' (l.filter fun a => fitB a o).length c') ∧ Below w.heap.size w w' := by
  have HR := Lib.hid hr
  have HG := Lib.hid hg
  have HB0 := Lib.hid (boxOg w 38 o)
  clear hr hg
  go_enter Tryz.func50, Tryz.ntmps50
  go_wp2_with fail
  go_loopw [5, 6] (fun v i wr => ∃ (k n : Nat) (xs : List Value) (A' : Option Addr) (c' : Nat), k ≤ l.length ∧ i = .int .i64 k ∧ v = .slice A' n c' ∧ n ≤ k ∧ Hid (n = ((l.take k).filter fun a => fitB a o).length) ∧ Below (w.alloc (.cells #[.int .i64 o.x, .int .i64 o.y, .int .i64 o.tk] 38)).heap.size (w.alloc (.cells #[.int .i64 o.x, .int .i64 o.y, .int .i64 o.tk] 38)) wr ∧ Hid (wr.ownsRow (w.alloc (.cells #[.int .i64 o.x, .int .i64 o.y, .int .i64 o.tk] 38)).heap.size 3 1 (.slice A' n c') n xs)) (fun _ i _ => l.length - (intOf i).toNat)
  case atStart => exact ⟨0, 0, [], some ⟨w.heap.size + 1, 0, none⟩, 0, Nat.zero_le _, rfl, rfl, Nat.le_refl _, Lib.hid rfl, balloc (bref _) _, Lib.hid (by have h := own_made (E := 3) (K := 1) (n := 0) (cur := #[]) (w := w.alloc (.cells #[.int .i64 o.x, .int .i64 o.y, .int .i64 o.tk] 38)) rfl (Nat.zero_le _); simpa using h)⟩
  case round =>
    obtain ⟨k, n, xs, A', c', hk, rfl, rfl, hn, HN, hbr, HO⟩ := hrel
    have hbw := bstep (balloc (bref w) _) hbr
    have hs := hbr.size
    simp only [World.size_alloc] at hs
    have hz0 : w.heap.size < wr.heap.size := by omega
    by_cases hlt : k < l.length
    · obtain ⟨m, hm⟩ := some_get hlt
      have i0 := ib0 k
      have i1 := ib1 hlt
      obtain ⟨b, off, rfl, hb, q0, q1, q2, q3, q4⟩ := (HR.out.below hbw).ar hm
      obtain ⟨c0, c1, c2⟩ := cellOg (by simp) HB0.out hbr
      have HT := Lib.hid (fun W => l10Fits_any m o W (HG.out m (List.mem_of_getElem? hm)) ho)
      have HQ := Lib.hid (fun W (hW : Below wr.heap.size wr W) => (hW.cell (p := ⟨b, off + k * 5, none⟩) hb).trans q0)
      cases hf : fitB m o
      · have HX := Lib.hid (flt_miss hm hf)
        have HT2 := Lib.hid (fun W => by have := HT.out W; rw [hf] at this; exact this)
        clear HT hm
        go_wp2_with fail
        (refine wp_region_calm (by kernel_rfl) (by kernel_rfl) ?_; (repeat (go_big_quiet_step (((go_at_call 81; with_reducible exact calm_of (HT2.out _)))))); refine wpQuiet_nil ?_; intro xw; have hb2 := xw.is; generalize xw.w = w2 at hb2 ⊢; clear xw)
        go_wp2_with fail
        go_roundw
        case rel => exact ⟨k + 1, n, xs, A', c', by omega, by go_num, rfl, by omega, Lib.hid (by rw [HX.out]; exact HN.out), bstep hbr hb2, Lib.hid (own_below HO.out hb2)⟩
        case measure => simp [intOf]; omega
      · have HX := Lib.hid (flt_hit hm hf)
        have HT2 := Lib.hid (fun W => by have := HT.out W; rw [hf] at this; exact this)
        clear HT hm
        go_wp2_with fail
        (refine wp_region_calm (by kernel_rfl) (by kernel_rfl) ?_; (repeat (go_big_quiet_step (((go_at_call 81; with_reducible exact calm_of (HT2.out _)))))); refine wpQuiet_nil ?_; intro xw; have hb2 := xw.is; generalize xw.w = w2 at hb2 ⊢; clear xw)
        have r0 := HQ.out w2 hb2
        have HO2 := Lib.hid (own_below HO.out hb2)
        have hs2 := hb2.size
        clear q0 q1 q2 q3 q4 c0 c1 c2
        go_wp2_with (at_builtin; refine wpList_app rfl _ _ 57 3 1 8 _ rfl Tryz.underlying57 infoI12 rfl (by decide) (w.alloc (.cells #[.int .i64 o.x, .int .i64 o.y, .int .i64 o.tk] 38)).heap.size _ n _ (by rfl) (HO2.out.alloc _) _ _ (by rfl) (heap_new1 _ _) rfl (fun u hu => by simp at hu; subst hu; rfl) (by omega) (by decide) (by simp; omega) ?_; intro g5 c5 w5 ho5 hg5 hl5)
        go_roundw
        case rel => exact ⟨k + 1, n + 1, _, some ⟨g5, 0, none⟩, c5, by omega, by go_num, rfl, by omega, Lib.hid (by rw [HX.out, ← HN.out]), bgrown (balloc (bstep hbr hb2) _) hg5 (fun k hk => row_mine HO2.out k hk), Lib.hid ho5⟩
        case measure => simp [intOf]; omega
    · obtain rfl : k = l.length := by omega
      rw [List.take_length] at HN
      have hn2 := HN.out
      subst hn2
      go_wp2_with fail
      go_ret
      exact ⟨⟨A', c', rfl⟩, hbw⟩
theorem dec_beq (a b : Nat) : decide (a = b) = ((a : Int) == (b : Int)) := by
  rw [Bool.eq_iff_iff]; simp only [decide_eq_true_eq, beq_iff_eq]; omega
def consR (l : List Ar) (o : Og) : Bool × Bool := if locB l && origB o then (decide ((l.filter fun a => fitB a o).length = l.length), true) else (false, false)
set_option maxRecDepth 100000 in
set_option maxHeartbeats 2000000 in
theorem iCons_any (l : List Ar) (o : Og) (A : Option Addr) (c : Nat) (w : World) (hr : RowAt 5 encAr w A l) (hlen : l.length ≤ 2097152) :
    Calls Tryz.prog 15 #[.slice A l.length c, .agg #[.int .i64 o.x, .int .i64 o.y, .int .i64 o.tk]] w fun e w' => e = .returned (.tuple #[.bool (consR l o).1, .bool (consR l o).2]) ∧ Below w.heap.size w w' := by
  have HR := Lib.hid hr
  have HB0 := Lib.hid (boxOg w 38 o)
  clear hr
  cases h1 : locB l
  · have HF := Lib.hid (show consR l o = (false, false) by simp [consR, h1])
    go_enter Tryz.func15, Tryz.ntmps15
    go_wp2_with (go_at_call 27; (with_reducible refine (iLoc_any l _ _ _ (HR.out.below (balloc (bref _) _)) hlen).mono ?_); rw [h1]; rintro e w1 ⟨rfl, hb1⟩)
    go_ret2
    exact ⟨ret_bb HF.out, bstep (balloc (bref _) _) hb1⟩
  · cases h2 : origB o
    · have HF := Lib.hid (show consR l o = (false, false) by simp [consR, h2])
      go_enter Tryz.func15, Tryz.ntmps15
      go_wp2_with (first | (go_at_call 27; (with_reducible refine (iLoc_any l _ _ _ (HR.out.below (balloc (bref _) _)) hlen).mono ?_); rw [h1]; rintro e w1 ⟨rfl, hb1⟩; obtain ⟨c0, c1, c2⟩ := cellOg (by simp) HB0.out hb1) | (go_at_call 41; (with_reducible refine (isOrigin_any o _).mono ?_); rw [h2]; rintro e w2 ⟨rfl, hb2⟩))
      go_ret2
      exact ⟨ret_bb HF.out, bstep (bstep (balloc (bref _) _) hb1) hb2⟩
    · have HF := Lib.hid (show consR l o = (decide ((l.filter fun a => fitB a o).length = l.length), true) by simp [consR, h1, h2])
      have HG := Lib.hid (goodAr_all (l := l) (by unfold locB at h1; rw [Bool.and_eq_true] at h1; exact h1.1))
      go_enter Tryz.func15, Tryz.ntmps15
      go_wp2_with (first | (go_at_call 27; (with_reducible refine (iLoc_any l _ _ _ (HR.out.below (balloc (bref _) _)) hlen).mono ?_); rw [h1]; rintro e w1 ⟨rfl, hb1⟩; obtain ⟨c0, c1, c2⟩ := cellOg (by simp) HB0.out hb1) | (go_at_call 41; (with_reducible refine (isOrigin_any o _).mono ?_); rw [h2]; rintro e w2 ⟨rfl, hb2⟩; obtain ⟨c0, c1, c2⟩ := cellOg (by simp) HB0.out (bstep hb1 hb2)) | (go_at_call 42; (with_reducible refine (voters_any l o _ _ _ h2 (HR.out.below (bstep (bstep (balloc (bref _) _) hb1) hb2)) hlen HG.out).mono ?_); rintro e w3 ⟨A3, c3, rfl, ho3, hb3⟩))
      go_ret2
      exact ⟨ret_bb (HF.out.trans (by rw [dec_beq])), bstep (bstep (bstep (balloc (bref _) _) hb1) hb2) hb3⟩
set_option maxRecDepth 100000 in
set_option maxHeartbeats 2000000 in
theorem sCons_any (l : List Ar) (o : Og) (A : Option Addr) (c : Nat) (w : World) (hr : RowAt 5 encAr w A l) (hlen : l.length ≤ 2097152) :
    Calls Tryz.prog 21 #[.slice A l.length c, .agg #[.int .i64 o.x, .int .i64 o.y, .int .i64 o.tk]] w fun e w' => e = .returned (.tuple #[.bool (consR l o).1, .bool (consR l o).2]) ∧ Below w.heap.size w w' := by
  have HR := Lib.hid hr
  have HB0 := Lib.hid (boxOg w 38 o)
  clear hr
  cases h1 : locB l
  · have HF := Lib.hid (show consR l o = (false, false) by simp [consR, h1])
    go_enter Tryz.func21, Tryz.ntmps21
    go_wp2_with (go_at_call 47; (with_reducible refine (sLoc_any l _ _ _ (HR.out.below (balloc (bref _) _)) hlen).mono ?_); rw [h1]; rintro e w1 ⟨rfl, hb1⟩)
    go_ret2
    exact ⟨ret_bb HF.out, bstep (balloc (bref _) _) hb1⟩
  · cases h2 : origB o
    · have HF := Lib.hid (show consR l o = (false, false) by simp [consR, h2])
      go_enter Tryz.func21, Tryz.ntmps21
      go_wp2_with (first | (go_at_call 47; (with_reducible refine (sLoc_any l _ _ _ (HR.out.below (balloc (bref _) _)) hlen).mono ?_); rw [h1]; rintro e w1 ⟨rfl, hb1⟩; obtain ⟨c0, c1, c2⟩ := cellOg (by simp) HB0.out hb1) | (go_at_call 49; (with_reducible refine (l10Origin_any o _).mono ?_); rw [h2]; rintro e w2 ⟨rfl, hb2⟩))
      go_ret2
      exact ⟨ret_bb HF.out, bstep (bstep (balloc (bref _) _) hb1) hb2⟩
    · have HF := Lib.hid (show consR l o = (decide ((l.filter fun a => fitB a o).length = l.length), true) by simp [consR, h1, h2])
      have HG := Lib.hid (goodAr_all (l := l) (by unfold locB at h1; rw [Bool.and_eq_true] at h1; exact h1.1))
      go_enter Tryz.func21, Tryz.ntmps21
      go_wp2_with (first | (go_at_call 47; (with_reducible refine (sLoc_any l _ _ _ (HR.out.below (balloc (bref _) _)) hlen).mono ?_); rw [h1]; rintro e w1 ⟨rfl, hb1⟩; obtain ⟨c0, c1, c2⟩ := cellOg (by simp) HB0.out hb1) | (go_at_call 49; (with_reducible refine (l10Origin_any o _).mono ?_); rw [h2]; rintro e w2 ⟨rfl, hb2⟩; obtain ⟨c0, c1, c2⟩ := cellOg (by simp) HB0.out (bstep hb1 hb2)) | (go_at_call 50; (with_reducible refine (l10Voters_any l o _ _ _ h2 (HR.out.below (bstep (bstep (balloc (bref _) _) hb1) hb2)) hlen HG.out).mono ?_); rintro e w3 ⟨A3, c3, rfl, hb3⟩))
      go_ret2
      exact ⟨ret_bb (HF.out.trans (by rw [dec_beq])), bstep (bstep (bstep (balloc (bref _) _) hb1) hb2) hb3⟩
end Go.Proofs.YtaobbkiepggafaaGreat
