/-
  The level of a cell, and how many people felt something in it: impl filters the reports and counts; spec counts level by level.
-/
import Derived.Test.YtjjinblahmcplaaFeFilter
import Derived.Test.YtjjinblahmcplaaFeCnt
import Derived.Test.YtjjinblahmcplaaApp
import Derived.Test.YtjjinblahmcplaaSum
import Derived.Test.YtjjinblahmcplaaKit
import Derived.Test.YtjjinblahmcplaaEq2
import Derived.Deep.RegionHeld3
namespace Go.Proofs.Ytjjinblahmcplaa
open Go.RowKit
attribute [local go_sem] ext_cell ext_frozen eq2_in eq2_guard

-- plain: which level most people felt
def stepB (c : Nat → Int) (s : Int × Int × Int) (i : Nat) : Int × Int × Int :=
  (if 0 < c i ∧ s.2.1 ≤ c i then (i : Int) + 1 else s.1, if 0 < c i ∧ s.2.1 ≤ c i then c i else s.2.1, if 1 ≤ i then s.2.2 + c i else s.2.2)
def spB (c : Nat → Int) : Nat → Int × Int × Int
  | 0 => (0, 0, 0)
  | k + 1 => stepB c (spB c k) k
theorem spB_succ (c : Nat → Int) (k : Nat) : spB c (k + 1) = stepB c (spB c k) k := rfl
def imB (c : Nat → Int) : Nat → Nat
  | 0 => 0
  | k + 1 => if c (imB c k) ≤ c k then k else imB c k
theorem imB_succ (c : Nat → Int) (k : Nat) : imB c (k + 1) = if c (imB c k) ≤ c k then k else imB c k := rfl
theorem imB_lt (c : Nat → Int) : ∀ k, imB c (k + 1) < k + 1
  | 0 => by rw [imB_succ]; split <;> simp [imB]
  | k + 1 => by
    have := imB_lt c (k + 1 - 1)
    rw [imB_succ]
    split <;> simp at * <;> omega
theorem sp_im (c : Nat → Int) (h0 : ∀ i, 0 ≤ c i) : ∀ k, (spB c (k + 1)).2.1 = c (imB c (k + 1)) ∧ (spB c (k + 1)).1 = (if 0 < c (imB c (k + 1)) then ((imB c (k + 1) : Nat) : Int) + 1 else 0) ∧ ∀ i, i ≤ k → c i ≤ c (imB c (k + 1))
  | 0 => by
    have := h0 0
    refine ⟨?_, ?_, ?_⟩
    · simp only [spB_succ, imB_succ, stepB]; simp [spB, imB]; omega
    · simp only [spB_succ, imB_succ, stepB]; simp [spB, imB]; split <;> simp_all
    · intro i hi
      obtain rfl : i = 0 := by omega
      simp [imB]
  | k + 1 => by
    obtain ⟨a, b, d⟩ := sp_im c h0 k
    have hk := h0 (k + 1)
    rw [spB_succ c (k + 1), imB_succ c (k + 1)]
    simp only [stepB, a, b]
    by_cases hc : c (imB c (k + 1)) ≤ c (k + 1)
    · rw [if_pos hc]
      refine ⟨?_, ?_, ?_⟩
      · have := h0 (imB c (k + 1)); split <;> omega
      · by_cases hp : 0 < c (k + 1)
        · simp [hp, hc]
        · have := h0 (imB c (k + 1))
          have h1 : ¬ 0 < c (imB c (k + 1)) := by omega
          simp [hp, h1]
      · intro i hi
        rcases Nat.lt_or_ge i (k + 1) with h | h
        · have := d i (by omega); omega
        · obtain rfl : i = k + 1 := by omega
          exact Int.le_refl _
    · rw [if_neg hc]
      refine ⟨?_, ?_, ?_⟩
      · simp [hc]
      · simp [hc]
      · intro i hi
        rcases Nat.lt_or_ge i (k + 1) with h | h
        · exact d i (by omega)
        · obtain rfl : i = k + 1 := by omega
          omega
def feltB (c : Nat → Int) (k : Nat) : Int := (spB c k).2.2

def inCell (size a b : Int) (f : Fe) : Bool := f.x / size == a && f.y / size == b
def cellsW (size a b : Int) (l : List Fe) : List Fe := l.filter (inCell size a b)

def levelL (l : List Fe) : Int := ((imB (cntL l) 12 : Nat) : Int) + 1
set_option maxRecDepth 100000 in
set_option maxHeartbeats 1000000 in
theorem level_any (l : List Fe) (A : Option Addr) (c : Nat) (w : World) (hr : RowAt 5 encFe w A l) (hlen : l.length ≤ 2097152) (hg : ∀ m ∈ l, oneFe m.id m.x m.y m.lv m.pp = true) :
    Calls Try.prog 80 #[.slice A l.length c] w fun e w' => e = .returned (.int .i64 (levelL l)) ∧ Below w.heap.size w w' := by
  have HR := Lib.hid hr
  have HG := Lib.hid hg
  clear hr hg
  go_enter Try.func80, Try.ntmps80
  go_wp2_with fail
  refine (people_any l _ _ _ HR.out hlen HG.out).mono ?_; rintro e w1 ⟨A1, c1, rfl, ho1, hb1⟩
  have HO := Lib.hid ho1
  clear ho1
  go_wp2_with fail
  go_loop [3, 11] (fun v i => ∃ k : Nat, k ≤ 12 ∧ i = .int .i64 k ∧ v = .int .i64 (imB (cntL l) k)) (fun _ i => 12 - (intOf i).toNat)
  case atStart => exact ⟨0, by decide, rfl, rfl⟩
  case round =>
    obtain ⟨k, hk, rfl, rfl⟩ := hrel
    by_cases hlt : k < 12
    · have hB : imB (cntL l) k < 12 := by
        rcases k with _ | k
        · simp [imB]
        · have := imB_lt (cntL l) k; omega
      obtain ⟨g, rfl⟩ : ∃ g, A1 = some ⟨g, 0, none⟩ := by
        rcases own_form HO.out with ⟨_, h, _⟩ | h
        · cases h
        · exact h
      have i0 := ib0 k
      have i1 : (k : Int) < 12 := by omega
      have j0 := ib0 (imB (cntL l) k)
      have j1 : (imB (cntL l) k : Int) < 12 := by omega
      have q0 := (HO.out.cellAt k (by omega)).trans ((flatI (countsL l)).symm ▸ countsL_get l hlt)
      have q1 := (HO.out.cellAt (imB (cntL l) k) (by omega)).trans ((flatI (countsL l)).symm ▸ countsL_get l hB)
      have HN := Lib.hid (imB_succ (cntL l) k)
      generalize imB (cntL l) k = B at *
      by_cases hc : cntL l B ≤ cntL l k
      · have HN2 := Lib.hid (HN.out.trans (if_pos hc))
        clear HN
        go_wp2
        go_round
        case rel => exact ⟨k + 1, by omega, by go_num, by rw [HN2.out]⟩
        case measure => simp [intOf]; omega
      · have HN2 := Lib.hid (HN.out.trans (if_neg hc))
        clear HN
        go_wp2
        go_round
        case rel => exact ⟨k + 1, by omega, by go_num, by rw [HN2.out]⟩
        case measure => simp [intOf]; omega
    · obtain rfl : k = 12 := by omega
      have hB : imB (cntL l) 12 < 12 := imB_lt (cntL l) 11
      have hB1 : ((imB (cntL l) 12 : Nat) : Int) ≤ 11 := by omega
      have hB0 := ib0 (imB (cntL l) 12)
      go_wp2
      go_ret
      exact ⟨rfl, hb1⟩

-- within: the reports of a cell
theorem cell_div (a s : Int) (h : 1 ≤ s) (ha : 0 ≤ a ∧ a ≤ 999) : 0 ≤ a / s ∧ a / s ≤ 999 := by
  refine ⟨Int.ediv_nonneg ha.1 (by omega), ?_⟩
  exact Int.le_trans (Int.ediv_le_self _ ha.1) ha.2

set_option maxRecDepth 100000 in
set_option maxHeartbeats 1000000 in
theorem cellFe_any (m : Fe) (size : Int) (w : World) (hm : oneFe m.id m.x m.y m.lv m.pp = true) (hs : 1 ≤ size ∧ size ≤ 500) :
    Calls Try.prog 92 #[.agg #[.int .i64 m.id, .int .i64 m.x, .int .i64 m.y, .int .i64 m.lv, .int .i64 m.pp], .int .i64 size] w fun e w' => e = .returned (.agg #[.int .i64 (m.x / size), .int .i64 (m.y / size)]) ∧ Below w.heap.size w w' := by
  obtain ⟨_, hx, hy, _, _⟩ := oneFe_bounds hm
  have d1 := cell_div _ _ hs.1 hx
  have d2 := cell_div _ _ hs.1 hy
  have hs0 : ¬ size = 0 := by omega
  have x0 := hx.1
  have y0 := hy.1
  have s1 := hs.1
  have wr : ∀ q : Int, 0 ≤ q ∧ q ≤ 999 → IntKind.i64.wrap q = q := fun q h => by simp [IntKind.wrap, IntKind.bits, IntKind.signed]; omega
  have e1 : IntKind.i64.wrap (m.x.tdiv size) = m.x / size := by rw [Int.tdiv_eq_ediv_of_nonneg x0]; exact wr _ d1
  have e2 : IntKind.i64.wrap (m.y.tdiv size) = m.y / size := by rw [Int.tdiv_eq_ediv_of_nonneg y0]; exact wr _ d2
  clear hm wr
  go_enter Try.func92, Try.ntmps92
  go_wp2_with fail
  go_region_held3 (fun w' => w'.cell? ⟨w.heap.size, 1, none⟩ = some (.int .i64 m.x) ∧ w'.cell? ⟨w.heap.size, 2, none⟩ = some (.int .i64 m.y)) (go_keep) (fail)
  all_goals go_wp2
  all_goals exact bodyPost_ret (v := .agg #[.int .i64 (m.x / size), .int .i64 (m.y / size)]) (by simp [results, Try.results92, go_sem, e1, e2]) rfl ⟨rfl, (by repeat (first | exact bref _ | (refine balloc ?_ _) | (refine bdrew ?_) | (refine bdrewN ?_ _) | (refine bstep ?_ (by assumption))))⟩

def eqC (a b : Int) : Value := .agg #[.int .i64 a, .int .i64 b]
set_option maxRecDepth 100000 in
set_option maxHeartbeats 1000000 in
theorem withinClos_any (size a b : Int) (m : Fe) (b1 b2 : Nat) (w : World) (hm : oneFe m.id m.x m.y m.lv m.pp = true) (hs : 1 ≤ size ∧ size ≤ 500)
    (c1 : w.cell? ⟨b1, 0, none⟩ = some (.int .i64 size)) (c2 : w.cell? ⟨b2, 0, none⟩ = some (.int .i64 a)) (c3 : w.cell? ⟨b2, 1, none⟩ = some (.int .i64 b)) :
    Calls Try.prog 106 #[.agg #[.int .i64 m.id, .int .i64 m.x, .int .i64 m.y, .int .i64 m.lv, .int .i64 m.pp], .pointer (some ⟨b1, 0, none⟩), .pointer (some ⟨b2, 0, none⟩)] w fun e w' => e = .returned (.bool (inCell size a b m)) ∧ Below w.heap.size w w' := by
  have l1 : b1 < w.heap.size := World.block_lt_of_cell? w ⟨b1, 0, none⟩ c1
  have l2 : b2 < w.heap.size := World.block_lt_of_cell? w ⟨b2, 0, none⟩ c2
  have HM := Lib.hid hm
  have HS := Lib.hid hs
  clear hm hs
  go_enter Try.func106, Try.ntmps106
  go_wp2_with fail
  (refine wp_region_calm (by kernel_rfl) (by kernel_rfl) ?_; (repeat (go_big_quiet_step (((go_at_call 92; exact calm_of (cellFe_any _ _ _ HM.out HS.out)))))); refine wpQuiet_nil ?_; intro xw; have hb1 := xw.is; generalize xw.w = w1 at hb1 ⊢; clear xw)
  go_wp2
  go_ret
  exact ⟨ret_bool (by simp [inCell]), bstep (balloc (bref _) _) hb1⟩

set_option maxRecDepth 100000 in
set_option maxHeartbeats 1000000 in
theorem within_any (l : List Fe) (A : Option Addr) (c : Nat) (size a b : Int) (w : World) (hr : RowAt 5 encFe w A l) (hlen : l.length ≤ 2097152) (hg : ∀ m ∈ l, oneFe m.id m.x m.y m.lv m.pp = true) (hs : 1 ≤ size ∧ size ≤ 500) :
    Calls Try.prog 79 #[.slice A l.length c, .int .i64 size, .agg #[.int .i64 a, .int .i64 b]] w (MkS 25 5 (cellsW size a b l).length ((cellsW size a b l).flatMap encFe) w) := by
  have hmf : ∀ (fn : Fn) (first cap : Array Value) (w : World), (Instr.makeFunc fn first cap).run Try.prog w = .ok (.func fn first cap) w := fun _ _ _ _ => rfl
  have HR := Lib.hid hr
  have HG := Lib.hid hg
  have HS := Lib.hid hs
  clear hr hg hs
  go_enter Try.func79, Try.ntmps79
  go_wp2_with fail
  refine (filterFe_any l _ _ _ _ (inCell size a b) (enters_of Try.func106 (by kernel_rfl) rfl) _ (HR.out.below (balloc (balloc (bref _) _) _)) hlen ?_).mono ?_
  · intro w1 hb1 m hm
    refine withinClos_any size a b m w.heap.size (w.heap.size + 1) w1 (HG.out m hm) HS.out ?_ ?_ ?_
    · exact (hb1.cell (p := ⟨w.heap.size, 0, none⟩) (by simp; omega)).trans (by simp [go_sem])
    · exact (hb1.cell (p := ⟨w.heap.size + 1, 0, none⟩) (by simp)).trans (by simp [go_sem])
    · exact (hb1.cell (p := ⟨w.heap.size + 1, 1, none⟩) (by simp)).trans (by simp [go_sem])
  · rintro e w1 ⟨A1, c1, rfl, ho1, hb1⟩
    have HO := Lib.hid ho1
    clear ho1 hmf HR HS HG
    go_wp2
    go_ret
    exact ⟨A1, c1, rfl, own_base HO.out (by simp; omega), (by repeat (first | exact bref _ | (refine balloc ?_ _) | (refine bdrew ?_) | (refine bdrewN ?_ _) | (refine bstep ?_ (by assumption))))⟩

theorem ret_ii {F : Int × Int} {a b : Int} (h : F = (a, b)) : Ending.returned (.tuple #[.int .i64 a, .int .i64 b]) = .returned (.tuple #[.int .i64 F.1, .int .i64 F.2]) := by rw [h]
theorem cellsW_all {size a b : Int} {l : List Fe} (h : ∀ m ∈ l, oneFe m.id m.x m.y m.lv m.pp = true) : ∀ m ∈ cellsW size a b l, oneFe m.id m.x m.y m.lv m.pp = true := fun m hm => h m (List.mem_filter.1 hm).1
theorem cellsW_le (size a b : Int) (l : List Fe) : (cellsW size a b l).length ≤ l.length := List.length_filter_le _ _
theorem cnt_bd {l : List Fe} (h : ∀ m ∈ l, oneFe m.id m.x m.y m.lv m.pp = true) (hl : l.length ≤ 12) (j : Nat) : 0 ≤ cntL l j ∧ cntL l j ≤ 12000 := by
  have := cntL_bd h j l.length (Nat.le_refl _)
  rw [List.take_length] at this
  omega
theorem sumI_bd {l : List Int} {B : Int} (hB : 0 ≤ B) (h : ∀ x ∈ l, 0 ≤ x ∧ x ≤ B) : ∀ k, k ≤ l.length → 0 ≤ sumI (l.take k) ∧ sumI (l.take k) ≤ k * B
  | 0, _ => by simp [sumI]
  | k + 1, hk => by
    have ih := sumI_bd hB h k (by omega)
    obtain ⟨m, hm⟩ := some_get (show k < l.length by omega)
    have h1 := h m (List.mem_of_getElem? hm)
    rw [sumI_succ hm]
    have : ((k + 1 : Nat) : Int) * B = k * B + B := by rw [Int.natCast_add, Int.add_mul]; simp
    omega
theorem counts_sum {l : List Fe} (h : ∀ m ∈ l, oneFe m.id m.x m.y m.lv m.pp = true) (hl : l.length ≤ 12) : ∀ k, k ≤ ((countsL l).drop 1).length → -1000000000000 ≤ sumI (((countsL l).drop 1).take k) ∧ sumI (((countsL l).drop 1).take k) ≤ 1000000000000 := fun k hk => by
  have h1 : ∀ x ∈ (countsL l).drop 1, 0 ≤ x ∧ x ≤ 12000 := fun x hx => by
    have := List.mem_of_mem_drop hx
    simp only [countsL, List.mem_map] at this
    obtain ⟨j, _, rfl⟩ := this
    exact cnt_bd h hl j
  have h2 := sumI_bd (by decide) h1 k hk
  have h3 : k ≤ 11 := by simpa [countsL_len] using hk
  have h4 : (k : Int) * 12000 ≤ 132000 := by omega
  omega
theorem sum_felt (c : Nat → Int) : sumI (((List.range 12).map c).drop 1) = (spB c 12).2.2 := by
  have : (List.range 12) = [0, 1, 2, 3, 4, 5, 6, 7, 8, 9, 10, 11] := by decide
  rw [this]
  simp [sumI, spB, stepB]
theorem sp_none (c : Nat → Int) (h : ∀ i, c i = 0) : ∀ k, spB c k = (0, 0, 0)
  | 0 => rfl
  | k + 1 => by rw [spB_succ, sp_none c h k]; simp [stepB, h]
def levelOfL (size a b : Int) (l : List Fe) : Int × Int × Bool :=
  if goodFe l && inB size 1 500 then (if cellsW size a b l = [] then (0, 0, false) else (levelL (cellsW size a b l), sumI ((countsL (cellsW size a b l)).drop 1), true)) else (0, 0, false)
theorem isSize_any (n : Int) (w : World) :
    Calls Try.prog 78 #[.int .i64 n] w fun e w' => e = .returned (.bool (inB n 1 500)) ∧ w = w' := by
  go_enter Try.func78, Try.ntmps78
  go_wp2_with (go_at_call 62; (with_reducible refine (in_any _ _ _ _).mono ?_); rintro e w' ⟨rfl, rfl⟩)
  go_ret
  exact ⟨rfl, rfl⟩
theorem l14Size_any (n : Int) (w : World) :
    Calls Try.prog 76 #[.int .i64 n] w fun e w' => e = .returned (.bool (inB n 1 500)) ∧ w = w' := by
  go_enter Try.func76, Try.ntmps76
  go_wp2_with (go_at_call 82; (with_reducible refine (l1In_any _ _ _ _).mono ?_); rintro e w' ⟨rfl, rfl⟩)
  go_ret
  exact ⟨rfl, rfl⟩

set_option maxRecDepth 100000 in
set_option maxHeartbeats 2000000 in
theorem iLevelOf_any (l : List Fe) (A : Option Addr) (c : Nat) (size a b : Int) (w : World) (hr : RowAt 5 encFe w A l) (hlen : l.length ≤ 2097152) :
    Calls Try.prog 36 #[.slice A l.length c, .int .i64 size, .int .i64 a, .int .i64 b] w fun e w' => e = .returned (.tuple #[.int .i64 (levelOfL size a b l).1, .int .i64 (levelOfL size a b l).2.1, .bool (levelOfL size a b l).2.2]) ∧ Below w.heap.size w w' := by
  have HR := Lib.hid hr
  clear hr
  cases hg : goodFe l <;> cases h2 : inB size 1 500
  case true.true =>
    have HE : levelOfL size a b l = if cellsW size a b l = [] then (0, 0, false) else (levelL (cellsW size a b l), sumI ((countsL (cellsW size a b l)).drop 1), true) := by simp [levelOfL, hg, h2]
    have HS := Lib.hid (inB_true h2)
    have HG := Lib.hid (goodFe_all hg)
    have H12 := goodFe_len hg
    by_cases hn : cellsW size a b l = []
    · have HL := Lib.hid (HE.trans (if_pos hn))
      have hn1 : (cellsW size a b l).length = 0 := by simp [hn]
      clear HE hn
      go_enter Try.func36, Try.ntmps36
      go_wp2_with (first | (go_at_call 21; (with_reducible refine (iAreFe_any l _ _ _ HR.out hlen).mono ?_); rintro e w1 ⟨rfl, hb1⟩; obtain ⟨hc_hb1, hf_hb1, hz_hb1⟩ := bcell (B := w.heap.size) (by first | omega | (simp; done) | (simp; omega)) hb1) | (go_at_call 78; (with_reducible refine (isSize_any _ _).mono ?_); rintro e w' ⟨rfl, rfl⟩) | (go_at_call 79; (with_reducible refine (within_any l _ _ size a b _ (HR.out.below hb1) hlen HG.out HS.out).mono ?_); rintro e w2 ⟨A2, c2, rfl, ho2, hb2⟩))
      go_ret3
      exact ⟨ret_iib HL.out, bstep hb1 hb2⟩
    · have HL := Lib.hid (HE.trans (if_neg hn))
      have hn1 : ¬ ((cellsW size a b l).length : Int) = 0 := by
        intro h
        exact hn (List.eq_nil_of_length_eq_zero (by omega))
      clear HE hn
      go_enter Try.func36, Try.ntmps36
      go_wp2_with (first | (go_at_call 21; (with_reducible refine (iAreFe_any l _ _ _ HR.out hlen).mono ?_); rintro e w1 ⟨rfl, hb1⟩; obtain ⟨hc_hb1, hf_hb1, hz_hb1⟩ := bcell (B := w.heap.size) (by first | omega | (simp; done) | (simp; omega)) hb1) | (go_at_call 78; (with_reducible refine (isSize_any _ _).mono ?_); rintro e w' ⟨rfl, rfl⟩) | (go_at_call 79; (with_reducible refine (within_any l _ _ size a b _ (HR.out.below hb1) hlen HG.out HS.out).mono ?_); rintro e w2 ⟨A2, c2, rfl, ho2, hb2⟩))
      have b2 := bstep hb1 hb2
      have HG2 := Lib.hid (cellsW_all (size := size) (a := a) (b := b) HG.out)
      have h12 := Nat.le_trans (cellsW_le size a b l) H12
      have HO := Lib.hid (RowAt.of_own ho2 encFe_len (by omega))
      clear ho2 hc_hb1 hf_hb1 hg h2 HG HR
      generalize cellsW size a b l = h at *
      refine (level_any h _ _ _ HO.out (by omega) HG2.out).mono ?_; rintro e w3 ⟨rfl, hb3⟩
      have b3 := bstep b2 hb3
      go_wp2_with fail
      refine (people_any h _ _ _ (HO.out.below hb3) (by omega) HG2.out).mono ?_; rintro e w4 ⟨A4, c4, rfl, ho4, hb4⟩
      have b4 := bstep b3 hb4
      have k4 := own_cap ho4
      obtain ⟨g, rfl⟩ : ∃ g, A4 = some ⟨g, 0, none⟩ := by
        rcases own_form ho4 with ⟨_, h, _⟩ | h
        · cases h
        · exact h
      have HP := Lib.hid ((RowAt.of_own ho4 encI_len (by omega)).drop1 1)
      clear ho4
      have n1 : (12 : Int) ≤ (c4 : Int) := by omega
      have n2 : ¬ c4 = 1 := by omega
      have hsum := fun c w (hr : RowAt 1 encI w (some ⟨g, 0 + 1, none⟩) ((countsL h).drop 1)) => sum_any ((countsL h).drop 1) (some ⟨g, 0 + 1, none⟩) c w hr (by simp [countsL_len]) (counts_sum HG2.out h12)
      have h11 : ((countsL h).drop 1).length = 11 := by simp [countsL_len]
      rw [h11] at hsum
      have HU := Lib.hid hsum
      clear hsum h11
      go_wp2_with fail
      refine (HU.out _ _ HP.out).mono ?_; rintro e w' ⟨rfl, rfl⟩
      go_wp2
      go_ret3
      exact ⟨ret_iib HL.out, b4⟩
  all_goals
    have e : levelOfL size a b l = (0, 0, false) := by simp [levelOfL, hg, h2]
    rw [e]
    clear e
    go_enter Try.func36, Try.ntmps36
    go_wp2_with (first | (go_at_call 21; (with_reducible refine (iAreFe_any l _ _ _ HR.out hlen).mono ?_); rintro e w1 ⟨rfl, hb1⟩; obtain ⟨hc_hb1, hf_hb1, hz_hb1⟩ := bcell (B := w.heap.size) (by first | omega | (simp; done) | (simp; omega)) hb1) | (go_at_call 78; (with_reducible refine (isSize_any _ _).mono ?_); rintro e w' ⟨rfl, rfl⟩))
    go_ret3
    exact ⟨rfl, hb1⟩

-- spec's loops
set_option maxRecDepth 100000 in
set_option maxHeartbeats 1000000 in
theorem l14In_any (m : Fe) (size a b : Int) (w : World) (hm : oneFe m.id m.x m.y m.lv m.pp = true) (hs : 1 ≤ size ∧ size ≤ 500) :
    Calls Try.prog 105 #[.agg #[.int .i64 m.id, .int .i64 m.x, .int .i64 m.y, .int .i64 m.lv, .int .i64 m.pp], .int .i64 size, .int .i64 a, .int .i64 b] w fun e w' => e = .returned (.bool (inCell size a b m)) ∧ Below w.heap.size w w' := by
  obtain ⟨_, hx, hy, _, _⟩ := oneFe_bounds hm
  have d1 := cell_div _ _ hs.1 hx
  have d2 := cell_div _ _ hs.1 hy
  have hs0 : ¬ size = 0 := by omega
  have x0 := hx.1
  have y0 := hy.1
  have s1 := hs.1
  clear hm
  cases h1 : (m.x / size == a)
  all_goals
    go_enter Try.func105, Try.ntmps105
    go_wp2
    go_ret
    exact ⟨ret_bool (by simp [inCell, h1]), (by repeat (first | exact bref _ | (refine balloc ?_ _) | (refine bdrew ?_) | (refine bdrewN ?_ _) | (refine bstep ?_ (by assumption))))⟩
theorem cnt_hit {size a b : Int} {l : List Fe} {j k : Nat} {m : Fe} (hm : l[j]? = some m) (h : inCell size a b m = true) : cntL (cellsW size a b (l.take (j + 1))) k = if m.lv = (k : Int) + 1 then cntL (cellsW size a b (l.take j)) k + m.pp else cntL (cellsW size a b (l.take j)) k := by
  unfold cellsW; rw [filter_hitFe hm h]; simp [cntL, List.foldl_append]
theorem cnt_miss {size a b : Int} {l : List Fe} {j k : Nat} {m : Fe} (hm : l[j]? = some m) (h : inCell size a b m = false) : cntL (cellsW size a b (l.take (j + 1))) k = cntL (cellsW size a b (l.take j)) k := by
  unfold cellsW; rw [filter_missFe hm h]
theorem cntW_bd {size a b : Int} {l : List Fe} (h : ∀ m ∈ l, oneFe m.id m.x m.y m.lv m.pp = true) (hl : l.length ≤ 12) (j k : Nat) : 0 ≤ cntL (cellsW size a b (l.take j)) k ∧ cntL (cellsW size a b (l.take j)) k ≤ 12000 :=
  cnt_bd (cellsW_all fun m hm => h m (List.mem_of_mem_take hm)) (Nat.le_trans (cellsW_le _ _ _ _) (Nat.le_trans (List.length_take_le' _ _) hl)) k
theorem spB_bd {c : Nat → Int} (h : ∀ i, 0 ≤ c i ∧ c i ≤ 12000) : ∀ k, (0 ≤ (spB c k).2.1 ∧ (spB c k).2.1 ≤ 12000) ∧ 0 ≤ (spB c k).2.2 ∧ (spB c k).2.2 ≤ 12000 * k
  | 0 => by simp [spB]
  | k + 1 => by
    have ih := spB_bd h k
    have := h k
    rw [spB_succ]
    simp only [stepB]
    refine ⟨?_, ?_⟩ <;> split <;> omega

set_option maxRecDepth 100000 in
set_option maxHeartbeats 4000000 in
theorem l14Cell_any (l : List Fe) (A : Option Addr) (c : Nat) (size a b : Int) (w : World) (hr : RowAt 5 encFe w A l) (hl12 : l.length ≤ 12) (hg : ∀ m ∈ l, oneFe m.id m.x m.y m.lv m.pp = true) (hs : 1 ≤ size ∧ size ≤ 500) :
    Calls Try.prog 77 #[.slice A l.length c, .int .i64 size, .int .i64 a, .int .i64 b] w fun e w' => e = .returned (.tuple #[.int .i64 (spB (cntL (cellsW size a b l)) 12).1, .int .i64 (spB (cntL (cellsW size a b l)) 12).2.2]) ∧ Below w.heap.size w w' := by
  have HR := Lib.hid hr
  have HG := Lib.hid hg
  have HS := Lib.hid hs
  clear hr hg hs
  go_enter Try.func77, Try.ntmps77
  go_wp2_with fail
  go_loopw [10, 11, 12, 13] (fun bv mv fv i wr => ∃ (k : Nat) (B M F : Int), k ≤ 12 ∧ i = .int .i64 ((k : Int) + 1) ∧ bv = .int .i64 B ∧ mv = .int .i64 M ∧ fv = .int .i64 F ∧ Hid (spB (cntL (cellsW size a b l)) k = (B, M, F)) ∧ Below w.heap.size w wr) (fun _ _ _ i _ => 13 - (intOf i).toNat)
  case atStart => exact ⟨0, 0, 0, 0, by decide, rfl, rfl, rfl, rfl, rfl, bref _⟩
  case round =>
    obtain ⟨k, B, M, F, hk, rfl, rfl, rfl, rfl, HB, hbr⟩ := hrel
    have i0 := ib0 k
    by_cases hlt : k < 12
    · have i1 : (k : Int) + 1 ≤ 12 := by omega
      obtain ⟨wo, rfl⟩ : ∃ wo : World, wo = wr := ⟨_, rfl⟩
      go_wp2_with fail
      go_loopw [14, 15] (fun nv i wr => ∃ (j : Nat) (N : Int), j ≤ l.length ∧ i = .int .i64 j ∧ nv = .int .i64 N ∧ Hid (N = cntL (cellsW size a b (l.take j)) k) ∧ Below w.heap.size w wr) (fun _ i _ => l.length - (intOf i).toNat)
      case atStart => exact ⟨0, 0, Nat.zero_le _, rfl, rfl, rfl, hbr⟩
      case round =>
        obtain ⟨j, N, hj, rfl, rfl, HN, hbr2⟩ := hrel
        by_cases hjl : j < l.length
        · obtain ⟨m, hm⟩ := some_get hjl
          have j0 := ib0 j
          have j1 := ib1 hjl
          obtain ⟨bb, off, rfl, hb, q0, q1, q2, q3, q4⟩ := (HR.out.below hbr2).fe hm
          have HM := Lib.hid (HG.out m (List.mem_of_getElem? hm))
          obtain ⟨_, _, _, hv, hp⟩ := oneFe_bounds HM.out
          have hbd := cntW_bd (size := size) (a := a) (b := b) HG.out hl12 j k
          rw [← HN.out] at hbd
          cases hc : inCell size a b m
          · have HN2 := Lib.hid (cnt_miss (k := k) hm hc)
            clear hm
            go_wp2_with (go_at_call 105; (with_reducible refine (l14In_any _ _ _ _ _ HM.out HS.out).mono ?_); rw [hc]; rintro e w1 ⟨rfl, hb1⟩)
            go_roundw
            case rel => exact ⟨j + 1, N, by omega, by go_num, rfl, Lib.hid (by rw [HN2.out]; exact HN.out), bstep hbr2 hb1⟩
            case measure => simp [intOf]; omega
          · have HN2 := Lib.hid (cnt_hit (k := k) hm hc)
            clear hm
            by_cases hq : m.lv = (k : Int) + 1
            · have HN3 := Lib.hid (HN2.out.trans (if_pos hq))
              have hq2 : (m.lv == (k : Int) + 1) = true := by simpa using hq
              clear HN2 hq
              go_wp2_with (go_at_call 105; (with_reducible refine (l14In_any _ _ _ _ _ HM.out HS.out).mono ?_); rw [hc]; rintro e w1 ⟨rfl, hb1⟩; obtain ⟨hc_1, _, hz_1⟩ := bcell (B := wr.heap.size) (Nat.le_refl _) hb1)
              go_roundw
              case rel => exact ⟨j + 1, N + m.pp, by omega, by go_num, rfl, Lib.hid (by rw [HN3.out, HN.out]), bstep hbr2 hb1⟩
              case measure => simp [intOf]; omega
            · have HN3 := Lib.hid (HN2.out.trans (if_neg hq))
              have hq2 : (m.lv == (k : Int) + 1) = false := by simpa using hq
              clear HN2 hq
              go_wp2_with (go_at_call 105; (with_reducible refine (l14In_any _ _ _ _ _ HM.out HS.out).mono ?_); rw [hc]; rintro e w1 ⟨rfl, hb1⟩; obtain ⟨hc_1, _, hz_1⟩ := bcell (B := wr.heap.size) (Nat.le_refl _) hb1)
              go_roundw
              case rel => exact ⟨j + 1, N, by omega, by go_num, rfl, Lib.hid (by rw [HN3.out]; exact HN.out), bstep hbr2 hb1⟩
              case measure => simp [intOf]; omega
        · obtain rfl : j = l.length := by omega
          have HN2 := Lib.hid (show N = cntL (cellsW size a b l) k by rw [HN.out, List.take_length])
          have hbd := cntW_bd (size := size) (a := a) (b := b) HG.out hl12 l.length k
          have hsb := spB_bd (c := cntL (cellsW size a b l)) (fun i => by have := cntW_bd (size := size) (a := a) (b := b) HG.out hl12 l.length i; rwa [List.take_length] at this) k
          rw [HB.out] at hsb
          dsimp only at hsb
          rw [List.take_length, ← HN2.out] at hbd
          have HS2 := Lib.hid (spB_succ (cntL (cellsW size a b l)) k)
          have HN3 := Lib.hid (show spB (cntL (cellsW size a b l)) (k + 1) = (if 0 < N ∧ M ≤ N then (k : Int) + 1 else B, if 0 < N ∧ M ≤ N then N else M, if 1 ≤ k then F + N else F) by rw [HS2.out]; simp only [stepB, HB.out, ← HN2.out])
          clear HN HS2 HN2
          by_cases h1 : 1 ≤ k
          · have h1i : (2 : Int) ≤ (k : Int) + 1 := by omega
            by_cases h2 : 0 < N
            · by_cases h3 : M ≤ N
              · have HN4 := Lib.hid (show spB (cntL (cellsW size a b l)) (k + 1) = ((k : Int) + 1, N, F + N) by rw [HN3.out]; simp [h1, h2, h3])
                clear HN3 h1
                go_wp2
                go_roundw
                case rel => exact ⟨k + 1, _, _, _, by omega, by go_num, rfl, rfl, rfl, HN4, hbr2⟩
                case measure => simp [intOf]; omega
              · have HN4 := Lib.hid (show spB (cntL (cellsW size a b l)) (k + 1) = (B, M, F + N) by rw [HN3.out]; simp [h1, h2, h3])
                clear HN3 h1
                go_wp2
                go_roundw
                case rel => exact ⟨k + 1, _, _, _, by omega, by go_num, rfl, rfl, rfl, HN4, hbr2⟩
                case measure => simp [intOf]; omega
            · have HN4 := Lib.hid (show spB (cntL (cellsW size a b l)) (k + 1) = (B, M, F + N) by rw [HN3.out]; simp [h1, h2])
              clear HN3 h1
              go_wp2
              go_roundw
              case rel => exact ⟨k + 1, _, _, _, by omega, by go_num, rfl, rfl, rfl, HN4, hbr2⟩
              case measure => simp [intOf]; omega
          · have h1i : ¬ (2 : Int) ≤ (k : Int) + 1 := by omega
            by_cases h2 : 0 < N
            · by_cases h3 : M ≤ N
              · have HN4 := Lib.hid (show spB (cntL (cellsW size a b l)) (k + 1) = ((k : Int) + 1, N, F) by rw [HN3.out]; simp [h1, h2, h3])
                clear HN3 h1
                go_wp2
                go_roundw
                case rel => exact ⟨k + 1, _, _, _, by omega, by go_num, rfl, rfl, rfl, HN4, hbr2⟩
                case measure => simp [intOf]; omega
              · have HN4 := Lib.hid (show spB (cntL (cellsW size a b l)) (k + 1) = (B, M, F) by rw [HN3.out]; simp [h1, h2, h3])
                clear HN3 h1
                go_wp2
                go_roundw
                case rel => exact ⟨k + 1, _, _, _, by omega, by go_num, rfl, rfl, rfl, HN4, hbr2⟩
                case measure => simp [intOf]; omega
            · have HN4 := Lib.hid (show spB (cntL (cellsW size a b l)) (k + 1) = (B, M, F) by rw [HN3.out]; simp [h1, h2])
              clear HN3 h1
              go_wp2
              go_roundw
              case rel => exact ⟨k + 1, _, _, _, by omega, by go_num, rfl, rfl, rfl, HN4, hbr2⟩
              case measure => simp [intOf]; omega
    · obtain rfl : k = 12 := by omega
      go_wp2
      go_ret2
      exact ⟨by rw [HB.out]; rfl, hbr⟩

theorem cell_pos {l : List Fe} (hg : ∀ m ∈ l, oneFe m.id m.x m.y m.lv m.pp = true) (hn : l ≠ []) : ∃ i, i < 12 ∧ 0 < cntL l i := by
  match l, hn with
  | m :: l, _ =>
    obtain ⟨_, _, _, hv, hp⟩ := oneFe_bounds (hg m (List.mem_cons_self))
    refine ⟨(m.lv - 1).toNat, by omega, ?_⟩
    have h1 : cntL (m :: l) (m.lv - 1).toNat = cntL ((m :: l).take 1) (m.lv - 1).toNat + (cntL (m :: l) (m.lv - 1).toNat - cntL ((m :: l).take 1) (m.lv - 1).toNat) := by omega
    have mono : ∀ (k : Nat) (t : List Fe), (∀ x ∈ t, oneFe x.id x.x x.y x.lv x.pp = true) → ∀ s : Int, s ≤ t.foldl (fun s f => if f.lv = (k : Int) + 1 then s + f.pp else s) s := by
      intro k t
      induction t with
      | nil => intro _ s; exact Int.le_refl _
      | cons x t ih =>
        intro hx s
        obtain ⟨_, _, _, _, hp⟩ := oneFe_bounds (hx x (List.mem_cons_self))
        simp only [List.foldl_cons]
        have := ih (fun y hy => hx y (List.mem_cons_of_mem _ hy)) (if x.lv = (k : Int) + 1 then s + x.pp else s)
        split at this <;> split <;> omega
    have h2 := mono (m.lv - 1).toNat l (fun x hx => hg x (List.mem_cons_of_mem _ hx)) m.pp
    have e : m.lv = ((m.lv - 1).toNat : Int) + 1 := by omega
    unfold cntL
    simp only [List.foldl_cons]
    rw [if_pos e]
    simp only [Int.zero_add]
    omega
theorem spec_level {size a b : Int} {l : List Fe} (hg : goodFe l = true) (hs : inB size 1 500 = true) :
    levelOfL size a b l = ((spB (cntL (cellsW size a b l)) 12).1, (spB (cntL (cellsW size a b l)) 12).2.2, decide ((spB (cntL (cellsW size a b l)) 12).1 > 0)) := by
  have hc := cellsW_all (size := size) (a := a) (b := b) (goodFe_all hg)
  have h12 := Nat.le_trans (cellsW_le size a b l) (goodFe_len hg)
  simp only [levelOfL, hg, hs, Bool.and_self, if_true]
  generalize cellsW size a b l = h at *
  by_cases hn : h = []
  · subst hn
    rw [if_pos rfl, sp_none (cntL []) (fun i => rfl) 12]
    simp
  · rw [if_neg hn]
    obtain ⟨i, hi, hp⟩ := cell_pos hc hn
    obtain ⟨_, h1, h2⟩ := sp_im (cntL h) (fun i => (cnt_bd hc h12 i).1) 11
    have h3 := h2 i (by omega)
    have hpos : 0 < cntL h (imB (cntL h) 12) := Int.lt_of_lt_of_le hp h3
    rw [if_pos hpos] at h1
    have h4 : (spB (cntL h) 12).1 = ((imB (cntL h) 12 : Nat) : Int) + 1 := h1
    rw [h4]
    have h5 : sumI ((countsL h).drop 1) = (spB (cntL h) 12).2.2 := sum_felt (cntL h)
    rw [h5]
    have h6 : decide (((imB (cntL h) 12 : Nat) : Int) + 1 > 0) = true := decide_eq_true (by omega)
    rw [h6]
    rfl

set_option maxRecDepth 100000 in
set_option maxHeartbeats 2000000 in
theorem sLevelOf_any (l : List Fe) (A : Option Addr) (c : Nat) (size a b : Int) (w : World) (hr : RowAt 5 encFe w A l) (hlen : l.length ≤ 2097152) :
    Calls Try.prog 35 #[.slice A l.length c, .int .i64 size, .int .i64 a, .int .i64 b] w fun e w' => e = .returned (.tuple #[.int .i64 (levelOfL size a b l).1, .int .i64 (levelOfL size a b l).2.1, .bool (levelOfL size a b l).2.2]) ∧ Below w.heap.size w w' := by
  have HR := Lib.hid hr
  clear hr
  cases hg : goodFe l <;> cases h2 : inB size 1 500
  case true.true =>
    rw [spec_level hg h2]
    have HS := Lib.hid (inB_true h2)
    have HG := Lib.hid (goodFe_all hg)
    have H12 := goodFe_len hg
    go_enter Try.func35, Try.ntmps35
    go_wp2_with (first | (go_at_call 64; (with_reducible refine (sgoodFe_any l _ _ _ HR.out hlen).mono ?_); rintro e w1 ⟨rfl, hb1⟩; obtain ⟨hc_hb1, hf_hb1, hz_hb1⟩ := bcell (B := w.heap.size) (by first | omega | (simp; done) | (simp; omega)) hb1) | (go_at_call 76; (with_reducible refine (l14Size_any _ _).mono ?_); rintro e w' ⟨rfl, rfl⟩) | (go_at_call 77; (with_reducible refine (l14Cell_any l _ _ size a b _ (HR.out.below hb1) H12 HG.out HS.out).mono ?_); rintro e w2 ⟨rfl, hb2⟩))
    go_ret3
    exact ⟨rfl, bstep hb1 hb2⟩
  all_goals
    have e : levelOfL size a b l = (0, 0, false) := by simp [levelOfL, hg, h2]
    rw [e]
    clear e
    go_enter Try.func35, Try.ntmps35
    go_wp2_with (first | (go_at_call 64; (with_reducible refine (sgoodFe_any l _ _ _ HR.out hlen).mono ?_); rintro e w1 ⟨rfl, hb1⟩; obtain ⟨hc_hb1, hf_hb1, hz_hb1⟩ := bcell (B := w.heap.size) (by first | omega | (simp; done) | (simp; omega)) hb1) | (go_at_call 76; (with_reducible refine (l14Size_any _ _).mono ?_); rintro e w' ⟨rfl, rfl⟩))
    go_ret3
    exact ⟨rfl, hb1⟩
end Go.Proofs.Ytjjinblahmcplaa
