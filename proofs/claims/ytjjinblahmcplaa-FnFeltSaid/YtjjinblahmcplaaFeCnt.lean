/-
  How many people felt each level: impl and spec fill one row of twelve.
-/
import Derived.Test.YtjjinblahmcplaaFeCen
import Derived.Test.YtjjinblahmcplaaInts1
namespace Go.Proofs.Ytjjinblahmcplaa
open Go.RowKit
attribute [local go_sem] ext_cell ext_frozen

theorem flatI (l : List Int) : l.flatMap encI = l.map (Value.int .i64) := by
  induction l with
  | nil => rfl
  | cons n l ih => rw [List.flatMap_cons, ih]; rfl
def cntL (l : List Fe) (j : Nat) : Int := l.foldl (fun s f => if f.lv = (j : Int) + 1 then s + f.pp else s) 0
def countsL (l : List Fe) : List Int := (List.range 12).map (cntL l)
theorem countsL_len (l : List Fe) : (countsL l).length = 12 := by simp [countsL]
theorem cntL_succ {l : List Fe} {k j : Nat} {m : Fe} (hm : l[k]? = some m) : cntL (l.take (k + 1)) j = if m.lv = (j : Int) + 1 then cntL (l.take k) j + m.pp else cntL (l.take k) j := by
  unfold cntL
  rw [List.take_add_one, hm]
  simp [List.foldl_append]
theorem cntL_bd {l : List Fe} (hg : ∀ m ∈ l, oneFe m.id m.x m.y m.lv m.pp = true) (j : Nat) : ∀ k, k ≤ l.length → 0 ≤ cntL (l.take k) j ∧ cntL (l.take k) j ≤ 1000 * k
  | 0, _ => by simp [cntL]
  | k + 1, h => by
    have ih := cntL_bd hg j k (by omega)
    obtain ⟨m, hm⟩ := some_get (show k < l.length by omega)
    obtain ⟨_, _, _, _, hp⟩ := oneFe_bounds (hg m (List.mem_of_getElem? hm))
    rw [cntL_succ hm]
    split <;> omega
theorem countsL_succ {l : List Fe} {k j : Nat} {m : Fe} (hm : l[k]? = some m) (hj : m.lv = (j : Int) + 1) : countsL (l.take (k + 1)) = (countsL (l.take k)).set j (cntL (l.take k) j + m.pp) := by
  apply List.ext_getElem?
  intro i
  rw [List.getElem?_set]
  unfold countsL
  by_cases hi : i < 12
  · rw [List.getElem?_map, List.getElem?_map, List.getElem?_range hi]
    simp only [Option.map_some, List.length_map, List.length_range]
    rw [cntL_succ hm]
    by_cases e : j = i
    · subst e; simp [hj, hi]
    · simp [e]; omega
  · simp [hi]
    omega
theorem countsL_get (l : List Fe) {j : Nat} (h : j < 12) : ((countsL l).map (Value.int .i64))[j]? = some (.int .i64 (cntL l j)) := by simp [countsL, h]

set_option maxRecDepth 100000 in
set_option maxHeartbeats 2000000 in
theorem people_any (l : List Fe) (A : Option Addr) (c : Nat) (w : World) (hr : RowAt 5 encFe w A l) (hlen : l.length ≤ 2097152) (hg : ∀ m ∈ l, oneFe m.id m.x m.y m.lv m.pp = true) :
    Calls Try.prog 75 #[.slice A l.length c] w (MkS 3 1 12 ((countsL l).flatMap encI) w) := by
  obtain ⟨i0, hi0, hz0, hz1, hz2⟩ := info_parts infoI
  have hmk := fun W => run_make_rowN (P := Try.prog) 42 3 i0 _ Try.underlying42 hi0 hz0 .i64 .i64 12 12 (Nat.le_refl _) (by rw [hz2]; omega) (by omega) W
  rw [hz1] at hmk
  simp only [Int.cast_ofNat_Int] at hmk
  have hcur : (madeCells (Value.int .i64 0).cells (12 * 1)).toList = (countsL (l.take 0)).map (Value.int .i64) := by
    rw [show (Value.int .i64 0).cells = #[.int .i64 0] from rfl, toList_madeCells_one]; rfl
  have hz := size_madeCells (Value.int .i64 0).cells (12 * 1)
  generalize madeCells (Value.int .i64 0).cells (12 * 1) = cur at hmk hz hcur
  clear hi0 hz0 hz1 hz2 i0
  have HR := Lib.hid hr
  have HG := Lib.hid hg
  have HC := Lib.hid hcur
  have HZ := Lib.hid hz
  clear hr hg hcur hz
  go_enter Try.func75, Try.ntmps75
  go_wp2_with fail
  clear hmk
  go_loopw [9] (fun i wr => ∃ k : Nat, k ≤ l.length ∧ i = .int .i64 k ∧ Below w.heap.size w wr ∧ wr.ownsRow w.heap.size 3 1 (.slice (some ⟨w.heap.size, 0, none⟩) 12 12) 12 ((countsL (l.take k)).map (Value.int .i64))) (fun i _ => l.length - (intOf i).toNat)
  case atStart => exact ⟨0, Nat.zero_le _, rfl, balloc (bref _) _, by rw [← HC.out]; exact own_made (by rw [HZ.out]) (by decide)⟩
  case round =>
    obtain ⟨k, hk, rfl, hbr, hown⟩ := hrel
    by_cases hlt : k < l.length
    · obtain ⟨m, hm⟩ := some_get hlt
      have i0 := ib0 k
      have i1 := ib1 hlt
      obtain ⟨b, off, rfl, hb, q0, q1, q2, q3, q4⟩ := (HR.out.below hbr).fe hm
      obtain ⟨_, _, _, hv, hp⟩ := oneFe_bounds (HG.out m (List.mem_of_getElem? hm))
      obtain ⟨j, hj⟩ : ∃ j : Nat, m.lv = (j : Int) + 1 := ⟨(m.lv - 1).toNat, by omega⟩
      have hj12 : j < 12 := by omega
      have j0 := ib0 j
      have j1 : (j : Int) < 12 := by omega
      have s0 := (hown.cellAt j (by omega)).trans (countsL_get _ hj12)
      have f0 := hown.frozenAt j
      have hbd := cntL_bd HG.out j k hk
      have hsz : w.heap.size < wr.heap.size := (hown.lt _ rfl).2
      have HN := Lib.hid (countsL_succ hm hj)
      have HO := Lib.hid hown
      rw [hj] at q3
      clear hm hown hv
      go_wp2_with fail
      go_region
      all_goals go_wp2
      go_roundw
      case rel => exact ⟨k + 1, by omega, by go_num, bdrew (balloc (bset hbr (by simp) _) _), by rw [HN.out, List.map_set]; exact own_below (((HO.out.stored j _).1).alloc _) (bdrew (bref _))⟩
      case measure => simp [intOf]; omega
    · obtain rfl : k = l.length := by omega
      have HO := Lib.hid hown
      clear hown
      go_wp2
      go_ret
      exact ⟨_, _, rfl, by rw [flatI]; simpa using HO.out, hbr⟩

def lcntL (l : List Fe) : List Int := if goodFe l then countsL l else []
theorem lcntL_le (l : List Fe) : (lcntL l).length ≤ 12 := by
  unfold lcntL; split
  · simp [countsL_len]
  · simp
theorem goodFe_all {l : List Fe} (h : goodFe l = true) : ∀ m ∈ l, oneFe m.id m.x m.y m.lv m.pp = true := fun m hm => by
  obtain ⟨i, hi⟩ := List.mem_iff_getElem?.1 hm
  exact goodFe_one h hi

set_option maxHeartbeats 1000000 in
theorem iCnt_any (l : List Fe) (A : Option Addr) (c : Nat) (w : World) (hr : RowAt 5 encFe w A l) (hlen : l.length ≤ 2097152) :
    Calls Try.prog 30 #[.slice A l.length c] w (MkS2 3 1 (lcntL l).length ((lcntL l).flatMap encI) (goodFe l) w) := by
  have HR := Lib.hid hr
  clear hr
  cases hg : goodFe l
  · have e : lcntL l = [] := by simp [lcntL, hg]
    rw [e]
    clear e
    go_enter Try.func30, Try.ntmps30
    go_wp2_with (go_at_call 21; (with_reducible refine (iAreFe_any l _ _ _ HR.out hlen).mono ?_); rintro e w1 ⟨rfl, hb1⟩; obtain ⟨hc_hb1, hf_hb1, hz_hb1⟩ := bcell (B := w.heap.size) (by first | omega | (simp; done) | (simp; omega)) hb1)
    go_ret2
    exact ⟨none, 0, rfl, World.ownsRow_nil _ _ _ _, hb1⟩
  · have e : lcntL l = countsL l := by simp [lcntL, hg]
    rw [e]
    clear e
    rw [countsL_len]
    have HG := Lib.hid hg
    go_enter Try.func30, Try.ntmps30
    go_wp2_with (first | (go_at_call 21; (with_reducible refine (iAreFe_any l _ _ _ HR.out hlen).mono ?_); rintro e w1 ⟨rfl, hb1⟩; obtain ⟨hc_hb1, hf_hb1, hz_hb1⟩ := bcell (B := w.heap.size) (by first | omega | (simp; done) | (simp; omega)) hb1) | (go_at_call 75; (with_reducible refine (people_any l _ _ _ (HR.out.below hb1) hlen (goodFe_all HG.out)).mono ?_); rintro e w2 ⟨A2, c2, rfl, ho2, hb2⟩; have HO := Lib.hid ho2; clear ho2))
    go_ret2
    exact ⟨A2, c2, rfl, own_base HO.out hb1.size, bstep hb1 hb2⟩

set_option maxRecDepth 100000 in
set_option maxHeartbeats 2000000 in
theorem sCnt_any (l : List Fe) (A : Option Addr) (c : Nat) (w : World) (hr : RowAt 5 encFe w A l) (hlen : l.length ≤ 2097152) :
    Calls Try.prog 29 #[.slice A l.length c] w (MkS2 3 1 (lcntL l).length ((lcntL l).flatMap encI) (goodFe l) w) := by
  have HR := Lib.hid hr
  clear hr
  cases hg : goodFe l
  · have e : lcntL l = [] := by simp [lcntL, hg]
    rw [e]
    clear e
    go_enter Try.func29, Try.ntmps29
    go_wp2_with (go_at_call 64; (with_reducible refine (sgoodFe_any l _ _ _ HR.out hlen).mono ?_); rintro e w1 ⟨rfl, hb1⟩; obtain ⟨hc_hb1, hf_hb1, hz_hb1⟩ := bcell (B := w.heap.size) (by first | omega | (simp; done) | (simp; omega)) hb1)
    go_ret2
    exact ⟨some ⟨w1.heap.size, 0, none⟩, 0, rfl, own_base (own_made (cur := #[]) rfl (Nat.zero_le _)) hb1.size, balloc hb1 _⟩
  · have e : lcntL l = countsL l := by simp [lcntL, hg]
    rw [e]
    clear e
    rw [countsL_len]
    have HG := Lib.hid (goodFe_all hg)
    obtain ⟨i0, hi0, hz0, hz1, hz2⟩ := info_parts infoI
    have hmk := fun W => run_make_rowN (P := Try.prog) 42 3 i0 _ Try.underlying42 hi0 hz0 .i64 .i64 12 12 (Nat.le_refl _) (by rw [hz2]; omega) (by omega) W
    rw [hz1] at hmk
    simp only [Int.cast_ofNat_Int] at hmk
    have hcur : (madeCells (Value.int .i64 0).cells (12 * 1)).toList = (countsL (l.take 0)).map (Value.int .i64) := by
      rw [show (Value.int .i64 0).cells = #[.int .i64 0] from rfl, toList_madeCells_one]; rfl
    have hz := size_madeCells (Value.int .i64 0).cells (12 * 1)
    generalize madeCells (Value.int .i64 0).cells (12 * 1) = cur at hmk hz hcur
    clear hi0 hz0 hz1 hz2 i0
    have HC := Lib.hid hcur
    have HZ := Lib.hid hz
    clear hcur hz
    go_enter Try.func29, Try.ntmps29
    go_wp2_with (go_at_call 64; (with_reducible refine (sgoodFe_any l _ _ _ HR.out hlen).mono ?_); rintro e w1 ⟨rfl, hb1⟩; obtain ⟨hc_hb1, hf_hb1, hz_hb1⟩ := bcell (B := w.heap.size) (by first | omega | (simp; done) | (simp; omega)) hb1)
    clear hmk hc_hb1 hf_hb1 hg
    go_loopw [5] (fun i wr => ∃ k : Nat, k ≤ l.length ∧ i = .int .i64 k ∧ Below w.heap.size w wr ∧ wr.ownsRow w1.heap.size 3 1 (.slice (some ⟨w1.heap.size, 0, none⟩) 12 12) 12 ((countsL (l.take k)).map (Value.int .i64))) (fun i _ => l.length - (intOf i).toNat)
    case atStart => exact ⟨0, Nat.zero_le _, rfl, balloc hb1 _, by rw [← HC.out]; exact own_made (by rw [HZ.out]) (by decide)⟩
    case round =>
      obtain ⟨k, hk, rfl, hbr, hown⟩ := hrel
      by_cases hlt : k < l.length
      · obtain ⟨m, hm⟩ := some_get hlt
        have i0 := ib0 k
        have i1 := ib1 hlt
        obtain ⟨b, off, rfl, hb, q0, q1, q2, q3, q4⟩ := (HR.out.below hbr).fe hm
        obtain ⟨_, _, _, hv, hp⟩ := oneFe_bounds (HG.out m (List.mem_of_getElem? hm))
        obtain ⟨j, hj⟩ : ∃ j : Nat, m.lv = (j : Int) + 1 := ⟨(m.lv - 1).toNat, by omega⟩
        have hj12 : j < 12 := by omega
        have j0 := ib0 j
        have j1 : (j : Int) < 12 := by omega
        have s0 := (hown.cellAt j (by omega)).trans (countsL_get _ hj12)
        have f0 := hown.frozenAt j
        have hbd := cntL_bd HG.out j k hk
        have hsz : w1.heap.size < wr.heap.size := (hown.lt _ rfl).2
        have HN := Lib.hid (countsL_succ hm hj)
        have HO := Lib.hid hown
        rw [hj] at q3
        clear hm hown hv
        go_wp2_with fail
        go_region
        all_goals go_wp2
        go_roundw
        case rel => exact ⟨k + 1, by omega, by go_num, bdrew (bset hbr (by simpa using hz_hb1) _), by rw [HN.out, List.map_set]; exact own_below ((HO.out.stored j _).1) (bdrew (bref _))⟩
        case measure => simp [intOf]; omega
      · obtain rfl : k = l.length := by omega
        have HO := Lib.hid hown
        clear hown
        go_wp2
        go_ret2
        exact ⟨_, _, rfl, by rw [flatI]; simpa using own_base HO.out hz_hb1, hbr⟩
end Go.Proofs.Ytjjinblahmcplaa
