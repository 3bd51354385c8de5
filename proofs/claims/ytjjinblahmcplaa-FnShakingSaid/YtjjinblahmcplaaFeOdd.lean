/-
  The reports whose level differs from all others near them: impl filters, spec counts.
-/
import Derived.Test.YtjjinblahmcplaaFeAll
import Derived.Test.YtjjinblahmcplaaFeFilter
import Derived.Test.YtjjinblahmcplaaFeRad
import Derived.Test.YtjjinblahmcplaaFeCnt
import Derived.Test.YtjjinblahmcplaaFeMax
import Derived.Test.YtjjinblahmcplaaInts1
import Derived.Test.YtjjinblahmcplaaKit
namespace Go.Proofs.Ytjjinblahmcplaa
open Go.RowKit
attribute [local go_sem] ext_cell ext_frozen

def absI (n : Int) : Int := if 0 ≤ n then n else -n
def nearB (n : Int) (f g : Fe) : Bool := decide ((f.x - g.x) * (f.x - g.x) + (f.y - g.y) * (f.y - g.y) ≤ n * n)
def p1 (n : Int) (f g : Fe) : Bool := g.id != f.id && nearB n f g
def p2 (s : Int) (f g : Fe) : Bool := decide (s < absI (f.lv - g.lv))
def oddB (n s : Int) (l : List Fe) (f : Fe) : Bool := !(l.filter (p1 n f)).isEmpty && (l.filter (p1 n f)).all (p2 s f)
def someN (n : Int) (f : Fe) (l : List Fe) : Nat := (l.filter (p1 n f)).length
def likeN (n s : Int) (f : Fe) (l : List Fe) : Nat := (l.filter (fun g => p1 n f g && !p2 s f g)).length
theorem odd_count (n s : Int) (l : List Fe) (f : Fe) : oddB n s l f = (decide (0 < someN n f l) && decide (likeN n s f l = 0)) := by
  unfold oddB someN likeN
  congr 1
  · cases l.filter (p1 n f) <;> simp
  · rw [Bool.eq_iff_iff, decide_eq_true_iff, List.length_eq_zero_iff, List.filter_eq_nil_iff, List.all_eq_true]
    constructor
    · intro h g hg hc
      rw [Bool.and_eq_true] at hc
      have := h g (List.mem_filter.2 ⟨hg, hc.1⟩)
      simp [this] at hc
    · intro h g hg
      obtain ⟨h1, h2⟩ := List.mem_filter.1 hg
      have := h g h1
      simpa [h2] using this
set_option maxHeartbeats 400000 in
theorem abs_any (n : Int) (w : World) (hn : -1000000 ≤ n ∧ n ≤ 1000000) :
    Calls Try.prog 87 #[.int .i64 n] w fun e w' => e = .returned (.int .i64 (absI n)) ∧ w = w' := by
  by_cases h : 0 ≤ n
  all_goals
    go_enter Try.func87, Try.ntmps87
    go_wp2
    go_ret
    exact ⟨ret_int (by simp [absI, h] <;> omega), rfl⟩

set_option maxRecDepth 100000 in
set_option maxHeartbeats 2000000 in
theorem oddClos1_any (n : Int) (f g : Fe) (b1 b2 : Nat) (w : World) (hf : oneFe f.id f.x f.y f.lv f.pp = true) (hg : oneFe g.id g.x g.y g.lv g.pp = true) (hn : 0 ≤ n ∧ n ≤ 500)
    (c0 : w.cell? ⟨b1, 0, none⟩ = some (.int .i64 f.id)) (c1 : w.cell? ⟨b1, 1, none⟩ = some (.int .i64 f.x)) (c2 : w.cell? ⟨b1, 2, none⟩ = some (.int .i64 f.y)) (d0 : w.cell? ⟨b2, 0, none⟩ = some (.int .i64 n)) :
    Calls Try.prog 84 #[.agg #[.int .i64 g.id, .int .i64 g.x, .int .i64 g.y, .int .i64 g.lv, .int .i64 g.pp], .pointer (some ⟨b1, 0, none⟩), .pointer (some ⟨b2, 0, none⟩)] w fun e w' => e = .returned (.bool (p1 n f g)) ∧ Below w.heap.size w w' := by
  have l1 : b1 < w.heap.size := World.block_lt_of_cell? w ⟨b1, 0, none⟩ c0
  have l2 : b2 < w.heap.size := World.block_lt_of_cell? w ⟨b2, 0, none⟩ d0
  obtain ⟨_, fx, fy, _, _⟩ := oneFe_bounds hf
  obtain ⟨_, gx, gy, _, _⟩ := oneFe_bounds hg
  clear hf hg
  have hn2 := sq_bd (d := n) (by omega)
  have hx : -999 ≤ f.x - g.x ∧ f.x - g.x ≤ 999 := by omega
  have hy : -999 ≤ f.y - g.y ∧ f.y - g.y ≤ 999 := by omega
  have hx2 := sq_bd hx
  have hy2 := sq_bd hy
  have HX := Lib.hid hx
  have HY := Lib.hid hy
  cases hq : (g.id != f.id)
  · go_enter Try.func84, Try.ntmps84
    go_wp2_with fail
    (refine wp_region_calm (by kernel_rfl) (by kernel_rfl) ?_; (repeat (go_big_quiet_step ((fail)))); refine wpQuiet_nil ?_; intro xw; have hb1 := xw.is; generalize xw.w = w1 at hb1 ⊢; clear xw)
    go_wp2
    go_ret
    exact ⟨ret_bool (by simp only [p1, hq]; rfl), bstep (balloc (bref _) _) hb1⟩
  · go_enter Try.func84, Try.ntmps84
    go_wp2_with fail
    (refine wp_region_calm (by kernel_rfl) (by kernel_rfl) ?_; (repeat (go_big_quiet_step (((go_at_call 69; exact calm_same (square_any _ _ _ HX.out HY.out)))))); refine wpQuiet_nil ?_; intro xw; have hb1 := xw.is; generalize xw.w = w1 at hb1 ⊢; clear xw)
    go_wp2
    go_ret
    exact ⟨ret_bool (by simp only [p1, hq, nearB]; simp), bstep (balloc (bref _) _) hb1⟩
set_option maxRecDepth 100000 in
set_option maxHeartbeats 2000000 in
theorem oddClos2_any (s : Int) (f g : Fe) (b1 b2 : Nat) (w : World) (hf : oneFe f.id f.x f.y f.lv f.pp = true) (hg : oneFe g.id g.x g.y g.lv g.pp = true) (hs : 0 ≤ s ∧ s ≤ 11)
    (c3 : w.cell? ⟨b1, 3, none⟩ = some (.int .i64 f.lv)) (d0 : w.cell? ⟨b2, 0, none⟩ = some (.int .i64 s)) :
    Calls Try.prog 86 #[.agg #[.int .i64 g.id, .int .i64 g.x, .int .i64 g.y, .int .i64 g.lv, .int .i64 g.pp], .pointer (some ⟨b1, 0, none⟩), .pointer (some ⟨b2, 0, none⟩)] w fun e w' => e = .returned (.bool (p2 s f g)) ∧ Below w.heap.size w w' := by
  have l1 : b1 < w.heap.size := World.block_lt_of_cell? w ⟨b1, 3, none⟩ c3
  have l2 : b2 < w.heap.size := World.block_lt_of_cell? w ⟨b2, 0, none⟩ d0
  obtain ⟨_, _, _, fv, _⟩ := oneFe_bounds hf
  obtain ⟨_, _, _, gv, _⟩ := oneFe_bounds hg
  clear hf hg
  go_enter Try.func86, Try.ntmps86
  go_wp2_with fail
  (refine wp_region_calm (by kernel_rfl) (by kernel_rfl) ?_; (repeat (go_big_quiet_step (((go_at_call 87; exact calm_same (abs_any _ _ (by omega))))))); refine wpQuiet_nil ?_; intro xw; have hb1 := xw.is; generalize xw.w = w1 at hb1 ⊢; clear xw)
  go_wp2
  go_ret
  exact ⟨ret_bool (by simp [p2]), bstep (balloc (bref _) _) hb1⟩

def oddL (n s : Int) (l : List Fe) : List Int := (l.filter (oddB n s l)).map Fe.id
def oddAt (n s : Int) (l : List Fe) (k : Nat) : List Int := ((l.take k).filter (oddB n s l)).map Fe.id
theorem oddAt_hit {n s : Int} {l : List Fe} {k : Nat} {m : Fe} (hm : l[k]? = some m) (h : oddB n s l m = true) : oddAt n s l (k + 1) = oddAt n s l k ++ [m.id] := by
  unfold oddAt; rw [filter_hitFe hm h]; simp
theorem oddAt_miss {n s : Int} {l : List Fe} {k : Nat} {m : Fe} (hm : l[k]? = some m) (h : oddB n s l m = false) : oddAt n s l (k + 1) = oddAt n s l k := by
  unfold oddAt; rw [filter_missFe hm h]
def oddOK (n s : Int) (l : List Fe) : Bool := goodFe l && inB n 0 500 && inB s 0 11
def oddRes (n s : Int) (l : List Fe) : List Int := if oddOK n s l then oddL n s l else []
theorem oddRes_le (n s : Int) (l : List Fe) : (oddRes n s l).length ≤ l.length := by
  unfold oddRes oddL; split
  · simpa using List.length_filter_le _ _
  · simp

set_option maxRecDepth 100000 in
set_option maxHeartbeats 4000000 in
theorem iOdd_any (l : List Fe) (A : Option Addr) (c : Nat) (n s : Int) (w : World) (hr : RowAt 5 encFe w A l) (hlen : l.length ≤ 2097152) :
    Calls Try.prog 38 #[.slice A l.length c, .int .i64 n, .int .i64 s] w (MkS2 3 1 (oddRes n s l).length ((oddRes n s l).flatMap encI) (oddOK n s l) w) := by
  have hmf : ∀ (fn : Fn) (first cap : Array Value) (w : World), (Instr.makeFunc fn first cap).run Try.prog w = .ok (.func fn first cap) w := fun _ _ _ _ => rfl
  have HR := Lib.hid hr
  clear hr
  cases hg : goodFe l <;> cases h2 : inB n 0 500 <;> cases h3 : inB s 0 11
  case true.true.true =>
    have hok : oddOK n s l = true := by simp [oddOK, hg, h2, h3]
    have HE := Lib.hid (show oddRes n s l = oddL n s l by simp [oddRes, hok])
    rw [hok]
    clear hok
    have HG := Lib.hid (goodFe_all hg)
    have HN := Lib.hid (inB_true h2)
    have HS := Lib.hid (inB_true h3)
    go_enter Try.func38, Try.ntmps38
    go_wp2_with (first | (go_at_call 21; (with_reducible refine (iAreFe_any l _ _ _ (HR.out.below (balloc (balloc (bref _) _) _)) hlen).mono ?_); rintro e w1 ⟨rfl, hb1⟩; obtain ⟨hc_hb1, hf_hb1, hz_hb1⟩ := bcell (B := w.heap.size + 1 + 1) (by first | omega | (simp; done) | (simp; omega)) hb1) | (go_at_call 62; (with_reducible refine (in_any _ _ _ _).mono ?_); rintro e w' ⟨rfl, rfl⟩))
    have b1 := bstep (balloc (balloc (bref _) _) _) hb1
    have HX1 := Lib.hid (show w1.cell? ⟨w.heap.size, 0, none⟩ = some (.int .i64 n) from (hb1.cell (p := ⟨w.heap.size, 0, none⟩) (by simp; omega)).trans (by simp [go_sem]))
    have HX2 := Lib.hid (show w1.cell? ⟨w.heap.size + 1, 0, none⟩ = some (.int .i64 s) from (hb1.cell (p := ⟨w.heap.size + 1, 0, none⟩) (by simp)).trans (by simp [go_sem]))
    have HR1 := Lib.hid (HR.out.below b1)
    clear hb1 hc_hb1 hf_hb1 hg h2 h3 HR
    go_loopw [8, 28] (fun v i wr => ∃ (k : Nat) (D : List Int) (A' : Option Addr) (c' : Nat), k ≤ l.length ∧ i = .int .i64 k ∧ v = .slice A' D.length c' ∧ D.length ≤ k ∧ Hid (D = oddAt n s l k) ∧ Below w1.heap.size w1 wr ∧ wr.ownsRow w1.heap.size 3 1 (.slice A' D.length c') D.length (D.flatMap encI)) (fun _ i _ => l.length - (intOf i).toNat)
    case atStart => exact ⟨0, [], some ⟨w1.heap.size, 0, none⟩, 0, Nat.zero_le _, rfl, rfl, Nat.le_refl _, rfl, balloc (bref _) _, own_made (cur := #[]) rfl (Nat.zero_le _)⟩
    case round =>
      obtain ⟨k, D, A', c', hk, rfl, rfl, hDl, HD, hbr, hown⟩ := hrel
      have HO := Lib.hid hown
      have hsz := hbr.size
      clear hown
      by_cases hlt : k < l.length
      · obtain ⟨m, hm⟩ := some_get hlt
        have i0 := ib0 k
        have i1 := ib1 hlt
        obtain ⟨b, off, rfl, hb, q0, q1, q2, q3, q4⟩ := (HR1.out.below hbr).fe hm
        have HM := Lib.hid (HG.out m (List.mem_of_getElem? hm))
        have HK := Lib.hid hm
        clear hm
        go_wp2_with fail
        refine (filterFe_any l _ _ _ _ (p1 n m) (enters_of Try.func84 (by kernel_rfl) rfl) _ (HR1.out.below (balloc hbr _)) hlen ?_).mono ?_
        · intro w3 hb3 g hgm
          have e1 : w3.cell? ⟨wr.heap.size, 0, none⟩ = _ := hb3.cell (p := ⟨wr.heap.size, 0, none⟩) (by simp)
          have e2 : w3.cell? ⟨wr.heap.size, 1, none⟩ = _ := hb3.cell (p := ⟨wr.heap.size, 1, none⟩) (by simp)
          have e3 : w3.cell? ⟨wr.heap.size, 2, none⟩ = _ := hb3.cell (p := ⟨wr.heap.size, 2, none⟩) (by simp)
          have e4 := (hb3.cell (p := ⟨w.heap.size, 0, none⟩) (by simp; omega)).trans (((balloc hbr _).cell (p := ⟨w.heap.size, 0, none⟩) (by simp; omega)).trans HX1.out)
          exact oddClos1_any n m g wr.heap.size w.heap.size w3 HM.out (HG.out g hgm) HN.out (e1.trans (by simp [go_sem])) (e2.trans (by simp [go_sem])) (e3.trans (by simp [go_sem])) e4
        · rintro e w3 ⟨A3, c3, rfl, ho3, hb3⟩
          have h3 := Lib.hid (RowAt.of_own ho3 encFe_len (by omega))
          have hO12 : (l.filter (p1 n m)).length ≤ l.length := List.length_filter_le _ _
          have HGO := Lib.hid (show ∀ g ∈ l.filter (p1 n m), oneFe g.id g.x g.y g.lv g.pp = true from fun g hg => HG.out g (List.mem_filter.1 hg).1)
          have HOB := Lib.hid (show oddB n s l m = (!(l.filter (p1 n m)).isEmpty && (l.filter (p1 n m)).all (p2 s m)) from rfl)
          have b3 : Below w1.heap.size w1 w3 := bstep (balloc hbr _) hb3
          have t0 : w3.cell? ⟨wr.heap.size, 0, none⟩ = some (.int .i64 m.id) := (hb3.cell (p := ⟨wr.heap.size, 0, none⟩) (by simp)).trans (by simp [go_sem])
          have T3 := Lib.hid (show w3.cell? ⟨wr.heap.size, 3, none⟩ = some (.int .i64 m.lv) from (hb3.cell (p := ⟨wr.heap.size, 3, none⟩) (by simp)).trans (by simp [go_sem]))
          have TS := Lib.hid (show w3.cell? ⟨w.heap.size + 1, 0, none⟩ = some (.int .i64 s) from (b3.cell (p := ⟨w.heap.size + 1, 0, none⟩) (by simp; omega)).trans HX2.out)
          have HO3 := Lib.hid (own_below (HO.out.alloc _) hb3)
          have hs3 : wr.heap.size < w3.heap.size := by have := hb3.size; simp at this; omega
          clear ho3 hb3
          generalize l.filter (p1 n m) = O at *
          rcases O with _ | ⟨o, O⟩
          · have HN2 := Lib.hid (oddAt_miss HK.out (by rw [HOB.out]; rfl))
            simp only [List.length_nil]
            go_wp2
            go_roundw
            case rel => exact ⟨k + 1, D, A', c', by omega, by go_num, rfl, by omega, Lib.hid (by rw [HN2.out]; exact HD.out), b3, HO3.out⟩
            case measure => simp [intOf]; omega
          · have n0 : (0 : Int) < ((o :: O).length : Int) := by simp <;> omega
            have HP := Lib.hid (show PredFe 86 #[.pointer (some ⟨wr.heap.size, 0, none⟩), .pointer (some ⟨w.heap.size + 1, 0, none⟩)] (p2 s m) (o :: O) w3 from fun w4 hb4 g hg =>
              oddClos2_any s m g wr.heap.size (w.heap.size + 1) w4 HM.out (HGO.out g hg) HS.out ((hb4.cell (p := ⟨wr.heap.size, 3, none⟩) (by simp; omega)).trans T3.out) ((hb4.cell (p := ⟨w.heap.size + 1, 0, none⟩) (by simp; omega)).trans TS.out))
            have HOB2 : oddB n s l m = (o :: O).all (p2 s m) := HOB.out
            clear HOB
            generalize o :: O = O at *
            cases ha : O.all (p2 s m)
            · have HN2 := Lib.hid (oddAt_miss HK.out (HOB2.trans ha))
              clear HOB2
              go_wp2_with fail
              refine (allFe_any O _ _ _ _ (p2 s m) (enters_of Try.func86 (by kernel_rfl) rfl) _ h3.out (by omega) HP.out).mono ?_; rw [ha]; rintro e w4 ⟨rfl, hb4⟩; go_wp2
              go_roundw
              case rel => exact ⟨k + 1, D, A', c', by omega, by go_num, rfl, by omega, Lib.hid (by rw [HN2.out]; exact HD.out), bstep b3 hb4, own_below HO3.out hb4⟩
              case measure => simp [intOf]; omega
            · have HN2 := Lib.hid (oddAt_hit HK.out (HOB2.trans ha))
              clear HOB2
              go_wp2_with fail
              refine (allFe_any O _ _ _ _ (p2 s m) (enters_of Try.func86 (by kernel_rfl) rfl) _ h3.out (by omega) HP.out).mono ?_; rw [ha]; rintro e w4 ⟨rfl, hb4⟩
              obtain ⟨hc_4, _, hz_4⟩ := bcell (B := w3.heap.size) (Nat.le_refl _) hb4
              go_wp2_with (at_builtin; refine wpList_app rfl _ _ 42 3 1 8 _ rfl Try.underlying42 infoI rfl (by decide) w1.heap.size _ D.length _ (by rfl) ((own_below HO3.out hb4).alloc _) _ _ (by rfl) (heap_new1 _ _) rfl (encI_one m.id) (by omega) (by decide) (by simp; omega) ?_; intro g5 c5 w5 ho5 hg5 hl5)
              go_roundw
              case rel => exact ⟨k + 1, D ++ [m.id], some ⟨g5, 0, none⟩, c5, by omega, by go_num, by simp, by simp; omega, Lib.hid (by rw [HN2.out, ← HD.out]), bgrown (balloc (bstep b3 hb4) _) hg5 (fun k hk => row_mine HO.out k hk), by simpa [encI] using ho5⟩
              case measure => simp [intOf]; omega
      · obtain rfl : k = l.length := by omega
        have HF := Lib.hid (show oddRes n s l = D by rw [HE.out, HD.out]; simp [oddAt, oddL])
        clear HR1
        go_wp2
        go_ret2
        refine ⟨A', c', ?_, ?_, bstep b1 hbr⟩
        · rw [HF.out]; rfl
        · rw [HF.out]; exact own_base HO.out b1.size
  all_goals
    have hok : oddOK n s l = false := by simp [oddOK, hg, h2, h3]
    have e : oddRes n s l = [] := by simp [oddRes, hok]
    rw [e, hok]
    clear e hok
    go_enter Try.func38, Try.ntmps38
    go_wp2_with (first | (go_at_call 21; (with_reducible refine (iAreFe_any l _ _ _ (HR.out.below (balloc (balloc (bref _) _) _)) hlen).mono ?_); rintro e w1 ⟨rfl, hb1⟩; obtain ⟨hc_hb1, hf_hb1, hz_hb1⟩ := bcell (B := w.heap.size + 1 + 1) (by first | omega | (simp; done) | (simp; omega)) hb1) | (go_at_call 62; (with_reducible refine (in_any _ _ _ _).mono ?_); rintro e w' ⟨rfl, rfl⟩))
    go_ret2
    exact ⟨none, 0, rfl, World.ownsRow_nil _ _ _ _, bstep (balloc (balloc (bref _) _) _) hb1⟩

theorem some_no {n : Int} {f g : Fe} {l : List Fe} {j : Nat} (hg : l[j]? = some g) (h : p1 n f g = false) : someN n f (l.take (j + 1)) = someN n f (l.take j) := by
  unfold someN; rw [filter_missFe hg h]
theorem some_yes {n : Int} {f g : Fe} {l : List Fe} {j : Nat} (hg : l[j]? = some g) (h : p1 n f g = true) : someN n f (l.take (j + 1)) = someN n f (l.take j) + 1 := by
  unfold someN; rw [filter_hitFe hg h]; simp
theorem like_no {n s : Int} {f g : Fe} {l : List Fe} {j : Nat} (hg : l[j]? = some g) (h : (p1 n f g && !p2 s f g) = false) : likeN n s f (l.take (j + 1)) = likeN n s f (l.take j) := by
  unfold likeN; rw [filter_missFe hg h]
theorem like_yes {n s : Int} {f g : Fe} {l : List Fe} {j : Nat} (hg : l[j]? = some g) (h : (p1 n f g && !p2 s f g) = true) : likeN n s f (l.take (j + 1)) = likeN n s f (l.take j) + 1 := by
  unfold likeN; rw [filter_hitFe hg h]; simp
theorem p2_in {s : Int} {f g : Fe} : inB (f.lv - g.lv) (-s) s = !p2 s f g := by
  unfold inB p2 absI
  rw [Bool.eq_iff_iff]
  simp
  split <;> omega
theorem id_ne {l : List Fe} {k j : Nat} {m g : Fe} (hg : goodFe l = true) (hm : l[k]? = some m) (hj : l[j]? = some g) (h : j ≠ k) : (g.id != m.id) = true := by
  rcases Nat.lt_or_ge j k with h1 | h1
  · have := goodFe_lt hg hj hm h1
    simp; omega
  · have := goodFe_lt hg hm hj (by omega)
    simp; omega

set_option maxRecDepth 100000 in
set_option maxHeartbeats 4000000 in
theorem sOdd_any (l : List Fe) (A : Option Addr) (c : Nat) (n s : Int) (w : World) (hr : RowAt 5 encFe w A l) (hlen : l.length ≤ 2097152) :
    Calls Try.prog 37 #[.slice A l.length c, .int .i64 n, .int .i64 s] w (MkS2 3 1 (oddRes n s l).length ((oddRes n s l).flatMap encI) (oddOK n s l) w) := by
  have HR := Lib.hid hr
  clear hr
  cases hg : goodFe l <;> cases h2 : inB n 0 500 <;> cases h3 : inB s 0 11
  case true.true.true =>
    have hok : oddOK n s l = true := by simp [oddOK, hg, h2, h3]
    have HE := Lib.hid (show oddRes n s l = oddL n s l by simp [oddRes, hok])
    rw [hok]
    clear hok
    have HGD := Lib.hid hg
    have HG := Lib.hid (goodFe_all hg)
    have hn := inB_true h2
    have hs := inB_true h3
    have hnn := sq_bd (d := n) (by omega)
    go_enter Try.func37, Try.ntmps37
    go_wp2_with (first | (go_at_call 64; (with_reducible refine (sgoodFe_any l _ _ _ (HR.out.below (balloc (bref _) _)) hlen).mono ?_); rintro e w1 ⟨rfl, hb1⟩; obtain ⟨hc_hb1, hf_hb1, hz_hb1⟩ := bcell (B := w.heap.size + 1) (by first | omega | (simp; done) | (simp; omega)) hb1) | (go_at_call 82; (with_reducible refine (l1In_any _ _ _ _).mono ?_); rintro e w' ⟨rfl, rfl⟩))
    have b1 := bstep (balloc (bref _) _) hb1
    have ho1 := Lib.hid (own_below (own_made (E := 3) (K := 1) (n := 0) (cur := #[]) (w := w) rfl (Nat.zero_le _)) hb1)
    clear hb1 hc_hb1 hf_hb1 hg h2 h3
    go_loopw [8, 9] (fun v i wr => ∃ (k : Nat) (D : List Int) (A' : Option Addr) (c' : Nat), k ≤ l.length ∧ i = .int .i64 k ∧ v = .slice A' D.length c' ∧ D.length ≤ k ∧ Hid (D = oddAt n s l k) ∧ Below w.heap.size w wr ∧ wr.ownsRow w.heap.size 3 1 (.slice A' D.length c') D.length (D.flatMap encI)) (fun _ i _ => l.length - (intOf i).toNat)
    case atStart => exact ⟨0, [], some ⟨w.heap.size, 0, none⟩, 0, Nat.zero_le _, rfl, rfl, Nat.le_refl _, rfl, b1, ho1.out⟩
    case round =>
      obtain ⟨k, D, A', c', hk, rfl, rfl, hDl, HD, hbr, hown⟩ := hrel
      have HO := Lib.hid hown
      clear hown
      by_cases hlt : k < l.length
      · obtain ⟨m, hm⟩ := some_get hlt
        have i0 := ib0 k
        have i1 := ib1 hlt
        obtain ⟨b, off, rfl, _, _⟩ := (HR.out.below hbr).fe hm
        have HM := Lib.hid hm
        obtain ⟨_, mx, my, mv, _⟩ := oneFe_bounds (HG.out m (List.mem_of_getElem? hm))
        clear hm
        obtain ⟨wo, rfl⟩ : ∃ wo : World, wo = wr := ⟨_, rfl⟩
        go_wp2_with fail
        go_loopw [10, 11, 12] (fun sv kv i wr => ∃ (j S K : Nat), j ≤ l.length ∧ i = .int .i64 j ∧ sv = .int .i64 S ∧ kv = .int .i64 K ∧ S ≤ j ∧ K ≤ j ∧ Hid (S = someN n m (l.take j)) ∧ Hid (K = likeN n s m (l.take j)) ∧ Below wo.heap.size wo wr) (fun _ _ i _ => l.length - (intOf i).toNat)
        case atStart => exact ⟨0, 0, 0, Nat.zero_le _, rfl, rfl, rfl, Nat.le_refl _, Nat.le_refl _, rfl, rfl, bref _⟩
        case round =>
          obtain ⟨j, S, K, hj, rfl, rfl, rfl, hSj, hKj, HS, HK, hbr2⟩ := hrel
          have hb3 := bstep hbr hbr2
          have s0 := ib0 S
          have k0 := ib0 K
          by_cases hjl : j < l.length
          · obtain ⟨g, hgj⟩ := some_get hjl
            have j0 := ib0 j
            have j1 := ib1 hjl
            obtain ⟨b', off', e, hb, q0, q1, q2, q3, q4, r0, r1, r2, r3, r4⟩ := (HR.out.below hb3).fe2 HM.out hgj
            cases e
            have HJ := Lib.hid hgj
            obtain ⟨_, gx, gy, gv, _⟩ := oneFe_bounds (HG.out g (List.mem_of_getElem? hgj))
            have hx2 := sq_bd (d := m.x - g.x) (by omega)
            have hy2 := sq_bd (d := m.y - g.y) (by omega)
            have HP := Lib.hid (p2_in (s := s) (f := m) (g := g))
            clear hgj
            by_cases hjk : j = k
            · subst hjk
              have e : g = m := by have := HM.out; rw [HJ.out] at this; cases this; rfl
              have hp : p1 n m g = false := by rw [e]; simp [p1]
              have HN1 := Lib.hid (some_no HJ.out hp)
              have HN2 := Lib.hid (like_no (s := s) HJ.out (by rw [hp]; rfl))
              clear hp e
              go_wp2_with fail
              (refine wp_region_calm (by kernel_rfl) (by kernel_rfl) ?_; (repeat (go_big_quiet_step ((fail)))); refine wpQuiet_nil ?_; intro xw; have hb4 := xw.is; generalize xw.w = w4 at hb4 ⊢; clear xw)
              go_wp2
              go_roundw
              case rel => exact ⟨j + 1, S, K, by omega, by go_num, rfl, rfl, by omega, by omega, Lib.hid (by rw [HN1.out]; exact HS.out), Lib.hid (by rw [HN2.out]; exact HK.out), bstep hbr2 hb4⟩
              case measure => simp [intOf]; omega
            · have hq : ((j : Int) == (k : Int)) = false := by simp; omega
              have hid := id_ne HGD.out HM.out HJ.out hjk
              by_cases hnear : (m.x - g.x) * (m.x - g.x) + (m.y - g.y) * (m.y - g.y) ≤ n * n
              · have hp : p1 n m g = true := by simp only [p1, hid, nearB, hnear]; rfl
                have HN1 := Lib.hid (some_yes HJ.out hp)
                cases hl : p2 s m g
                · have HN2 := Lib.hid (like_yes (s := s) HJ.out (by rw [hp, hl]; rfl))
                  have hin : inB (m.lv - g.lv) (-s) s = true := by rw [HP.out, hl]; rfl
                  clear hp hid hl
                  go_wp2_with fail
                  (refine wp_region_calm (by kernel_rfl) (by kernel_rfl) ?_; (repeat (go_big_quiet_step ((fail)))); refine wpQuiet_nil ?_; intro xw; have hb4 := xw.is; generalize xw.w = w4 at hb4 ⊢; clear xw)
                  obtain ⟨b4, off4, e4, hb4', u0, u1, u2, u3, u4, v0, v1, v2, v3, v4⟩ := (HR.out.below (bstep hb3 hb4)).fe2 HM.out HJ.out
                  cases e4
                  go_wp2_with fail
                  (refine wp_region_calm (by kernel_rfl) (by kernel_rfl) ?_; (repeat (go_big_quiet_step (((go_at_call 82; exact calm_same (l1In_any _ _ _ _)))))); refine wpQuiet_nil ?_; intro xw; have hb5 := xw.is; generalize xw.w = w5 at hb5 ⊢; clear xw)
                  rw [hin]
                  go_wp2
                  go_roundw
                  case rel => exact ⟨j + 1, S + 1, K + 1, by omega, by go_num, by go_num, by go_num, by omega, by omega, Lib.hid (by rw [HN1.out, ← HS.out]), Lib.hid (by rw [HN2.out, ← HK.out]), bstep (bstep hbr2 hb4) hb5⟩
                  case measure => simp [intOf]; omega
                · have HN2 := Lib.hid (like_no (s := s) HJ.out (by rw [hp, hl]; rfl))
                  have hin : inB (m.lv - g.lv) (-s) s = false := by rw [HP.out, hl]; rfl
                  clear hp hid hl
                  go_wp2_with fail
                  (refine wp_region_calm (by kernel_rfl) (by kernel_rfl) ?_; (repeat (go_big_quiet_step ((fail)))); refine wpQuiet_nil ?_; intro xw; have hb4 := xw.is; generalize xw.w = w4 at hb4 ⊢; clear xw)
                  obtain ⟨b4, off4, e4, hb4', u0, u1, u2, u3, u4, v0, v1, v2, v3, v4⟩ := (HR.out.below (bstep hb3 hb4)).fe2 HM.out HJ.out
                  cases e4
                  go_wp2_with fail
                  (refine wp_region_calm (by kernel_rfl) (by kernel_rfl) ?_; (repeat (go_big_quiet_step (((go_at_call 82; exact calm_same (l1In_any _ _ _ _)))))); refine wpQuiet_nil ?_; intro xw; have hb5 := xw.is; generalize xw.w = w5 at hb5 ⊢; clear xw)
                  rw [hin]
                  go_wp2
                  go_roundw
                  case rel => exact ⟨j + 1, S + 1, K, by omega, by go_num, by go_num, rfl, by omega, by omega, Lib.hid (by rw [HN1.out, ← HS.out]), Lib.hid (by rw [HN2.out]; exact HK.out), bstep (bstep hbr2 hb4) hb5⟩
                  case measure => simp [intOf]; omega
              · have hp : p1 n m g = false := by simp only [p1, nearB, hnear]; simp
                have HN1 := Lib.hid (some_no HJ.out hp)
                have HN2 := Lib.hid (like_no (s := s) HJ.out (by rw [hp]; rfl))
                clear hp hid
                go_wp2_with fail
                (refine wp_region_calm (by kernel_rfl) (by kernel_rfl) ?_; (repeat (go_big_quiet_step ((fail)))); refine wpQuiet_nil ?_; intro xw; have hb4 := xw.is; generalize xw.w = w4 at hb4 ⊢; clear xw)
                go_wp2
                go_roundw
                case rel => exact ⟨j + 1, S, K, by omega, by go_num, rfl, rfl, by omega, by omega, Lib.hid (by rw [HN1.out]; exact HS.out), Lib.hid (by rw [HN2.out]; exact HK.out), bstep hbr2 hb4⟩
                case measure => simp [intOf]; omega
          · obtain rfl : j = l.length := by omega
            have HC := Lib.hid (show oddB n s l m = (decide (0 < S) && decide (K = 0)) by rw [odd_count, HS.out, HK.out, List.take_length])
            obtain ⟨b', off', e, hb, q0, q1, q2, q3, q4⟩ := (HR.out.below hb3).fe HM.out
            cases e
            have HO3 := Lib.hid (own_below HO.out hbr2)
            clear HS HK
            by_cases hS : 0 < S
            · have hS1 : (0 : Int) < (S : Int) := by omega
              by_cases hK : K = 0
              · have HN2 := Lib.hid (oddAt_hit HM.out (by rw [HC.out]; simp [hS, hK]))
                subst hK
                have hsz := hb3.size
                go_wp2_with (at_builtin; refine wpList_app rfl _ _ 42 3 1 8 _ rfl Try.underlying42 infoI rfl (by decide) w.heap.size _ D.length _ (by rfl) (HO3.out.alloc _) _ _ (by rfl) (heap_new1 _ _) rfl (encI_one m.id) (by omega) (by decide) (by simp; omega) ?_; intro g5 c5 w5 ho5 hg5 hl5)
                go_roundw
                case rel => exact ⟨k + 1, D ++ [m.id], some ⟨g5, 0, none⟩, c5, by omega, by go_num, by simp, by simp; omega, Lib.hid (by rw [HN2.out, ← HD.out]), bgrown (balloc hb3 _) hg5 (fun k hk => row_mine HO.out k hk), by simpa [encI] using ho5⟩
                case measure => simp [intOf]; omega
              · have HN2 := Lib.hid (oddAt_miss HM.out (by rw [HC.out]; simp [hK]))
                have hK1 : ((K : Int) == 0) = false := by simp; omega
                go_wp2
                go_roundw
                case rel => exact ⟨k + 1, D, A', c', by omega, by go_num, rfl, by omega, Lib.hid (by rw [HN2.out]; exact HD.out), hb3, HO3.out⟩
                case measure => simp [intOf]; omega
            · have HN2 := Lib.hid (oddAt_miss HM.out (by rw [HC.out]; simp [hS]))
              obtain rfl : S = 0 := by omega
              go_wp2
              go_roundw
              case rel => exact ⟨k + 1, D, A', c', by omega, by go_num, rfl, by omega, Lib.hid (by rw [HN2.out]; exact HD.out), hb3, HO3.out⟩
              case measure => simp [intOf]; omega
      · obtain rfl : k = l.length := by omega
        have HF := Lib.hid (show oddRes n s l = D by rw [HE.out, HD.out]; simp [oddAt, oddL])
        clear HR
        go_wp2
        go_ret2
        refine ⟨A', c', ?_, ?_, hbr⟩
        · rw [HF.out]; rfl
        · rw [HF.out]; exact HO.out
  all_goals
    have hok : oddOK n s l = false := by simp [oddOK, hg, h2, h3]
    have e : oddRes n s l = [] := by simp [oddRes, hok]
    rw [e, hok]
    clear e hok
    go_enter Try.func37, Try.ntmps37
    go_wp2_with (first | (go_at_call 64; (with_reducible refine (sgoodFe_any l _ _ _ (HR.out.below (balloc (bref _) _)) hlen).mono ?_); rintro e w1 ⟨rfl, hb1⟩; obtain ⟨hc_hb1, hf_hb1, hz_hb1⟩ := bcell (B := w.heap.size + 1) (by first | omega | (simp; done) | (simp; omega)) hb1) | (go_at_call 82; (with_reducible refine (l1In_any _ _ _ _).mono ?_); rintro e w' ⟨rfl, rfl⟩))
    go_ret2
    exact ⟨some ⟨w.heap.size, 0, none⟩, 0, rfl, own_below (own_made (cur := #[]) rfl (Nat.zero_le _)) hb1, bstep (balloc (bref _) _) hb1⟩
end Go.Proofs.Ytjjinblahmcplaa
