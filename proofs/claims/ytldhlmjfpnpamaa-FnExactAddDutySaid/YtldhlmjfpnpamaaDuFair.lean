/-
  Who has the most and who has the fewest hours: impl asks slices.MaxFunc and slices.MinFunc, spec loops over all numbers.
-/
import Derived.Test.YtldhlmjfpnpamaaDuWho
import Derived.Deep.RegionHeld3
namespace Go.Proofs.Ytldhlmjfpnpamaa
open Go.RowKit
attribute [local go_sem] ext_cell ext_frozen

def bestI (gt : Int → Int → Bool) (x : Int) : List Int → Int
  | [] => x
  | y :: ys => bestI gt (if gt y x then y else x) ys
def gtMax (l : List Du) (y m : Int) : Bool := decide (hoursL m l < hoursL y l)
def gtMin (l : List Du) (y m : Int) : Bool := decide (hoursL y l < hoursL m l)

set_option maxRecDepth 100000 in
set_option maxHeartbeats 1000000 in
theorem closHours_any (l : List Du) (A : Option Addr) (c : Nat) (x y : Int) (bx : Nat) (w : World) (hr : RowAt 4 encDu w A l) (hg : goodDu l = true) (hc : w.cell? ⟨bx, 0, none⟩ = some (.slice A l.length c)) :
    Calls Try.prog 73 #[.int .i64 x, .int .i64 y, .pointer (some ⟨bx, 0, none⟩)] w fun e w' => e = .returned (.int .i64 (cmpI (hoursL x l) (hoursL y l))) ∧ Below w.heap.size w w' := by
  have lb : bx < w.heap.size := World.block_lt_of_cell? w ⟨bx, 0, none⟩ hc
  have HC := Lib.hid (fun (who : Int) (X : Ext w) => iHoursOf_any l A c who X.w (hr.below X.is) hg)
  clear hr hg
  go_enter Try.func73, Try.ntmps73
  go_wp2_with fail
  (refine wp_region_calm (by kernel_rfl) (by kernel_rfl) ?_; (repeat (go_big_quiet_step ((first | (go_at_call 63; exact calm_of (HC.out _ _)) | (go_at_call 74; exact calm_same (cmp_any _ _ _)))))); refine wpQuiet_nil ?_; intro xw; have hb1 := xw.is; generalize xw.w = w1 at hb1 ⊢; clear xw)
  go_wp2
  go_ret
  exact ⟨rfl, hb1⟩

set_option maxRecDepth 100000 in
set_option maxHeartbeats 1000000 in
theorem fairMax_any (l : List Du) (A : Option Addr) (c : Nat) (L : List Int) (A2 : Option Addr) (c2 bx : Nat) (x : Int) (w : World) (hr : RowAt 4 encDu w A l) (hg : goodDu l = true) (hc : w.cell? ⟨bx, 0, none⟩ = some (.slice A l.length c)) (hL : RowAt 1 encI w A2 L) (hlen : L.length ≤ 2097152) (h0 : L[0]? = some x) :
    Calls Try.prog 75 #[.slice A2 L.length c2, .func (.func 73) #[] #[.pointer (some ⟨bx, 0, none⟩)]] w fun e w' => e = .returned (.int .i64 (bestI (gtMax l) x (L.drop 1))) ∧ Below w.heap.size w w' := by
  have hpos : 0 < L.length := (List.getElem?_eq_some_iff.1 h0).1
  have HR := Lib.hid hr
  have HG := Lib.hid hg
  have HC := Lib.hid hc
  have HL := Lib.hid hL
  have lb : bx < w.heap.size := World.block_lt_of_cell? w ⟨bx, 0, none⟩ hc
  obtain ⟨b, off, rfl, hb, q0⟩ := hL.i h0
  simp only [Nat.add_zero] at q0
  have i1 : (0 : Int) < L.length := by omega
  clear hr hg hc hL h0
  go_enter Try.func75, Try.ntmps75
  go_wp2_with fail
  go_loopw [5, 6] (fun v i wr => ∃ (k : Nat) (y : Int), 1 ≤ k ∧ k ≤ L.length ∧ i = .int .i64 k ∧ v = .int .i64 y ∧ Below w.heap.size w wr ∧ Hid (bestI (gtMax l) y (L.drop k) = bestI (gtMax l) x (L.drop 1))) (fun _ i _ => L.length - (intOf i).toNat)
  case atStart => exact ⟨1, x, Nat.le_refl _, hpos, rfl, rfl, bref _, rfl⟩
  case round =>
    obtain ⟨k, y, hk1, hk, rfl, rfl, hbr, HB⟩ := hrel
    by_cases hlt : k < L.length
    · obtain ⟨m, hm⟩ := some_get hlt
      have i0 := ib0 k
      have i1 := ib1 hlt
      obtain ⟨b, off, e, hb, p0⟩ := (HL.out.below hbr).i hm
      cases e
      have HD := Lib.hid (drop_cons hm)
      have HX := Lib.hid ((hbr.cell (p := ⟨bx, 0, none⟩) lb).trans HC.out)
      clear hm
      cases hc : gtMax l m y
      · have HN := Lib.hid (show bestI (gtMax l) y (L.drop (k + 1)) = bestI (gtMax l) x (L.drop 1) by rw [← HB.out, HD.out]; simp [bestI, hc])
        have hq : ¬ 0 < cmpI (hoursL m l) (hoursL y l) := by
          unfold gtMax at hc
          have := of_decide_eq_false hc
          unfold cmpI
          split <;> (try split) <;> omega
        clear hc
        go_wp2_with (go_at_call 73; (with_reducible refine (closHours_any l A c m y bx _ (HR.out.below hbr) HG.out HX.out).mono ?_); rintro e w1 ⟨rfl, hb1⟩)
        go_roundw
        case rel => exact ⟨k + 1, y, by omega, by omega, by go_num, rfl, bstep hbr hb1, HN⟩
        case measure => simp [intOf]; omega
      · have HN := Lib.hid (show bestI (gtMax l) m (L.drop (k + 1)) = bestI (gtMax l) x (L.drop 1) by rw [← HB.out, HD.out]; simp [bestI, hc])
        have hq : 0 < cmpI (hoursL m l) (hoursL y l) := by
          unfold gtMax at hc
          have := of_decide_eq_true hc
          unfold cmpI
          split <;> (try split) <;> omega
        clear hc
        go_wp2_with (go_at_call 73; (with_reducible refine (closHours_any l A c m y bx _ (HR.out.below hbr) HG.out HX.out).mono ?_); rintro e w1 ⟨rfl, hb1⟩; obtain ⟨hc_1, _, hz_1⟩ := bcell (B := wr.heap.size) (Nat.le_refl _) hb1)
        go_roundw
        case rel => exact ⟨k + 1, m, by omega, by omega, by go_num, rfl, bstep hbr hb1, HN⟩
        case measure => simp [intOf]; omega
    · obtain rfl : k = L.length := by omega
      have HF := Lib.hid (show y = bestI (gtMax l) x (L.drop 1) by rw [← HB.out, List.drop_length]; rfl)
      clear HR HB HL HC
      go_wp2
      go_ret
      exact ⟨ret_int HF.out, hbr⟩

set_option maxRecDepth 100000 in
set_option maxHeartbeats 1000000 in
theorem fairMin_any (l : List Du) (A : Option Addr) (c : Nat) (L : List Int) (A2 : Option Addr) (c2 bx : Nat) (x : Int) (w : World) (hr : RowAt 4 encDu w A l) (hg : goodDu l = true) (hc : w.cell? ⟨bx, 0, none⟩ = some (.slice A l.length c)) (hL : RowAt 1 encI w A2 L) (hlen : L.length ≤ 2097152) (h0 : L[0]? = some x) :
    Calls Try.prog 76 #[.slice A2 L.length c2, .func (.func 73) #[] #[.pointer (some ⟨bx, 0, none⟩)]] w fun e w' => e = .returned (.int .i64 (bestI (gtMin l) x (L.drop 1))) ∧ Below w.heap.size w w' := by
  have hpos : 0 < L.length := (List.getElem?_eq_some_iff.1 h0).1
  have HR := Lib.hid hr
  have HG := Lib.hid hg
  have HC := Lib.hid hc
  have HL := Lib.hid hL
  have lb : bx < w.heap.size := World.block_lt_of_cell? w ⟨bx, 0, none⟩ hc
  obtain ⟨b, off, rfl, hb, q0⟩ := hL.i h0
  simp only [Nat.add_zero] at q0
  have i1 : (0 : Int) < L.length := by omega
  clear hr hg hc hL h0
  go_enter Try.func76, Try.ntmps76
  go_wp2_with fail
  go_loopw [5, 6] (fun v i wr => ∃ (k : Nat) (y : Int), 1 ≤ k ∧ k ≤ L.length ∧ i = .int .i64 k ∧ v = .int .i64 y ∧ Below w.heap.size w wr ∧ Hid (bestI (gtMin l) y (L.drop k) = bestI (gtMin l) x (L.drop 1))) (fun _ i _ => L.length - (intOf i).toNat)
  case atStart => exact ⟨1, x, Nat.le_refl _, hpos, rfl, rfl, bref _, rfl⟩
  case round =>
    obtain ⟨k, y, hk1, hk, rfl, rfl, hbr, HB⟩ := hrel
    by_cases hlt : k < L.length
    · obtain ⟨m, hm⟩ := some_get hlt
      have i0 := ib0 k
      have i1 := ib1 hlt
      obtain ⟨b, off, e, hb, p0⟩ := (HL.out.below hbr).i hm
      cases e
      have HD := Lib.hid (drop_cons hm)
      have HX := Lib.hid ((hbr.cell (p := ⟨bx, 0, none⟩) lb).trans HC.out)
      clear hm
      cases hc : gtMin l m y
      · have HN := Lib.hid (show bestI (gtMin l) y (L.drop (k + 1)) = bestI (gtMin l) x (L.drop 1) by rw [← HB.out, HD.out]; simp [bestI, hc])
        have hq : ¬ cmpI (hoursL m l) (hoursL y l) < 0 := by
          unfold gtMin at hc
          have := of_decide_eq_false hc
          unfold cmpI
          split <;> (try split) <;> omega
        clear hc
        go_wp2_with (go_at_call 73; (with_reducible refine (closHours_any l A c m y bx _ (HR.out.below hbr) HG.out HX.out).mono ?_); rintro e w1 ⟨rfl, hb1⟩)
        go_roundw
        case rel => exact ⟨k + 1, y, by omega, by omega, by go_num, rfl, bstep hbr hb1, HN⟩
        case measure => simp [intOf]; omega
      · have HN := Lib.hid (show bestI (gtMin l) m (L.drop (k + 1)) = bestI (gtMin l) x (L.drop 1) by rw [← HB.out, HD.out]; simp [bestI, hc])
        have hq : cmpI (hoursL m l) (hoursL y l) < 0 := by
          unfold gtMin at hc
          have := of_decide_eq_true hc
          unfold cmpI
          split <;> (try split) <;> omega
        clear hc
        go_wp2_with (go_at_call 73; (with_reducible refine (closHours_any l A c m y bx _ (HR.out.below hbr) HG.out HX.out).mono ?_); rintro e w1 ⟨rfl, hb1⟩; obtain ⟨hc_1, _, hz_1⟩ := bcell (B := wr.heap.size) (Nat.le_refl _) hb1)
        go_roundw
        case rel => exact ⟨k + 1, m, by omega, by omega, by go_num, rfl, bstep hbr hb1, HN⟩
        case measure => simp [intOf]; omega
    · obtain rfl : k = L.length := by omega
      have HF := Lib.hid (show y = bestI (gtMin l) x (L.drop 1) by rw [← HB.out, List.drop_length]; rfl)
      clear HR HB HL HC
      go_wp2
      go_ret
      exact ⟨ret_int HF.out, hbr⟩

-- plain
theorem hoursL_nn {who : Int} : ∀ {l : List Du}, (∀ m ∈ l, duB m = true) → ∀ s : Int, s ≤ l.foldl (fun s d => if d.who = who then s + (d.en - d.bg) else s) s
  | [], _, s => Int.le_refl _
  | m :: l, h, s => by
    have h1 := duB_bounds (h m (List.mem_cons_self))
    have ih := hoursL_nn (who := who) (l := l) (fun x hx => h x (List.mem_cons_of_mem _ hx)) (if m.who = who then s + (m.en - m.bg) else s)
    simp only [List.foldl_cons]
    split at ih <;> split <;> omega
theorem hours_pos {who : Int} : ∀ {l : List Du}, (∀ m ∈ l, duB m = true) → ∀ s : Int, (s < l.foldl (fun s d => if d.who = who then s + (d.en - d.bg) else s) s ↔ ∃ d ∈ l, d.who = who)
  | [], _, s => by simp
  | m :: l, h, s => by
    have h1 := duB_bounds (h m (List.mem_cons_self))
    have hl := fun x hx => h x (List.mem_cons_of_mem _ hx)
    simp only [List.foldl_cons, List.mem_cons, exists_eq_or_imp]
    by_cases hm : m.who = who
    · have := hoursL_nn (who := who) hl (s + (m.en - m.bg))
      rw [if_pos hm]
      exact ⟨fun _ => .inl hm, fun _ => by omega⟩
    · rw [if_neg hm, hours_pos hl s]
      simp [hm]
def wl (l : List Du) : Nat → List Int
  | 0 => []
  | k + 1 => wl l k ++ (if 0 < hoursL ((k : Int) + 1) l then [(k : Int) + 1] else [])
theorem wl_mem {l : List Du} {x : Int} : ∀ k, x ∈ wl l k ↔ (1 ≤ x ∧ x ≤ k ∧ 0 < hoursL x l)
  | 0 => by simp [wl]; omega
  | k + 1 => by
    simp only [wl, List.mem_append, wl_mem k]
    constructor
    · rintro (h | h)
      · exact ⟨h.1, by omega, h.2.2⟩
      · split at h
        · rename_i hp
          have : x = (k : Int) + 1 := by simpa using h
          subst this
          exact ⟨by omega, by omega, hp⟩
        · simp at h
    · rintro ⟨h1, h2, h3⟩
      by_cases e : x = (k : Int) + 1
      · subst e; exact .inr (by rw [if_pos h3]; simp)
      · exact .inl ⟨h1, by omega, h3⟩
theorem wl_asc {l : List Du} : ∀ k, asc (wl l k)
  | 0 => List.Pairwise.nil
  | k + 1 => by
    unfold asc wl
    rw [List.pairwise_append]
    refine ⟨wl_asc k, by split <;> simp, fun a ha b hb => ?_⟩
    have h1 := (wl_mem k).1 ha
    split at hb
    · have : b = (k : Int) + 1 := by simpa using hb
      omega
    · simp at hb
theorem whoL_wl {l : List Du} (hg : ∀ m ∈ l, duB m = true) : whoL l = wl l 50 := by
  refine asc_ext (putAll_asc _) (wl_asc 50) fun x => ?_
  unfold whoL
  rw [putAll_mem, wl_mem, List.mem_map]
  have hp := hours_pos (who := x) hg 0
  unfold hoursL
  constructor
  · rintro ⟨d, hd, rfl⟩
    have h1 := duB_bounds (hg d hd)
    exact ⟨h1.1.1, by omega, hp.2 ⟨d, hd, rfl⟩⟩
  · rintro ⟨_, _, h⟩
    obtain ⟨d, hd, e⟩ := hp.1 h
    exact ⟨d, hd, e⟩
def selS (gt : Int → Int → Bool) (s x : Int) : Int := if s = 0 then x else if gt x s then x else s
def selL (gt : Int → Int → Bool) (L : List Int) : Int := L.foldl (selS gt) 0
theorem sel_best (gt : Int → Int → Bool) : ∀ (L : List Int) (x : Int), 1 ≤ x → (∀ y ∈ L, 1 ≤ y) → L.foldl (selS gt) x = bestI gt x L
  | [], _, _, _ => rfl
  | y :: L, x, hx, h => by
    have hy := h y (List.mem_cons_self)
    have hx0 : ¬ x = 0 := by omega
    simp only [List.foldl_cons, bestI, selS, if_neg hx0]
    exact sel_best gt L _ (by split <;> omega) (fun z hz => h z (List.mem_cons_of_mem _ hz))
theorem selL_app (gt : Int → Int → Bool) (L : List Int) (x : Int) : selL gt (L ++ [x]) = selS gt (selL gt L) x := by simp [selL, List.foldl_append]
theorem sel_zero {gt : Int → Int → Bool} : ∀ (L : List Int), (∀ y ∈ L, 1 ≤ y ∧ y ≤ 50) → 0 ≤ selL gt L ∧ selL gt L ≤ 50 ∧ (selL gt L = 0 ↔ L = [])
  | [], _ => by simp [selL]
  | x :: L, h => by
    have hx := h x (List.mem_cons_self)
    have key : ∀ (L : List Int) (s : Int), 1 ≤ s ∧ s ≤ 50 → (∀ y ∈ L, 1 ≤ y ∧ y ≤ 50) → 1 ≤ L.foldl (selS gt) s ∧ L.foldl (selS gt) s ≤ 50 := by
      intro L
      induction L with
      | nil => intro s hs _; exact hs
      | cons y L ih =>
        intro s hs hy
        have h1 := hy y (List.mem_cons_self)
        simp only [List.foldl_cons]
        refine ih _ ?_ (fun z hz => hy z (List.mem_cons_of_mem _ hz))
        unfold selS
        split
        · exact h1
        · split
          · exact h1
          · exact hs
    have := key L x hx (fun z hz => h z (List.mem_cons_of_mem _ hz))
    have e : selL gt (x :: L) = L.foldl (selS gt) x := by simp [selL, selS]
    rw [e]
    refine ⟨by omega, this.2, ?_⟩
    simp
    omega
def fairL (l : List Du) : Int × Int × Bool :=
  if goodDu l then (if l = [] then (0, 0, false) else (selL (gtMax l) (whoL l), selL (gtMin l) (whoL l), true)) else (0, 0, false)

theorem fairL_some {l : List Du} (hg : goodDu l = true) {x : Int} {ys : List Int} (hw : whoL l = x :: ys) : fairL l = (bestI (gtMax l) x ys, bestI (gtMin l) x ys, true) := by
  have hn : l ≠ [] := by rintro rfl; simp [whoL, putAll] at hw
  have hp : ∀ y ∈ whoL l, 1 ≤ y := fun y hy => by
    rw [whoL_wl (goodDu_all hg)] at hy
    exact ((wl_mem 50).1 hy).1
  rw [hw] at hp
  have h1 := hp x (List.mem_cons_self)
  have h2 : ∀ gt, selL gt (x :: ys) = bestI gt x ys := fun gt => by
    rw [← sel_best gt ys x h1 (fun y hy => hp y (List.mem_cons_of_mem _ hy))]
    simp [selL, selS]
  simp only [fairL, hg, if_true, if_neg hn, hw, h2]
theorem whoL_ne {l : List Du} (hn : l ≠ []) : ∃ x ys, whoL l = x :: ys := by
  match l, hn with
  | m :: l, _ =>
    have : m.who ∈ whoL (m :: l) := putAll_mem.2 (by simp)
    rcases hw : whoL (m :: l) with _ | ⟨x, ys⟩
    · rw [hw] at this; simp at this
    · exact ⟨x, ys, rfl⟩

set_option maxRecDepth 100000 in
set_option maxHeartbeats 2000000 in
theorem iFair_any (l : List Du) (A : Option Addr) (c : Nat) (w : World) (hr : RowAt 4 encDu w A l) (hlen : l.length ≤ 2097152) (hcap : l.length ≤ c) :
    Calls Try.prog 38 #[.slice A l.length c] w fun e w' => e = .returned (.tuple #[.int .i64 (fairL l).1, .int .i64 (fairL l).2.1, .bool (fairL l).2.2]) ∧ Below w.heap.size w w' := by
  have hmf : ∀ (fn : Fn) (first cap : Array Value) (w : World), (Instr.makeFunc fn first cap).run Try.prog w = .ok (.func fn first cap) w := fun _ _ _ _ => rfl
  have HR := Lib.hid hr
  clear hr
  cases hg : goodDu l
  · have e : fairL l = (0, 0, false) := by simp [fairL, hg]
    rw [e]
    clear e
    go_enter Try.func38, Try.ntmps38
    go_wp2_with (go_at_call 20; (with_reducible refine (iAreDu_any l _ _ _ (HR.out.below (balloc (bref _) _)) hlen hcap).mono ?_); rintro e w1 ⟨rfl, hb1⟩; obtain ⟨hc_hb1, hf_hb1, hz_hb1⟩ := bcell (B := w.heap.size + 1) (by first | omega | (simp; done) | (simp; omega)) hb1)
    go_ret3
    exact ⟨rfl, bstep (balloc (bref _) _) hb1⟩
  · by_cases hn : l = []
    · have e : fairL l = (0, 0, false) := by simp [fairL, hn]
      have hn0 : l.length = 0 := by simp [hn]
      rw [e]
      have hA := fun W (hW : Below w.heap.size w W) => iAreDu_any l A c W (HR.out.below hW) hlen hcap
      rw [hn0] at hA
      rw [hn0]
      have HA := Lib.hid hA
      clear e hn hA
      go_enter Try.func38, Try.ntmps38
      go_wp2_with (go_at_call 20; (with_reducible refine (HA.out _ (balloc (bref _) _)).mono ?_); rintro e w1 ⟨rfl, hb1⟩; obtain ⟨hc_hb1, hf_hb1, hz_hb1⟩ := bcell (B := w.heap.size + 1) (by first | omega | (simp; done) | (simp; omega)) hb1)
      go_ret3
      exact ⟨rfl, bstep (balloc (bref _) _) hb1⟩
    · obtain ⟨x, ys, hw⟩ := whoL_ne hn
      have HE := Lib.hid (fairL_some hg hw)
      have HW0 := Lib.hid (show (whoL l)[0]? = some x by rw [hw]; rfl)
      have HWD := Lib.hid (show (whoL l).tail = ys by rw [hw]; rfl)
      have hwl := whoL_le l
      have HG := Lib.hid hg
      have hn0 : ¬ (l.length : Int) = 0 := fun e => hn (List.eq_nil_of_length_eq_zero (by omega))
      clear hn hw
      go_enter Try.func38, Try.ntmps38
      go_wp2_with (go_at_call 20; (with_reducible refine (iAreDu_any l _ _ _ (HR.out.below (balloc (bref _) _)) hlen hcap).mono ?_); rintro e w1 ⟨rfl, hb1⟩; obtain ⟨hc_hb1, hf_hb1, hz_hb1⟩ := bcell (B := w.heap.size + 1) (by first | omega | (simp; done) | (simp; omega)) hb1)
      have b1 := bstep (balloc (bref _) _) hb1
      have HC1 : w1.cell? ⟨w.heap.size, 0, none⟩ = some (.slice A l.length c) := (hb1.cell (p := ⟨w.heap.size, 0, none⟩) (by simp)).trans (by simp [go_sem])
      have HR1 := Lib.hid (HR.out.below b1)
      have hs1 : w.heap.size < w1.heap.size := by omega
      have HS := Lib.hid (show ∀ W, Below w1.heap.size w1 W → W.cell? ⟨w.heap.size, 0, none⟩ = some (.slice A l.length c) from fun W hW => (hW.cell (p := ⟨w.heap.size, 0, none⟩) hs1).trans HC1)
      clear hb1 hc_hb1 hf_hb1 hmf HR
      go_region_held3 (fun w' => w'.cell? ⟨w.heap.size, 0, none⟩ = some (.slice A l.length c)) (exact HS.out _ (by repeat (first | exact bref _ | exact hbI1 | (refine balloc ?_ _) | (refine bdrew ?_) | (refine bdrewN ?_ _)))) (first
        | (go_at_call 70; (refine (whos_any l _ _ _ (HR1.out.below (by repeat (first | exact bref _ | exact hbI1 | (refine balloc ?_ _) | (refine bdrew ?_) | (refine bdrewN ?_ _)))) hlen).mono ?_); rintro e w2 ⟨A2, c2, rfl, ho2, hb2⟩; have hbI1 : Below w1.heap.size w1 w2 := bstep (by repeat (first | exact bref _ | exact hbI1 | (refine balloc ?_ _) | (refine bdrew ?_) | (refine bdrewN ?_ _))) hb2; have HO2 := Lib.hid (RowAt.of_own ho2 encI_len (by omega)))
        | (go_at_call 75; (refine (fairMax_any l A c (whoL l) _ _ w.heap.size x _ (HR1.out.below (by repeat (first | exact bref _ | exact hbI1 | (refine balloc ?_ _) | (refine bdrew ?_) | (refine bdrewN ?_ _)))) HG.out (HS.out _ (by repeat (first | exact bref _ | exact hbI1 | (refine balloc ?_ _) | (refine bdrew ?_) | (refine bdrewN ?_ _)))) (RowAt.below HO2.out (by repeat (first | exact bref _ | refine bdrew ?_))) (by omega) HW0.out).mono ?_); rintro e w3 ⟨rfl, hb3⟩; have hbI1 : Below w1.heap.size w1 w3 := bstep (by repeat (first | exact bref _ | exact hbI1 | (refine balloc ?_ _) | (refine bdrew ?_) | (refine bdrewN ?_ _))) hb3)
        | (go_at_call 76; (refine (fairMin_any l A c (whoL l) _ _ w.heap.size x _ (HR1.out.below (by repeat (first | exact bref _ | exact hbI1 | (refine balloc ?_ _) | (refine bdrew ?_) | (refine bdrewN ?_ _)))) HG.out (HS.out _ (by repeat (first | exact bref _ | exact hbI1 | (refine balloc ?_ _) | (refine bdrew ?_) | (refine bdrewN ?_ _)))) (RowAt.below HO2.out (by repeat (first | exact bref _ | refine bdrew ?_))) (by omega) HW0.out).mono ?_); rintro e w3 ⟨rfl, hb3⟩; have hbI1 : Below w1.heap.size w1 w3 := bstep (by repeat (first | exact bref _ | exact hbI1 | (refine balloc ?_ _) | (refine bdrew ?_) | (refine bdrewN ?_ _))) hb3)
        | fail)
      all_goals
        go_wp2
        go_ret3
        exact ⟨by rw [HE.out, ← HWD.out]; rfl, bstep b1 (by repeat (first | exact bref _ | exact hbI1 | (refine balloc ?_ _) | (refine bdrew ?_) | (refine bdrewN ?_ _)))⟩

theorem fairL_ne {l : List Du} (hg : goodDu l = true) (hn : l ≠ []) : fairL l = (selL (gtMax l) (wl l 50), selL (gtMin l) (wl l 50), true) := by
  rw [← whoL_wl (goodDu_all hg)]
  simp only [fairL, hg, if_true, if_neg hn]
theorem wl_bd {l : List Du} {k : Nat} (hk : k ≤ 50) : ∀ y ∈ wl l k, 1 ≤ y ∧ y ≤ 50 := fun y hy => by
  have := (wl_mem k).1 hy
  omega
theorem sel_no {gt : Int → Int → Bool} {l : List Du} {k : Nat} (h : ¬ 0 < hoursL ((k : Int) + 1) l) : selL gt (wl l (k + 1)) = selL gt (wl l k) := by simp [wl, h]
theorem sel_yes {gt : Int → Int → Bool} {l : List Du} {k : Nat} (h : 0 < hoursL ((k : Int) + 1) l) : selL gt (wl l (k + 1)) = selS gt (selL gt (wl l k)) ((k : Int) + 1) := by simp only [wl, if_pos h, selL_app]

theorem selMax_yes {l : List Du} {k : Nat} (h : 0 < hoursL ((k : Int) + 1) l) : selL (gtMax l) (wl l (k + 1)) = if selL (gtMax l) (wl l k) = 0 then (k : Int) + 1 else if hoursL (selL (gtMax l) (wl l k)) l < hoursL ((k : Int) + 1) l then (k : Int) + 1 else selL (gtMax l) (wl l k) := by
  rw [sel_yes h]
  unfold selS gtMax
  simp only [decide_eq_true_eq]
theorem selMin_yes {l : List Du} {k : Nat} (h : 0 < hoursL ((k : Int) + 1) l) : selL (gtMin l) (wl l (k + 1)) = if selL (gtMin l) (wl l k) = 0 then (k : Int) + 1 else if hoursL ((k : Int) + 1) l < hoursL (selL (gtMin l) (wl l k)) l then (k : Int) + 1 else selL (gtMin l) (wl l k) := by
  rw [sel_yes h]
  unfold selS gtMin
  simp only [decide_eq_true_eq]
set_option maxRecDepth 100000 in
set_option maxHeartbeats 4000000 in
theorem sFair_any (l : List Du) (A : Option Addr) (c : Nat) (w : World) (hr : RowAt 4 encDu w A l) (hlen : l.length ≤ 2097152) :
    Calls Try.prog 37 #[.slice A l.length c] w fun e w' => e = .returned (.tuple #[.int .i64 (fairL l).1, .int .i64 (fairL l).2.1, .bool (fairL l).2.2]) ∧ Below w.heap.size w w' := by
  have HR := Lib.hid hr
  clear hr
  cases hg : goodDu l
  · have e : fairL l = (0, 0, false) := by simp [fairL, hg]
    rw [e]
    clear e
    go_enter Try.func37, Try.ntmps37
    go_wp2_with (go_at_call 55; (with_reducible refine (sgoodDu_any l _ _ _ HR.out hlen).mono ?_); rintro e w1 ⟨rfl, hb1⟩; obtain ⟨hc_hb1, hf_hb1, hz_hb1⟩ := bcell (B := w.heap.size) (by first | omega | (simp; done) | (simp; omega)) hb1)
    go_ret3
    exact ⟨rfl, hb1⟩
  · by_cases hn : l = []
    · have e : fairL l = (0, 0, false) := by simp [fairL, hn]
      have hn0 : l.length = 0 := by simp [hn]
      rw [e]
      have hA := sgoodDu_any l A c w HR.out hlen
      rw [hn0] at hA
      rw [hn0]
      have HA := Lib.hid hA
      clear e hn hA
      go_enter Try.func37, Try.ntmps37
      go_wp2_with (go_at_call 55; (with_reducible refine (HA.out).mono ?_); rintro e w1 ⟨rfl, hb1⟩; obtain ⟨hc_hb1, hf_hb1, hz_hb1⟩ := bcell (B := w.heap.size) (by first | omega | (simp; done) | (simp; omega)) hb1)
      go_ret3
      exact ⟨rfl, hb1⟩
    · have HE := Lib.hid (fairL_ne hg hn)
      have HG := Lib.hid hg
      have h12 := goodDu_len hg
      have hn0 : ¬ (l.length : Int) = 0 := fun e => hn (List.eq_nil_of_length_eq_zero (by omega))
      clear hn
      go_enter Try.func37, Try.ntmps37
      go_wp2_with (go_at_call 55; (with_reducible refine (sgoodDu_any l _ _ _ HR.out hlen).mono ?_); rintro e w1 ⟨rfl, hb1⟩; obtain ⟨hc_hb1, hf_hb1, hz_hb1⟩ := bcell (B := w.heap.size) (by first | omega | (simp; done) | (simp; omega)) hb1)
      have hq0 : ((l.length : Int) == 0) = false := by simpa using hn0
      simp only [hq0]
      clear hc_hb1 hf_hb1 hg hq0 hn0
      go_loopw [5, 6, 7] (fun mv fv i wr => ∃ (k : Nat) (M F : Int), k ≤ 50 ∧ i = .int .i64 ((k : Int) + 1) ∧ mv = .int .i64 M ∧ fv = .int .i64 F ∧ Hid (M = selL (gtMax l) (wl l k)) ∧ Hid (F = selL (gtMin l) (wl l k)) ∧ Below w.heap.size w wr) (fun _ _ i _ => 51 - (intOf i).toNat)
      case atStart => exact ⟨0, 0, 0, by decide, rfl, rfl, rfl, rfl, rfl, hb1⟩
      case round =>
        obtain ⟨k, M, F, hk, rfl, rfl, rfl, HM, HF, hbr⟩ := hrel
        have i0 := ib0 k
        by_cases hlt : k < 50
        · have i1 : (k : Int) + 1 ≤ 50 := by omega
          have zM := sel_zero (gt := gtMax l) (wl l k) (wl_bd (by omega))
          have zF := sel_zero (gt := gtMin l) (wl l k) (wl_bd (by omega))
          rw [← HM.out] at zM
          rw [← HF.out] at zF
          have hz : M = 0 ↔ F = 0 := by rw [zM.2.2, zF.2.2]
          have zM2 : 0 ≤ M ∧ M ≤ 50 := ⟨zM.1, zM.2.1⟩
          have zF2 : 0 ≤ F ∧ F ≤ 50 := ⟨zF.1, zF.2.1⟩
          clear zM zF
          have bd : ∀ x, -1000 ≤ hoursL x l ∧ hoursL x l ≤ 1000 := fun x => by
            have := hoursL_bd (who := x) HG.out l.length (Nat.le_refl _)
            rw [List.take_length] at this
            omega
          have bn := bd ((k : Int) + 1)
          have bM := bd M
          have bF := bd F
          clear bd
          by_cases h1 : 0 < hoursL ((k : Int) + 1) l
          · have NM := Lib.hid (selMax_yes h1)
            have NF := Lib.hid (selMin_yes h1)
            rw [← HM.out] at NM
            rw [← HF.out] at NF
            by_cases hM0 : M = 0
            · have hF0 := hz.1 hM0
              subst hM0 hF0
              have QM := Lib.hid (show (k : Int) + 1 = selL (gtMax l) (wl l (k + 1)) by rw [NM.out]; simp)
              have QF := Lib.hid (show (k : Int) + 1 = selL (gtMin l) (wl l (k + 1)) by rw [NF.out]; simp)
              clear NM NF HM HF hz
              go_wp2_with (go_at_call 62; first | ((with_reducible refine (sHoursOf_any l _ _ _ _ (HR.out.below hbr) HG.out).mono ?_); rintro e w2 ⟨rfl, hb2⟩; have hq2 := bstep hbr hb2) | ((with_reducible refine (sHoursOf_any l _ _ _ _ (HR.out.below hq2) HG.out).mono ?_); rintro e w3 ⟨rfl, hb3⟩; have hq3 := bstep hq2 hb3) | ((with_reducible refine (sHoursOf_any l _ _ _ _ (HR.out.below hq3) HG.out).mono ?_); rintro e w4 ⟨rfl, hb4⟩; have hq4 := bstep hq3 hb4))
              go_roundw
              case rel => exact ⟨k + 1, (k : Int) + 1, (k : Int) + 1, by omega, by go_num, rfl, rfl, QM, QF, hq2⟩
              case measure => simp [intOf]; omega
            · have hF0 : ¬ F = 0 := fun e => hM0 (hz.2 e)
              have eM : (M == 0) = false := by simpa using hM0
              have eF : (F == 0) = false := by simpa using hF0
              rw [if_neg hM0] at NM
              rw [if_neg hF0] at NF
              clear hz
              by_cases h2 : hoursL M l < hoursL ((k : Int) + 1) l <;> by_cases h3 : hoursL ((k : Int) + 1) l < hoursL F l
              · have QM := Lib.hid (show (k : Int) + 1 = selL (gtMax l) (wl l (k + 1)) by rw [NM.out, if_pos h2])
                have QF := Lib.hid (show (k : Int) + 1 = selL (gtMin l) (wl l (k + 1)) by rw [NF.out, if_pos h3])
                clear NM NF HM HF hM0 hF0
                go_wp2_with (go_at_call 62; first | ((with_reducible refine (sHoursOf_any l _ _ _ _ (HR.out.below hbr) HG.out).mono ?_); rintro e w2 ⟨rfl, hb2⟩; have hq2 := bstep hbr hb2) | ((with_reducible refine (sHoursOf_any l _ _ _ _ (HR.out.below hq2) HG.out).mono ?_); rintro e w3 ⟨rfl, hb3⟩; have hq3 := bstep hq2 hb3) | ((with_reducible refine (sHoursOf_any l _ _ _ _ (HR.out.below hq3) HG.out).mono ?_); rintro e w4 ⟨rfl, hb4⟩; have hq4 := bstep hq3 hb4))
                go_roundw
                case rel => exact ⟨k + 1, (k : Int) + 1, (k : Int) + 1, by omega, by go_num, rfl, rfl, QM, QF, hq4⟩
                case measure => simp [intOf]; omega
              · have QM := Lib.hid (show (k : Int) + 1 = selL (gtMax l) (wl l (k + 1)) by rw [NM.out, if_pos h2])
                have QF := Lib.hid (show F = selL (gtMin l) (wl l (k + 1)) by rw [NF.out, if_neg h3])
                clear NM NF HM HF hM0 hF0
                go_wp2_with (go_at_call 62; first | ((with_reducible refine (sHoursOf_any l _ _ _ _ (HR.out.below hbr) HG.out).mono ?_); rintro e w2 ⟨rfl, hb2⟩; have hq2 := bstep hbr hb2) | ((with_reducible refine (sHoursOf_any l _ _ _ _ (HR.out.below hq2) HG.out).mono ?_); rintro e w3 ⟨rfl, hb3⟩; have hq3 := bstep hq2 hb3) | ((with_reducible refine (sHoursOf_any l _ _ _ _ (HR.out.below hq3) HG.out).mono ?_); rintro e w4 ⟨rfl, hb4⟩; have hq4 := bstep hq3 hb4))
                go_roundw
                case rel => exact ⟨k + 1, (k : Int) + 1, F, by omega, by go_num, rfl, rfl, QM, QF, hq4⟩
                case measure => simp [intOf]; omega
              · have QM := Lib.hid (show M = selL (gtMax l) (wl l (k + 1)) by rw [NM.out, if_neg h2])
                have QF := Lib.hid (show (k : Int) + 1 = selL (gtMin l) (wl l (k + 1)) by rw [NF.out, if_pos h3])
                clear NM NF HM HF hM0 hF0
                go_wp2_with (go_at_call 62; first | ((with_reducible refine (sHoursOf_any l _ _ _ _ (HR.out.below hbr) HG.out).mono ?_); rintro e w2 ⟨rfl, hb2⟩; have hq2 := bstep hbr hb2) | ((with_reducible refine (sHoursOf_any l _ _ _ _ (HR.out.below hq2) HG.out).mono ?_); rintro e w3 ⟨rfl, hb3⟩; have hq3 := bstep hq2 hb3) | ((with_reducible refine (sHoursOf_any l _ _ _ _ (HR.out.below hq3) HG.out).mono ?_); rintro e w4 ⟨rfl, hb4⟩; have hq4 := bstep hq3 hb4))
                go_roundw
                case rel => exact ⟨k + 1, M, (k : Int) + 1, by omega, by go_num, rfl, rfl, QM, QF, hq4⟩
                case measure => simp [intOf]; omega
              · have QM := Lib.hid (show M = selL (gtMax l) (wl l (k + 1)) by rw [NM.out, if_neg h2])
                have QF := Lib.hid (show F = selL (gtMin l) (wl l (k + 1)) by rw [NF.out, if_neg h3])
                clear NM NF HM HF hM0 hF0
                go_wp2_with (go_at_call 62; first | ((with_reducible refine (sHoursOf_any l _ _ _ _ (HR.out.below hbr) HG.out).mono ?_); rintro e w2 ⟨rfl, hb2⟩; have hq2 := bstep hbr hb2) | ((with_reducible refine (sHoursOf_any l _ _ _ _ (HR.out.below hq2) HG.out).mono ?_); rintro e w3 ⟨rfl, hb3⟩; have hq3 := bstep hq2 hb3) | ((with_reducible refine (sHoursOf_any l _ _ _ _ (HR.out.below hq3) HG.out).mono ?_); rintro e w4 ⟨rfl, hb4⟩; have hq4 := bstep hq3 hb4))
                go_roundw
                case rel => exact ⟨k + 1, M, F, by omega, by go_num, rfl, rfl, QM, QF, hq4⟩
                case measure => simp [intOf]; omega
          · have NM := Lib.hid (sel_no (gt := gtMax l) h1)
            have NF := Lib.hid (sel_no (gt := gtMin l) h1)
            go_wp2_with (go_at_call 62; (with_reducible refine (sHoursOf_any l _ _ _ _ (HR.out.below hbr) HG.out).mono ?_); rintro e w2 ⟨rfl, hb2⟩)
            refine ⟨⟨k + 1, M, F, by omega, by go_num, rfl, rfl, Lib.hid (by rw [NM.out]; exact HM.out), Lib.hid (by rw [NF.out]; exact HF.out), bstep hbr hb2⟩, by simp [intOf]; omega⟩
        · obtain rfl : k = 50 := by omega
          go_wp2
          go_ret3
          exact ⟨by rw [HE.out, ← HM.out, ← HF.out]; rfl, hbr⟩
end Go.Proofs.Ytldhlmjfpnpamaa
