/-
  Lists of duties: impl's and spec's test answer alike.
-/
import Derived.Test.YtldhlmjfpnpamaaDuty1
import Derived.Test.YtldhlmjfpnpamaaDuAll
import Derived.Test.YtldhlmjfpnpamaaCmp
import Derived.Deep.RegionHeld3
namespace Go.Proofs.Ytldhlmjfpnpamaa
open Go.RowKit
attribute [local go_sem] ext_cell ext_frozen

/-- All numbers below n are fine, and there are few. -/
def allOK (ok : Nat → Bool) (n most : Nat) : Bool := (List.range n).all ok && decide (n ≤ most)
theorem allOK_no {ok : Nat → Bool} {n most k : Nat} (hk : k < n) (h : ok k = false) : allOK ok n most = false := by
  unfold allOK
  rw [show (List.range n).all ok = false from by
    rw [List.all_eq_false]
    exact ⟨k, by simpa using hk, by simp [h]⟩]
  rfl
theorem allOK_yes {ok : Nat → Bool} {n most : Nat} (h : UpTo (fun i => ok i = true) n) : allOK ok n most = decide (n ≤ most) := by
  unfold allOK
  rw [show (List.range n).all ok = true from by
    rw [List.all_eq_true]
    intro i hi
    exact h i (by simpa using hi)]
  rfl
theorem allOK_get {ok : Nat → Bool} {n most k : Nat} (h : allOK ok n most = true) (hk : k < n) : ok k = true := by
  unfold allOK at h
  rw [Bool.and_eq_true, List.all_eq_true] at h
  exact h.1 k (by simpa using hk)
theorem allOK_len {ok : Nat → Bool} {n most : Nat} (h : allOK ok n most = true) : n ≤ most := by
  unfold allOK at h
  rw [Bool.and_eq_true] at h
  simpa using h.2

def duB (m : Du) : Bool := dutyB m.who m.bg m.en
def ltDu (a d : Du) : Bool := decide (a.bg < d.bg ∨ a.bg = d.bg ∧ a.who < d.who)
def togB (e d : Du) : Bool := decide (8 ≤ d.bg - e.en ∨ d.bg - e.en = 0 ∧ d.en - e.bg ≤ 12)
def freeB (e d : Du) : Bool := e.who != d.who || togB e d
def okDu (l : List Du) (k : Nat) : Bool :=
  match l[k]? with
  | none => true
  | some d => duB d && (k == 0 || match l[k - 1]? with | none => true | some p => ltDu p d) && (l.take k).all (fun e => freeB e d)
def goodDu (l : List Du) : Bool := allOK (okDu l) l.length 12
theorem okDu_bad {l : List Du} {k : Nat} {d : Du} (hd : l[k]? = some d) (h : duB d = false) : okDu l k = false := by simp [okDu, hd, h]
theorem okDu_all {l : List Du} {k : Nat} {d : Du} (hd : l[k]? = some d) (h : (l.take k).all (fun e => freeB e d) = false) : okDu l k = false := by
  unfold okDu
  rw [hd]
  simp only [h, Bool.and_false]
theorem okDu_zero {l : List Du} {d : Du} (hd : l[0]? = some d) (h : duB d = true) : okDu l 0 = true := by simp [okDu, hd, h]
theorem okDu_lt {l : List Du} {k : Nat} {d p : Du} (hd : l[k + 1]? = some d) (hp : l[k]? = some p) (h : ltDu p d = false) : okDu l (k + 1) = false := by simp [okDu, hd, hp, h]
theorem okDu_succ {l : List Du} {k : Nat} {d p : Du} (hd : l[k + 1]? = some d) (hp : l[k]? = some p) (h1 : duB d = true) (h2 : ltDu p d = true) (h3 : (l.take (k + 1)).all (fun e => freeB e d) = true) : okDu l (k + 1) = true := by
  unfold okDu
  rw [hd]
  simp only [h1, h3, Nat.add_sub_cancel, hp, h2, Bool.and_self, Bool.or_true]
theorem okDu_one {l : List Du} {k : Nat} {d : Du} (hd : l[k]? = some d) (h : okDu l k = true) : duB d = true := by
  cases hb : duB d
  · rw [okDu_bad hd hb] at h; cases h
  · rfl
theorem goodDu_one {l : List Du} {k : Nat} {d : Du} (h : goodDu l = true) (hd : l[k]? = some d) : duB d = true := by
  have hk : k < l.length := (List.getElem?_eq_some_iff.1 hd).1
  exact okDu_one hd (allOK_get h hk)
theorem duB_bounds {d : Du} (h : duB d = true) : (1 ≤ d.who ∧ d.who ≤ 50) ∧ (0 ≤ d.bg ∧ d.bg ≤ 9999) ∧ (0 ≤ d.en ∧ d.en ≤ 9999) ∧ (1 ≤ d.en - d.bg ∧ d.en - d.bg ≤ 12) := by
  unfold duB dutyB at h
  simp only [Bool.and_eq_true] at h
  exact ⟨inB_true h.1.1.1, inB_true h.1.1.2, inB_true h.1.2, inB_true h.2⟩

def cmpDu (a d : Du) : Int := orL [cmpI a.bg d.bg, cmpI a.who d.who]
theorem cmpDu_neg (a d : Du) : decide (0 ≤ cmpDu a d) = !ltDu a d := by
  unfold cmpDu ltDu
  rcases Int.lt_trichotomy a.bg d.bg with h | h | h
  · simp [orL, cmpI_lt h, h]
  · rw [cmpI_eq h]
    rcases Int.lt_trichotomy a.who d.who with h2 | h2 | h2
    · simp [orL, cmpI_lt h2, h, h2]
    · rw [cmpI_eq h2]; simp [orL, h, h2]
    · simp [orL, cmpI_gt h2, h]; omega
  · have h3 : ¬ (a.bg < d.bg ∨ a.bg = d.bg ∧ a.who < d.who) := by omega
    simp [orL, cmpI_gt h, h3]
theorem cmpDu_bd (a d : Du) : -1 ≤ cmpDu a d ∧ cmpDu a d ≤ 1 := by
  have h1 := cmpI_bd a.bg d.bg
  have h2 := cmpI_bd a.who d.who
  unfold cmpDu
  simp only [orL]
  repeat' split
  all_goals omega

set_option maxRecDepth 100000 in
set_option maxHeartbeats 1000000 in
theorem compareDu_any (a d : Du) (w : World) :
    Calls Try.prog 56 #[.agg #[.int .i64 a.who, .int .i64 a.bg, .int .i64 a.en, .bool a.ch], .agg #[.int .i64 d.who, .int .i64 d.bg, .int .i64 d.en, .bool d.ch]] w fun e w' => e = .returned (.int .i64 (cmpDu a d)) ∧ Below w.heap.size w w' := by
  go_enter Try.func56, Try.ntmps56
  go_wp2_with fail
  go_region_held3 (fun w' => w'.cell? ⟨w.heap.size, 0, none⟩ = some (.int .i64 a.who) ∧ w'.cell? ⟨w.heap.size, 1, none⟩ = some (.int .i64 a.bg) ∧ w'.cell? ⟨w.heap.size + 1, 0, none⟩ = some (.int .i64 d.who) ∧ w'.cell? ⟨w.heap.size + 1, 1, none⟩ = some (.int .i64 d.bg))
    (go_keep) (first | (go_at_call 74; (with_reducible refine (cmp_any _ _ _).mono ?_); rintro e w' ⟨rfl, rfl⟩) | (go_at_call 86; (with_reducible refine (or2_any (cmpI a.bg d.bg) (cmpI a.who d.who) _ _ _ ?_).mono ?_); exact RowAt.of_block encI_len (heap_new3 _ _ _ _) rfl; rintro e w' ⟨rfl, rfl⟩))
  go_wp2
  go_ret
  exact ⟨rfl, (by repeat (first | exact bref _ | (refine balloc ?_ _) | (refine bdrew ?_) | (refine bdrewN ?_ _) | (refine bstep ?_ (by assumption))))⟩

set_option maxHeartbeats 1000000 in
theorem goTogether_any (e d : Du) (w : World) (he : duB e = true) (hd : duB d = true) :
    Calls Try.prog 59 #[.agg #[.int .i64 e.who, .int .i64 e.bg, .int .i64 e.en, .bool e.ch], .agg #[.int .i64 d.who, .int .i64 d.bg, .int .i64 d.en, .bool d.ch]] w fun r w' => r = .returned (.bool (togB e d)) ∧ Below w.heap.size w w' := by
  obtain ⟨_, e2, e3, _⟩ := duB_bounds he
  obtain ⟨_, d2, d3, _⟩ := duB_bounds hd
  by_cases h1 : 8 ≤ d.bg - e.en
  · have HF := Lib.hid (show togB e d = true by simp [togB, h1])
    go_enter Try.func59, Try.ntmps59
    go_wp2
    go_ret
    exact ⟨ret_bool HF.out.symm, (by repeat (first | exact bref _ | (refine balloc ?_ _) | (refine bdrew ?_) | (refine bdrewN ?_ _) | (refine bstep ?_ (by assumption))))⟩
  · by_cases h2 : d.bg - e.en = 0
    · have HF := Lib.hid (show togB e d = decide (d.en - e.bg ≤ 12) by simp [togB, h1, h2])
      have h3 : (d.bg - e.en == 0) = true := by simpa using h2
      clear h2
      go_enter Try.func59, Try.ntmps59
      go_wp2
      go_ret
      exact ⟨ret_bool HF.out.symm, (by repeat (first | exact bref _ | (refine balloc ?_ _) | (refine bdrew ?_) | (refine bdrewN ?_ _) | (refine bstep ?_ (by assumption))))⟩
    · have HF := Lib.hid (show togB e d = false by simp [togB, h1, h2])
      have h3 : (d.bg - e.en == 0) = false := by simpa using h2
      clear h2
      go_enter Try.func59, Try.ntmps59
      go_wp2
      go_ret
      exact ⟨ret_bool HF.out.symm, (by repeat (first | exact bref _ | (refine balloc ?_ _) | (refine bdrew ?_) | (refine bdrewN ?_ _) | (refine bstep ?_ (by assumption))))⟩

theorem freeB_other {e d : Du} (h : (e.who != d.who) = true) : freeB e d = true := by simp [freeB, h]
theorem freeB_same {e d : Du} (h : (e.who != d.who) = false) : freeB e d = togB e d := by simp [freeB, h]

set_option maxHeartbeats 1000000 in
theorem closDu_any (e d : Du) (b : Nat) (w : World) (he : duB e = true) (hd : duB d = true) (q0 : w.cell? ⟨b, 0, none⟩ = some (.int .i64 d.who)) (q1 : w.cell? ⟨b, 1, none⟩ = some (.int .i64 d.bg)) (q2 : w.cell? ⟨b, 2, none⟩ = some (.int .i64 d.en)) (q3 : w.cell? ⟨b, 3, none⟩ = some (.bool d.ch)) :
    Calls Try.prog 58 #[.agg #[.int .i64 e.who, .int .i64 e.bg, .int .i64 e.en, .bool e.ch], .pointer (some ⟨b, 0, none⟩)] w fun r w' => r = .returned (.bool (freeB e d)) ∧ Below w.heap.size w w' := by
  have hb : b < w.heap.size := World.block_lt_of_cell? w ⟨b, 0, none⟩ q0
  have hc := Lib.hid (And.intro he hd)
  clear he hd
  cases h1 : (e.who != d.who)
  · rw [freeB_same h1]
    go_enter Try.func58, Try.ntmps58
    go_wp2_with (go_at_call 59; (with_reducible refine (goTogether_any e d _ hc.out.1 hc.out.2).mono ?_); rintro e w1 ⟨rfl, hb1⟩; obtain ⟨hc_hb1, hf_hb1, hz_hb1⟩ := bcell (B := w.heap.size + 1) (by first | omega | (simp; done) | (simp; omega)) hb1)
    go_ret
    exact ⟨rfl, (by repeat (first | exact bref _ | (refine balloc ?_ _) | (refine bdrew ?_) | (refine bdrewN ?_ _) | (refine bstep ?_ (by assumption))))⟩
  · rw [freeB_other h1]
    go_enter Try.func58, Try.ntmps58
    go_wp2_with fail
    go_ret
    exact ⟨rfl, (by repeat (first | exact bref _ | (refine balloc ?_ _) | (refine bdrew ?_) | (refine bdrewN ?_ _) | (refine bstep ?_ (by assumption))))⟩

theorem RowAt.take {α : Type} {k : Nat} {enc : α → List Value} {w : World} {A : Option Addr} {l : List α} (h : RowAt k enc w A l) (j : Nat) : RowAt k enc w A (l.take j) := fun hl => by
  obtain ⟨b, off, e, hb, hc⟩ := h (by rintro rfl; simp at hl)
  refine ⟨b, off, e, hb, fun i m hi => hc i m ?_⟩
  rw [List.getElem?_take] at hi
  split at hi
  · exact hi
  · cases hi

/-- impl.all over list[:k] with the closure of AreDuties. -/
theorem allTake_any (l : List Du) (k : Nat) (d : Du) (A : Option Addr) (c b : Nat) (w : World) (hr : RowAt 4 encDu w A l) (hk : k ≤ l.length) (hlen : l.length ≤ 2097152) (hup : UpTo (fun i => okDu l i = true) k) (hd : duB d = true)
    (q0 : w.cell? ⟨b, 0, none⟩ = some (.int .i64 d.who)) (q1 : w.cell? ⟨b, 1, none⟩ = some (.int .i64 d.bg)) (q2 : w.cell? ⟨b, 2, none⟩ = some (.int .i64 d.en)) (q3 : w.cell? ⟨b, 3, none⟩ = some (.bool d.ch)) :
    Calls Try.prog 57 #[.slice A k c, .func (.func 58) #[] #[.pointer (some ⟨b, 0, none⟩)]] w fun r w' => r = .returned (.bool ((l.take k).all (fun e => freeB e d))) ∧ Below w.heap.size w w' := by
  have hb : b < w.heap.size := World.block_lt_of_cell? w ⟨b, 0, none⟩ q0
  have hl : (l.take k).length = k := by rw [List.length_take, Nat.min_eq_left hk]
  have h := allDu_any (l.take k) A c 58 #[.pointer (some ⟨b, 0, none⟩)] (fun e => freeB e d) (enters_of Try.func58 (by kernel_rfl) rfl) w (hr.take k) (by omega) (fun w1 hb1 e he => by
    obtain ⟨i, hi, hei⟩ := List.mem_iff_getElem.1 he
    have hi' : i < k := by omega
    have hget : l[i]? = some e := by
      rw [← hei, List.getElem_take]
      exact List.getElem?_eq_getElem _
    exact closDu_any e d b w1 (okDu_one hget (hup i hi')) hd ((hb1.cell (p := ⟨b, 0, none⟩) hb).trans q0) ((hb1.cell (p := ⟨b, 1, none⟩) hb).trans q1) ((hb1.cell (p := ⟨b, 2, none⟩) hb).trans q2) ((hb1.cell (p := ⟨b, 3, none⟩) hb).trans q3))
  rw [hl] at h
  exact h

theorem ext9 {W w1 : World} {b o : Nat} {v : Value} (hb : Below W.heap.size W w1) (h : b < W.heap.size) (hc : W.cell? ⟨b, o, none⟩ = some v) : w1.cell? ⟨b, o, none⟩ = some v :=
  (hb.cell (p := ⟨b, o, none⟩) h).trans hc
theorem box4 (w : World) (T : Nat) (a b c d : Value) : (w.alloc (.cells #[a, b, c, d] T)).cell? ⟨w.heap.size, 0, none⟩ = some a ∧ (w.alloc (.cells #[a, b, c, d] T)).cell? ⟨w.heap.size, 1, none⟩ = some b ∧
    (w.alloc (.cells #[a, b, c, d] T)).cell? ⟨w.heap.size, 2, none⟩ = some c ∧ (w.alloc (.cells #[a, b, c, d] T)).cell? ⟨w.heap.size, 3, none⟩ = some d := by
  simp [go_sem]

set_option maxRecDepth 100000 in
set_option maxHeartbeats 2000000 in
theorem iAreDu_any (l : List Du) (A : Option Addr) (c : Nat) (w : World) (hr : RowAt 4 encDu w A l) (hlen : l.length ≤ 2097152) (hcap : l.length ≤ c) :
    Calls Try.prog 20 #[.slice A l.length c] w fun e w' => e = .returned (.bool (goodDu l)) ∧ Below w.heap.size w w' := by
  have hmf : ∀ (fn : Fn) (first cap : Array Value) (w : World), (Instr.makeFunc fn first cap).run Try.prog w = .ok (.func fn first cap) w := fun _ _ _ _ => rfl
  have HR := Lib.hid hr
  clear hr
  go_enter Try.func20, Try.ntmps20
  go_wp2_with fail
  go_loopw [7] (fun i wr => ∃ k : Nat, k ≤ l.length ∧ i = .int .i64 k ∧ Below w.heap.size w wr ∧ UpTo (fun i => okDu l i = true) k) (fun i _ => l.length - (intOf i).toNat)
  case atStart => exact ⟨0, Nat.zero_le _, rfl, bref _, UpTo.zero _⟩
  case round =>
    obtain ⟨k, hk, rfl, hbr, hup⟩ := hrel
    by_cases hlt : k < l.length
    · obtain ⟨d, hd⟩ := some_get hlt
      have i1 := ib1 hlt
      cases h1 : duB d
      · obtain ⟨b, off, rfl, hb, q0, q1, q2, q3⟩ := (HR.out.below hbr).du hd
        have i0 := ib0 k
        have HF := Lib.hid (show goodDu l = false from allOK_no hlt (okDu_bad hd h1))
        have e1 : dutyB d.who d.bg d.en = false := h1
        clear hup hd h1
        go_wp2_with fail
        (refine wp_region_calm (by kernel_rfl) (by kernel_rfl) ?_; (repeat (go_big_quiet_step (((go_at_call 16; exact calm_of (isDuty_any _ _ _ _ _)))))); refine wpQuiet_nil ?_; intro xw; have hb1 := xw.is; generalize xw.w = w1 at hb1 ⊢; clear xw)
        go_wp2
        go_ret
        exact ⟨ret_bool HF.out.symm, bstep (balloc hbr _) hb1⟩
      · have e1 : dutyB d.who d.bg d.en = true := h1
        rcases k with _ | k
        · obtain ⟨b, off, rfl, hb, q0, q1, q2, q3⟩ := (HR.out.below hbr).du hd
          have Hu := Lib.hid (hup.succ (okDu_zero hd h1))
          have Hp := Lib.hid hup
          have H1 := Lib.hid h1
          simp only [Nat.zero_mul, Nat.add_zero] at q0 q1 q2 q3
          have i0 : 0 < l.length := hlt
          clear hup hd h1
          go_wp2_with fail
          (refine wp_region_calm (by kernel_rfl) (by kernel_rfl) ?_; (repeat (go_big_quiet_step (((go_at_call 16; exact calm_of (isDuty_any _ _ _ _ _)))))); refine wpQuiet_nil ?_; intro xw; have hb1 := xw.is; generalize xw.w = w1 at hb1 ⊢; clear xw)
          obtain ⟨p0, p1, p2, p3⟩ := box4 wr 25 (.int .i64 d.who) (.int .i64 d.bg) (.int .i64 d.en) (.bool d.ch)
          go_wp2_with (go_at_call 57; (with_reducible refine (allTake_any l 0 d _ _ wr.heap.size _ (HR.out.below (bstep (balloc hbr _) hb1)) (Nat.zero_le _) hlen Hp.out H1.out (ext9 hb1 (by simp) p0) (ext9 hb1 (by simp) p1) (ext9 hb1 (by simp) p2) (ext9 hb1 (by simp) p3)).mono ?_); rintro r w2 ⟨rfl, hb2⟩)
          go_roundw
          case rel => exact ⟨1, by omega, rfl, bstep (bstep (balloc hbr _) hb1) hb2, Hu.out⟩
          case measure => simp [intOf]; omega
        · obtain ⟨p, hp⟩ := some_get (show k < l.length by omega)
          obtain ⟨b, off, rfl, hb, q0, q1, q2, q3, r0, r1, r2, r3⟩ := (HR.out.below hbr).du2 hd hp
          have i0 := ib0 (k + 1)
          have hcn := cmpDu_neg p d
          have hcb := cmpDu_bd p d
          cases h2 : ltDu p d
          · have hge : 0 ≤ cmpDu p d := by simpa [h2] using hcn
            have HF := Lib.hid (show goodDu l = false from allOK_no hlt (okDu_lt hd hp h2))
            clear hup hd hp h1 h2 hcn hmf
            go_wp2_with fail
            (refine wp_region_calm (by kernel_rfl) (by kernel_rfl) ?_; (repeat (go_big_quiet_step ((first | (go_at_call 16; exact calm_of (isDuty_any _ _ _ _ _)) | (go_at_call 56; exact calm_of (compareDu_any p d _)))))); refine wpQuiet_nil ?_; intro xw; have hb1 := xw.is; generalize xw.w = w1 at hb1 ⊢; clear xw)
            go_wp2
            go_ret
            exact ⟨ret_bool HF.out.symm, bstep (balloc hbr _) hb1⟩
          · have hlt0 : cmpDu p d < 0 := by
              rw [h2] at hcn
              simpa using hcn
            have Hp := Lib.hid hup
            have H1 := Lib.hid h1
            have H2 := Lib.hid h2
            have HD := Lib.hid hd
            have HQ := Lib.hid hp
            clear hup hd hp h1 h2 hcn
            cases h3 : (l.take (k + 1)).all (fun e => freeB e d)
            · have HF := Lib.hid (show goodDu l = false from allOK_no hlt (okDu_all HD.out h3))
              have H3 := Lib.hid h3
              clear h3
              go_wp2_with fail
              (refine wp_region_calm (by kernel_rfl) (by kernel_rfl) ?_; (repeat (go_big_quiet_step ((first | (go_at_call 16; exact calm_of (isDuty_any _ _ _ _ _)) | (go_at_call 56; exact calm_of (compareDu_any p d _)))))); refine wpQuiet_nil ?_; intro xw; have hb1 := xw.is; generalize xw.w = w1 at hb1 ⊢; clear xw)
              obtain ⟨p0, p1, p2, p3⟩ := box4 wr 25 (.int .i64 d.who) (.int .i64 d.bg) (.int .i64 d.en) (.bool d.ch)
              go_wp2_with (go_at_call 57; (with_reducible refine (allTake_any l (k + 1) d _ _ wr.heap.size _ (HR.out.below (bstep (balloc hbr _) hb1)) hk hlen Hp.out H1.out (ext9 hb1 (by simp) p0) (ext9 hb1 (by simp) p1) (ext9 hb1 (by simp) p2) (ext9 hb1 (by simp) p3)).mono ?_); rw [H3.out]; rintro r w2 ⟨rfl, hb2⟩)
              go_ret
              exact ⟨ret_bool HF.out.symm, bstep (bstep (balloc hbr _) hb1) hb2⟩
            · have Hu := Lib.hid (Hp.out.succ (okDu_succ HD.out HQ.out H1.out H2.out h3))
              have H3 := Lib.hid h3
              clear h3
              go_wp2_with fail
              (refine wp_region_calm (by kernel_rfl) (by kernel_rfl) ?_; (repeat (go_big_quiet_step ((first | (go_at_call 16; exact calm_of (isDuty_any _ _ _ _ _)) | (go_at_call 56; exact calm_of (compareDu_any p d _)))))); refine wpQuiet_nil ?_; intro xw; have hb1 := xw.is; generalize xw.w = w1 at hb1 ⊢; clear xw)
              obtain ⟨p0, p1, p2, p3⟩ := box4 wr 25 (.int .i64 d.who) (.int .i64 d.bg) (.int .i64 d.en) (.bool d.ch)
              go_wp2_with (go_at_call 57; (with_reducible refine (allTake_any l (k + 1) d _ _ wr.heap.size _ (HR.out.below (bstep (balloc hbr _) hb1)) hk hlen Hp.out H1.out (ext9 hb1 (by simp) p0) (ext9 hb1 (by simp) p1) (ext9 hb1 (by simp) p2) (ext9 hb1 (by simp) p3)).mono ?_); rw [H3.out]; rintro r w2 ⟨rfl, hb2⟩)
              go_roundw
              case rel => exact ⟨k + 2, by omega, by go_num, bstep (bstep (balloc hbr _) hb1) hb2, Hu.out⟩
              case measure => simp [intOf]; omega
    · obtain rfl : k = l.length := by omega
      have HF := Lib.hid (show goodDu l = _ from allOK_yes hup)
      clear hup hmf
      go_wp2
      go_ret
      exact ⟨ret_bool (by rw [HF.out, decide_eq_decide]; omega), hbr⟩

set_option maxHeartbeats 1000000 in
theorem l17Clash_any (e d : Du) (w : World) (he : duB e = true) (hd : duB d = true) :
    Calls Try.prog 85 #[.agg #[.int .i64 e.who, .int .i64 e.bg, .int .i64 e.en, .bool e.ch], .agg #[.int .i64 d.who, .int .i64 d.bg, .int .i64 d.en, .bool d.ch]] w fun r w' => r = .returned (.bool !(freeB e d)) ∧ Below w.heap.size w w' := by
  obtain ⟨_, e2, e3, _⟩ := duB_bounds he
  obtain ⟨_, d2, d3, _⟩ := duB_bounds hd
  cases h1 : (e.who != d.who)
  · rw [freeB_same h1]
    by_cases h2 : e.en + 8 ≤ d.bg
    · have HF := Lib.hid (show togB e d = true by simp only [togB, decide_eq_true_eq]; omega)
      go_enter Try.func85, Try.ntmps85
      go_wp2
      go_ret
      exact ⟨ret_bool (by rw [HF.out]; rfl), (by repeat (first | exact bref _ | (refine balloc ?_ _) | (refine bdrew ?_) | (refine bdrewN ?_ _) | (refine bstep ?_ (by assumption))))⟩
    · by_cases h3 : d.bg = e.en
      · have HF := Lib.hid (show togB e d = decide (d.en - e.bg ≤ 12) by simp only [togB, decide_eq_decide]; omega)
        have h4 : (d.bg != e.en) = false := by simpa using h3
        clear h3
        go_enter Try.func85, Try.ntmps85
        go_wp2
        go_ret
        exact ⟨ret_bool (by rw [HF.out, Bool.eq_iff_iff]; simp), (by repeat (first | exact bref _ | (refine balloc ?_ _) | (refine bdrew ?_) | (refine bdrewN ?_ _) | (refine bstep ?_ (by assumption))))⟩
      · have HF := Lib.hid (show togB e d = false by simp only [togB, decide_eq_false_iff_not]; omega)
        have h4 : (d.bg != e.en) = true := by simpa using h3
        clear h3
        go_enter Try.func85, Try.ntmps85
        go_wp2
        go_ret
        exact ⟨ret_bool (by rw [HF.out]; rfl), (by repeat (first | exact bref _ | (refine balloc ?_ _) | (refine bdrew ?_) | (refine bdrewN ?_ _) | (refine bstep ?_ (by assumption))))⟩
  · rw [freeB_other h1]
    go_enter Try.func85, Try.ntmps85
    go_wp2
    go_ret
    exact ⟨rfl, (by repeat (first | exact bref _ | (refine balloc ?_ _) | (refine bdrew ?_) | (refine bdrewN ?_ _) | (refine bstep ?_ (by assumption))))⟩

theorem l17Clash_yes (e d : Du) (w : World) (he : duB e = true) (hd : duB d = true) (h : freeB e d = false) :
    Calls Try.prog 85 #[.agg #[.int .i64 e.who, .int .i64 e.bg, .int .i64 e.en, .bool e.ch], .agg #[.int .i64 d.who, .int .i64 d.bg, .int .i64 d.en, .bool d.ch]] w fun r w' => r = .returned (.bool true) ∧ Below w.heap.size w w' := by
  have hh := l17Clash_any e d w he hd
  rw [h] at hh
  exact hh
theorem l17Clash_no (e d : Du) (w : World) (he : duB e = true) (hd : duB d = true) (h : freeB e d = true) :
    Calls Try.prog 85 #[.agg #[.int .i64 e.who, .int .i64 e.bg, .int .i64 e.en, .bool e.ch], .agg #[.int .i64 d.who, .int .i64 d.bg, .int .i64 d.en, .bool d.ch]] w fun r w' => r = .returned (.bool false) ∧ Below w.heap.size w w' := by
  have hh := l17Clash_any e d w he hd
  rw [h] at hh
  exact hh
theorem takeAll_no {l : List Du} {d e : Du} {k j : Nat} (hj : j < k) (he : l[j]? = some e) (h : freeB e d = false) : (l.take k).all (fun e => freeB e d) = false := by
  rw [List.all_eq_false]
  refine ⟨e, ?_, by simp [h]⟩
  exact List.mem_of_getElem? (i := j) (by rw [List.getElem?_take, if_pos hj]; exact he)
theorem takeAll_yes {l : List Du} {d : Du} {k : Nat} (h : UpTo (fun j => ∀ e, l[j]? = some e → freeB e d = true) k) : (l.take k).all (fun e => freeB e d) = true := by
  rw [List.all_eq_true]
  intro e he
  obtain ⟨i, hi⟩ := List.mem_iff_getElem?.1 he
  rw [List.getElem?_take] at hi
  split at hi
  · exact h i (by assumption) e hi
  · cases hi
theorem ltDu_of {p d : Du} : ltDu p d = (!decide (d.bg < p.bg) && !(p.bg == d.bg && decide (d.who ≤ p.who))) := by
  rw [Bool.eq_iff_iff]
  simp [ltDu]
  omega

set_option maxRecDepth 100000 in
set_option maxHeartbeats 2000000 in
theorem sgoodDu_any (l : List Du) (A : Option Addr) (c : Nat) (w : World) (hr : RowAt 4 encDu w A l) (hlen : l.length ≤ 2097152) :
    Calls Try.prog 55 #[.slice A l.length c] w fun e w' => e = .returned (.bool (goodDu l)) ∧ Below w.heap.size w w' := by
  have HR := Lib.hid hr
  clear hr
  go_enter Try.func55, Try.ntmps55
  go_wp2_with fail
  go_loopw [3] (fun i wr => ∃ k : Nat, k ≤ l.length ∧ i = .int .i64 k ∧ Below w.heap.size w wr ∧ UpTo (fun i => okDu l i = true) k) (fun i _ => l.length - (intOf i).toNat)
  case atStart => exact ⟨0, Nat.zero_le _, rfl, bref _, UpTo.zero _⟩
  case round =>
    obtain ⟨k, hk, rfl, hbr, hup⟩ := hrel
    obtain ⟨wo, rfl⟩ : ∃ wo : World, wo = wr := ⟨_, rfl⟩
    by_cases hlt : k < l.length
    · obtain ⟨d, hd⟩ := some_get hlt
      have i1 := ib1 hlt
      cases h1 : duB d
      · obtain ⟨b, off, rfl, hb, q0, q1, q2, q3⟩ := (HR.out.below hbr).du hd
        have i0 := ib0 k
        have HF := Lib.hid (show goodDu l = false from allOK_no hlt (okDu_bad hd h1))
        have e1 : dutyB d.who d.bg d.en = false := h1
        clear hup hd h1
        go_wp2_with fail
        (refine wp_region_calm (by kernel_rfl) (by kernel_rfl) ?_; (repeat (go_big_quiet_step (((go_at_call 52; exact calm_of (l17One_any _ _ _ _ _)))))); refine wpQuiet_nil ?_; intro xw; have hb1 := xw.is; generalize xw.w = w1 at hb1 ⊢; clear xw)
        go_wp2
        go_ret
        exact ⟨ret_bool HF.out.symm, bstep (balloc hbr _) hb1⟩
      · have e1 : dutyB d.who d.bg d.en = true := h1
        rcases k with _ | k
        · obtain ⟨b, off, rfl, hb, q0, q1, q2, q3⟩ := (HR.out.below hbr).du hd
          have i0 : 0 < l.length := hlt
          have Hp := Lib.hid hup
          have H1 := Lib.hid h1
          have HD := Lib.hid hd
          simp only [Nat.zero_mul, Nat.add_zero] at q0 q1 q2 q3
          clear hup hd h1
          go_wp2_with fail
          (refine wp_region_calm (by kernel_rfl) (by kernel_rfl) ?_; (repeat (go_big_quiet_step (((go_at_call 52; exact calm_of (l17One_any _ _ _ _ _)))))); refine wpQuiet_nil ?_; intro xw; have hb1 := xw.is; generalize xw.w = w1 at hb1 ⊢; clear xw)
          have hb9 := bstep (balloc hbr _) hb1
          have Hu := Lib.hid (Hp.out.succ (okDu_zero HD.out H1.out))
          go_wp2_with fail
          refine wp_loop_rounds 1 ?_
          rw [rounds_succ]
          go_wp2
          go_roundw
          case rel => exact ⟨1, by omega, rfl, hb9, Hu.out⟩
          case measure => simp [intOf]; omega
        · obtain ⟨p, hp⟩ := some_get (show k < l.length by omega)
          obtain ⟨b, off, rfl, hb, q0, q1, q2, q3, r0, r1, r2, r3⟩ := (HR.out.below hbr).du2 hd hp
          have i0 := ib0 (k + 1)
          have hl0 := @ltDu_of p d
          by_cases g1 : d.bg < p.bg
          · have HF := Lib.hid (show goodDu l = false from allOK_no hlt (okDu_lt hd hp (by rw [hl0]; simp [g1])))
            clear hup hd hp h1 hl0
            go_wp2_with fail
            (refine wp_region_calm (by kernel_rfl) (by kernel_rfl) ?_; (repeat (go_big_quiet_step (((go_at_call 52; exact calm_of (l17One_any _ _ _ _ _)))))); refine wpQuiet_nil ?_; intro xw; have hb1 := xw.is; generalize xw.w = w1 at hb1 ⊢; clear xw)
            go_wp2
            go_ret
            exact ⟨ret_bool HF.out.symm, bstep (balloc hbr _) hb1⟩
          · have g1' : decide (d.bg < p.bg) = false := decide_eq_false g1
            cases g2 : (p.bg == d.bg)
            · have H2 := Lib.hid (show ltDu p d = true by rw [hl0]; simp [g1, g2])
              clear hl0
              have Hp := Lib.hid hup
              have H1 := Lib.hid h1
              have HD := Lib.hid hd
              have HQ := Lib.hid hp
              clear hup hd h1 hp
              go_wp2_with fail
              (refine wp_region_calm (by kernel_rfl) (by kernel_rfl) ?_; (repeat (go_big_quiet_step (((go_at_call 52; exact calm_of (l17One_any _ _ _ _ _)))))); refine wpQuiet_nil ?_; intro xw; have hb1 := xw.is; generalize xw.w = w1 at hb1 ⊢; clear xw)
              obtain ⟨p0, p1, p2, p3⟩ := box4 wo 25 (.int .i64 d.who) (.int .i64 d.bg) (.int .i64 d.en) (.bool d.ch)
              have hb9 := bstep (balloc hbr _) hb1
              go_wp2_with fail
              go_loopw [5] (fun v wi => ∃ j : Nat, j ≤ (k + 1) ∧ v = .int .i64 j ∧ Below w1.heap.size w1 wi ∧ UpTo (fun j => ∀ e, l[j]? = some e → freeB e d = true) j) (fun v _ => (k + 1) - (intOf v).toNat)
              case atStart => exact ⟨0, Nat.zero_le _, rfl, bref _, UpTo.zero _⟩
              case round =>
                obtain ⟨j, hj, rfl, hbi, huj⟩ := hrel
                by_cases hlj : j < (k + 1)
                · obtain ⟨e, he⟩ := some_get (show j < l.length by omega)
                  have j0 := ib0 j
                  have j1 := ib1 (show j < l.length by omega)
                  have hde := Lib.hid (okDu_one he (Hp.out j hlj))
                  obtain ⟨b2, off2, eA, hb2, s0, s1, s2, s3⟩ := (HR.out.below (bstep hb9 hbi)).du he
                  cases eA
                  have hz := hbi.size
                  have hz1 := hb1.size
                  have t0 := ext9 hbi (by simp at hz1 ⊢; omega) (ext9 hb1 (by simp) p0)
                  have t1 := ext9 hbi (by simp at hz1 ⊢; omega) (ext9 hb1 (by simp) p1)
                  have t2 := ext9 hbi (by simp at hz1 ⊢; omega) (ext9 hb1 (by simp) p2)
                  have t3 := ext9 hbi (by simp at hz1 ⊢; omega) (ext9 hb1 (by simp) p3)
                  have hbx : wo.heap.size < wr.heap.size := by simp at hz1; omega
                  cases hf : freeB e d
                  · have HF := Lib.hid (show goodDu l = false from allOK_no hlt (okDu_all HD.out (takeAll_no hlj he hf)))
                    have Hf := Lib.hid hf
                    clear huj he hf
                    go_wp2_with fail
                    (refine wp_region_calm (by kernel_rfl) (by kernel_rfl) ?_; (repeat (go_big_quiet_step (((go_at_call 85; exact calm_of (l17Clash_yes e d _ hde.out H1.out Hf.out)))))); refine wpQuiet_nil ?_; intro xw; have hb3 := xw.is; generalize xw.w = w3 at hb3 ⊢; clear xw)
                    go_wp2
                    go_ret
                    exact ⟨ret_bool HF.out.symm, bstep (bstep hb9 hbi) hb3⟩
                  · have Hv := Lib.hid (huj.succ (P := fun j => ∀ e, l[j]? = some e → freeB e d = true) (fun e' he' => by rw [he] at he'; cases he'; exact hf))
                    have Hf := Lib.hid hf
                    clear huj he hf
                    go_wp2_with fail
                    (refine wp_region_calm (by kernel_rfl) (by kernel_rfl) ?_; (repeat (go_big_quiet_step (((go_at_call 85; exact calm_of (l17Clash_no e d _ hde.out H1.out Hf.out)))))); refine wpQuiet_nil ?_; intro xw; have hb3 := xw.is; generalize xw.w = w3 at hb3 ⊢; clear xw)
                    go_wp2
                    go_roundw
                    case rel => exact ⟨j + 1, by omega, by go_num, bstep hbi hb3, Hv.out⟩
                    case measure => simp [intOf]; omega
                · obtain rfl : j = (k + 1) := by omega
                  have Hu := Lib.hid (Hp.out.succ (okDu_succ HD.out HQ.out H1.out H2.out (takeAll_yes huj)))
                  clear huj
                  go_wp2
                  go_roundw
                  case rel => exact ⟨k + 2, by omega, by go_num, bstep hb9 hbi, Hu.out⟩
                  case measure => simp [intOf]; omega
            · by_cases g3 : d.who ≤ p.who
              · have HF := Lib.hid (show goodDu l = false from allOK_no hlt (okDu_lt hd hp (by rw [hl0]; simp [g2, g3])))
                clear hup hd hp h1 hl0
                go_wp2_with fail
                (refine wp_region_calm (by kernel_rfl) (by kernel_rfl) ?_; (repeat (go_big_quiet_step (((go_at_call 52; exact calm_of (l17One_any _ _ _ _ _)))))); refine wpQuiet_nil ?_; intro xw; have hb1 := xw.is; generalize xw.w = w1 at hb1 ⊢; clear xw)
                go_wp2
                go_ret
                exact ⟨ret_bool HF.out.symm, bstep (balloc hbr _) hb1⟩
              · have H2 := Lib.hid (show ltDu p d = true by rw [hl0]; simp [g1, g3])
                clear hl0
                have Hp := Lib.hid hup
                have H1 := Lib.hid h1
                have HD := Lib.hid hd
                have HQ := Lib.hid hp
                clear hup hd h1 hp
                go_wp2_with fail
                (refine wp_region_calm (by kernel_rfl) (by kernel_rfl) ?_; (repeat (go_big_quiet_step (((go_at_call 52; exact calm_of (l17One_any _ _ _ _ _)))))); refine wpQuiet_nil ?_; intro xw; have hb1 := xw.is; generalize xw.w = w1 at hb1 ⊢; clear xw)
                obtain ⟨p0, p1, p2, p3⟩ := box4 wo 25 (.int .i64 d.who) (.int .i64 d.bg) (.int .i64 d.en) (.bool d.ch)
                have hb9 := bstep (balloc hbr _) hb1
                go_wp2_with fail
                go_loopw [5] (fun v wi => ∃ j : Nat, j ≤ (k + 1) ∧ v = .int .i64 j ∧ Below w1.heap.size w1 wi ∧ UpTo (fun j => ∀ e, l[j]? = some e → freeB e d = true) j) (fun v _ => (k + 1) - (intOf v).toNat)
                case atStart => exact ⟨0, Nat.zero_le _, rfl, bref _, UpTo.zero _⟩
                case round =>
                  obtain ⟨j, hj, rfl, hbi, huj⟩ := hrel
                  by_cases hlj : j < (k + 1)
                  · obtain ⟨e, he⟩ := some_get (show j < l.length by omega)
                    have j0 := ib0 j
                    have j1 := ib1 (show j < l.length by omega)
                    have hde := Lib.hid (okDu_one he (Hp.out j hlj))
                    obtain ⟨b2, off2, eA, hb2, s0, s1, s2, s3⟩ := (HR.out.below (bstep hb9 hbi)).du he
                    cases eA
                    have hz := hbi.size
                    have hz1 := hb1.size
                    have t0 := ext9 hbi (by simp at hz1 ⊢; omega) (ext9 hb1 (by simp) p0)
                    have t1 := ext9 hbi (by simp at hz1 ⊢; omega) (ext9 hb1 (by simp) p1)
                    have t2 := ext9 hbi (by simp at hz1 ⊢; omega) (ext9 hb1 (by simp) p2)
                    have t3 := ext9 hbi (by simp at hz1 ⊢; omega) (ext9 hb1 (by simp) p3)
                    have hbx : wo.heap.size < wr.heap.size := by simp at hz1; omega
                    cases hf : freeB e d
                    · have HF := Lib.hid (show goodDu l = false from allOK_no hlt (okDu_all HD.out (takeAll_no hlj he hf)))
                      have Hf := Lib.hid hf
                      clear huj he hf
                      go_wp2_with fail
                      (refine wp_region_calm (by kernel_rfl) (by kernel_rfl) ?_; (repeat (go_big_quiet_step (((go_at_call 85; exact calm_of (l17Clash_yes e d _ hde.out H1.out Hf.out)))))); refine wpQuiet_nil ?_; intro xw; have hb3 := xw.is; generalize xw.w = w3 at hb3 ⊢; clear xw)
                      go_wp2
                      go_ret
                      exact ⟨ret_bool HF.out.symm, bstep (bstep hb9 hbi) hb3⟩
                    · have Hv := Lib.hid (huj.succ (P := fun j => ∀ e, l[j]? = some e → freeB e d = true) (fun e' he' => by rw [he] at he'; cases he'; exact hf))
                      have Hf := Lib.hid hf
                      clear huj he hf
                      go_wp2_with fail
                      (refine wp_region_calm (by kernel_rfl) (by kernel_rfl) ?_; (repeat (go_big_quiet_step (((go_at_call 85; exact calm_of (l17Clash_no e d _ hde.out H1.out Hf.out)))))); refine wpQuiet_nil ?_; intro xw; have hb3 := xw.is; generalize xw.w = w3 at hb3 ⊢; clear xw)
                      go_wp2
                      go_roundw
                      case rel => exact ⟨j + 1, by omega, by go_num, bstep hbi hb3, Hv.out⟩
                      case measure => simp [intOf]; omega
                  · obtain rfl : j = (k + 1) := by omega
                    have Hu := Lib.hid (Hp.out.succ (okDu_succ HD.out HQ.out H1.out H2.out (takeAll_yes huj)))
                    clear huj
                    go_wp2
                    go_roundw
                    case rel => exact ⟨k + 2, by omega, by go_num, bstep hb9 hbi, Hu.out⟩
                    case measure => simp [intOf]; omega
    · obtain rfl : k = l.length := by omega
      have HF := Lib.hid (show goodDu l = _ from allOK_yes hup)
      clear hup
      go_wp2
      go_ret
      exact ⟨ret_bool (by rw [HF.out, decide_eq_decide]; omega), hbr⟩

set_option maxHeartbeats 400000 in
theorem sAreDu_any (l : List Du) (A : Option Addr) (c : Nat) (w : World) (hr : RowAt 4 encDu w A l) (hlen : l.length ≤ 2097152) :
    Calls Try.prog 18 #[.slice A l.length c] w fun e w' => e = .returned (.bool (goodDu l)) ∧ Below w.heap.size w w' := by
  go_enter Try.func18, Try.ntmps18
  go_wp2_with (go_at_call 55; (with_reducible refine (sgoodDu_any _ _ _ _ hr hlen).mono ?_); rintro e w1 ⟨rfl, hb1⟩; obtain ⟨hc_hb1, hf_hb1, hz_hb1⟩ := bcell (B := w.heap.size) (by first | omega | (simp; done) | (simp; omega)) hb1)
  go_ret
  exact ⟨rfl, hb1⟩
end Go.Proofs.Ytldhlmjfpnpamaa
