/-
  The draws of module felt reports: what the laws ask for.
-/
import Derived.Test.YtjjinblahmcplaaFeDr2
import Derived.Test.YtjjinblahmcplaaByte
namespace Go.Proofs.Ytjjinblahmcplaa
open Go.RowKit
attribute [local go_sem] ext_cell ext_frozen

def FeRow (base : Nat) (w : World) (l : List Fe) (B : Option Addr) (cb : Nat) : Prop := l.length ≤ 13 ∧ w.ownsRow base 25 5 (.slice B l.length cb) l.length (l.flatMap encFe)
theorem FeRow.at_ {base : Nat} {w : World} {l : List Fe} {B : Option Addr} {cb : Nat} (h : FeRow base w l B cb) : RowAt 5 encFe w B l := RowAt.of_own h.2 encFe_len (by decide)
set_option maxRecDepth 100000 in
set_option maxHeartbeats 4000000 in
theorem drawAreFe_any (A : Option Addr) (n c : Nat) (w : World) (h : CodeAt w A n) (hn : n ≤ 65536) :
    Calls Try.prog 96 #[.slice A n c] w fun e w' => ∃ (l : List Fe) (B : Option Addr) (cb : Nat), e = .returned (.slice B l.length cb) ∧ FeRow w.heap.size w' l B cb ∧ Below w.heap.size w w' := by
  have HD := Lib.hid (dr_new (c := c) (E := 101) h)
  clear h
  have hp : w.heap.size < (w.alloc (.cells #[.slice A n c, .int .i64 0, .int .u64 0] 101)).heap.size := by simp
  go_enter Try.func96, Try.ntmps96
  go_wp2_with fail
  refine (felts_any _ HD.out (by omega) (by omega)).mono ?_; rintro e w1 ⟨l, B, cb, rfl, hl, ho1, hd1, hg1⟩
  have HO1 := Lib.hid ho1
  have HD1 := Lib.hid hd1
  have HG1 := Lib.hid hg1
  have hlt1 := hd1.lt
  clear ho1 hd1 hg1
  go_wp2_with fail
  go_ret
  exact ⟨l, B, cb, rfl, ⟨hl, own_base HO1.out (by simp)⟩, below_new HG1.out⟩
set_option maxHeartbeats 1000000 in
theorem drawStrong_any (A : Option Addr) (n c : Nat) (w : World) (h : CodeAt w A n) (hn : n ≤ 65536) :
    Calls Try.prog 48 #[.slice A n c] w fun e w' => ∃ (l : List Fe) (B : Option Addr) (cb : Nat), e = .returned (.slice B l.length cb) ∧ FeRow w.heap.size w' l B cb ∧ Below w.heap.size w w' := by
  have HH := Lib.hid h
  clear h
  go_enter Try.func48, Try.ntmps48
  go_wp2_with (go_at_call 96; (with_reducible refine (drawAreFe_any A n c _ HH.out hn).mono ?_); rintro e w1 ⟨l, B, cb, rfl, ho1, hb1⟩)
  go_ret
  exact ⟨l, B, cb, rfl, ho1, hb1⟩
set_option maxHeartbeats 1000000 in
theorem drawCounts_any (A : Option Addr) (n c : Nat) (w : World) (h : CodeAt w A n) (hn : n ≤ 65536) :
    Calls Try.prog 58 #[.slice A n c] w fun e w' => ∃ (l : List Fe) (B : Option Addr) (cb : Nat), e = .returned (.slice B l.length cb) ∧ FeRow w.heap.size w' l B cb ∧ Below w.heap.size w w' := by
  have HH := Lib.hid h
  clear h
  go_enter Try.func58, Try.ntmps58
  go_wp2_with (go_at_call 96; (with_reducible refine (drawAreFe_any A n c _ HH.out hn).mono ?_); rintro e w1 ⟨l, B, cb, rfl, ho1, hb1⟩)
  go_ret
  exact ⟨l, B, cb, rfl, ho1, hb1⟩
set_option maxRecDepth 100000 in
set_option maxHeartbeats 4000000 in
theorem drawCenter_any (A : Option Addr) (n c : Nat) (w : World) (h : CodeAt w A n) (hn : n ≤ 65536) :
    Calls Try.prog 49 #[.slice A n c] w fun e w' => ∃ (l : List Fe) (B : Option Addr) (cb : Nat) (t : Int), e = .returned (.tuple #[.slice B l.length cb, .int .i64 t]) ∧ FeRow w.heap.size w' l B cb ∧ Below w.heap.size w w' := by
  have HD := Lib.hid (dr_new (c := c) (E := 101) h)
  clear h
  have hp : w.heap.size < (w.alloc (.cells #[.slice A n c, .int .i64 0, .int .u64 0] 101)).heap.size := by simp
  have HOW := Lib.hid (fun (w : World) => own_made (E := 3) (K := 1) (n := 7) (cur := #[.int .i64 1, .int .i64 2, .int .i64 4, .int .i64 5, .int .i64 12, .int .i64 0, .int .i64 13]) (w := w) rfl (by decide))
  go_enter Try.func49, Try.ntmps49
  go_wp2_with fail
  refine (felts_any _ HD.out (by omega) (by omega)).mono ?_; rintro e w1 ⟨l, B, cb, rfl, hl, ho1, hd1, hg1⟩
  have HO1 := Lib.hid ho1
  have HD1 := Lib.hid hd1
  have HG1 := Lib.hid hg1
  have hlt1 := hd1.lt
  clear ho1 hd1 hg1
  go_wp2_with fail
  refine (pick_dr 24 _ (HD1.out.alloc _) (by omega) (by omega) (by decide)).mono ?_; rintro e v2 ⟨r2, rfl, hr2, hd, hg⟩
  have HR2 := Lib.hid (RowAt.of_own (l := [1, 2, 4, 5, 12, 0, 13]) (own_dr (HOW.out w1) hg hlt1) encI_len (by decide))
  have hq2 : r2 / 11 = 0 ∨ r2 / 11 = 1 ∨ r2 / 11 = 2 := by omega
  have HO2a := Lib.hid (own_dr (HO1.out.alloc _) hg hp)
  have HG2a := Lib.hid (only_two HG1.out (only_two (only_alloc (World.grownBy.refl w1 (some w.heap.size)) _) hg))
  have HD2a := Lib.hid hd
  clear hd hg hr2
  rcases hq2 with hq2 | hq2 | hq2
  · go_wp2_with fail
    refine (among_dr [1, 2, 4, 5, 12] 5 _ _ _ HD2a.out (by omega) (by omega) (row_front 5 HR2.out) (by omega) rfl (by decide) (by decide)).mono ?_; rintro e w2 ⟨x2, rfl, hx2, hd, hg⟩
    have HO2 := Lib.hid (own_dr HO2a.out hg hp)
    have HG2 := Lib.hid (only_two HG2a.out hg)
    have hlt2 := hd.lt
    have HD2 := Lib.hid hd
    clear hd hg hx2
    go_wp2_with fail
    go_ret2
    exact ⟨l, B, cb, x2, rfl, ⟨hl, own_base HO2.out (by simp)⟩, below_new HG2.out⟩
  · go_wp2_with fail
    refine (among_dr [1, 2, 4, 5, 12, 0] 6 _ _ _ HD2a.out (by omega) (by omega) (row_front 6 HR2.out) (by omega) rfl (by decide) (by decide)).mono ?_; rintro e w2 ⟨x2, rfl, hx2, hd, hg⟩
    have HO2 := Lib.hid (own_dr HO2a.out hg hp)
    have HG2 := Lib.hid (only_two HG2a.out hg)
    have hlt2 := hd.lt
    have HD2 := Lib.hid hd
    clear hd hg hx2
    go_wp2_with fail
    go_ret2
    exact ⟨l, B, cb, x2, rfl, ⟨hl, own_base HO2.out (by simp)⟩, below_new HG2.out⟩
  · go_wp2_with fail
    refine (among_dr [1, 2, 4, 5, 12, 0, 13] 7 _ _ _ HD2a.out (by omega) (by omega) (row_front 7 HR2.out) (by omega) rfl (by decide) (by decide)).mono ?_; rintro e w2 ⟨x2, rfl, hx2, hd, hg⟩
    have HO2 := Lib.hid (own_dr HO2a.out hg hp)
    have HG2 := Lib.hid (only_two HG2a.out hg)
    have hlt2 := hd.lt
    have HD2 := Lib.hid hd
    clear hd hg hx2
    go_wp2_with fail
    go_ret2
    exact ⟨l, B, cb, x2, rfl, ⟨hl, own_base HO2.out (by simp)⟩, below_new HG2.out⟩
set_option maxRecDepth 100000 in
set_option maxHeartbeats 4000000 in
theorem drawOdd_any (A : Option Addr) (n c : Nat) (w : World) (h : CodeAt w A n) (hn : n ≤ 65536) :
    Calls Try.prog 52 #[.slice A n c] w fun e w' => ∃ (l : List Fe) (B : Option Addr) (cb : Nat) (t u : Int), e = .returned (.tuple #[.slice B l.length cb, .int .i64 t, .int .i64 u]) ∧ FeRow w.heap.size w' l B cb ∧ Below w.heap.size w w' := by
  have HD := Lib.hid (dr_new (c := c) (E := 101) h)
  clear h
  have hp : w.heap.size < (w.alloc (.cells #[.slice A n c, .int .i64 0, .int .u64 0] 101)).heap.size := by simp
  have HOW := Lib.hid (fun (w : World) => own_made (E := 3) (K := 1) (n := 7) (cur := #[.int .i64 0, .int .i64 5, .int .i64 12, .int .i64 60, .int .i64 500, .int .i64 (-1), .int .i64 501]) (w := w) rfl (by decide))
  have HOV := Lib.hid (fun (w : World) => own_made (E := 3) (K := 1) (n := 6) (cur := #[.int .i64 0, .int .i64 1, .int .i64 2, .int .i64 11, .int .i64 (-1), .int .i64 12]) (w := w) rfl (by decide))
  go_enter Try.func52, Try.ntmps52
  go_wp2_with fail
  refine (felts_any _ HD.out (by omega) (by omega)).mono ?_; rintro e w1 ⟨l, B, cb, rfl, hl, ho1, hd1, hg1⟩
  have HO1 := Lib.hid ho1
  have HD1 := Lib.hid hd1
  have HG1 := Lib.hid hg1
  have hlt1 := hd1.lt
  clear ho1 hd1 hg1
  go_wp2_with fail
  refine (pick_dr 24 _ (HD1.out.alloc _) (by omega) (by omega) (by decide)).mono ?_; rintro e v2 ⟨r2, rfl, hr2, hd, hg⟩
  have HR2 := Lib.hid (RowAt.of_own (l := [0, 5, 12, 60, 500, -1, 501]) (own_dr (HOW.out w1) hg hlt1) encI_len (by decide))
  have hq2 : r2 / 11 = 0 ∨ r2 / 11 = 1 ∨ r2 / 11 = 2 := by omega
  have HO2a := Lib.hid (own_dr (HO1.out.alloc _) hg hp)
  have HG2a := Lib.hid (only_two HG1.out (only_two (only_alloc (World.grownBy.refl w1 (some w.heap.size)) _) hg))
  have HD2a := Lib.hid hd
  clear hd hg hr2
  rcases hq2 with hq2 | hq2 | hq2
  · go_wp2_with fail
    refine (among_dr [0, 5, 12, 60, 500] 5 _ _ _ HD2a.out (by omega) (by omega) (row_front 5 HR2.out) (by omega) rfl (by decide) (by decide)).mono ?_; rintro e w2 ⟨x2, rfl, hx2, hd, hg⟩
    have HO2 := Lib.hid (own_dr HO2a.out hg hp)
    have HG2 := Lib.hid (only_two HG2a.out hg)
    have hlt2 := hd.lt
    have HD2 := Lib.hid hd
    clear hd hg hx2
    go_wp2_with fail
    refine (pick_dr 24 _ (HD2.out.alloc _) (by omega) (by omega) (by decide)).mono ?_; rintro e v3 ⟨r3, rfl, hr3, hd, hg⟩
    have HR3 := Lib.hid (RowAt.of_own (l := [0, 1, 2, 11, -1, 12]) (own_dr (HOV.out w2) hg hlt2) encI_len (by decide))
    have hq3 : r3 / 11 = 0 ∨ r3 / 11 = 1 ∨ r3 / 11 = 2 := by omega
    have HO3a := Lib.hid (own_dr (HO2.out.alloc _) hg hp)
    have HG3a := Lib.hid (only_two HG2.out (only_two (only_alloc (World.grownBy.refl w2 (some w.heap.size)) _) hg))
    have HD3a := Lib.hid hd
    clear hd hg hr3
    rcases hq3 with hq3 | hq3 | hq3
    · go_wp2_with fail
      refine (among_dr [0, 1, 2, 11] 4 _ _ _ HD3a.out (by omega) (by omega) (row_front 4 HR3.out) (by omega) rfl (by decide) (by decide)).mono ?_; rintro e w3 ⟨x3, rfl, hx3, hd, hg⟩
      have HO3 := Lib.hid (own_dr HO3a.out hg hp)
      have HG3 := Lib.hid (only_two HG3a.out hg)
      have hlt3 := hd.lt
      have HD3 := Lib.hid hd
      clear hd hg hx3
      go_wp2_with fail
      exact bodyPost_ret (v := .tuple #[.slice B l.length cb, .int .i64 x2, .int .i64 x3]) (by simp [results, Try.results52, go_sem]) rfl ⟨l, B, cb, x2, x3, rfl, ⟨hl, own_base HO3.out (by simp)⟩, below_new HG3.out⟩
    · go_wp2_with fail
      refine (among_dr [0, 1, 2, 11, -1] 5 _ _ _ HD3a.out (by omega) (by omega) (row_front 5 HR3.out) (by omega) rfl (by decide) (by decide)).mono ?_; rintro e w3 ⟨x3, rfl, hx3, hd, hg⟩
      have HO3 := Lib.hid (own_dr HO3a.out hg hp)
      have HG3 := Lib.hid (only_two HG3a.out hg)
      have hlt3 := hd.lt
      have HD3 := Lib.hid hd
      clear hd hg hx3
      go_wp2_with fail
      exact bodyPost_ret (v := .tuple #[.slice B l.length cb, .int .i64 x2, .int .i64 x3]) (by simp [results, Try.results52, go_sem]) rfl ⟨l, B, cb, x2, x3, rfl, ⟨hl, own_base HO3.out (by simp)⟩, below_new HG3.out⟩
    · go_wp2_with fail
      refine (among_dr [0, 1, 2, 11, -1, 12] 6 _ _ _ HD3a.out (by omega) (by omega) (row_front 6 HR3.out) (by omega) rfl (by decide) (by decide)).mono ?_; rintro e w3 ⟨x3, rfl, hx3, hd, hg⟩
      have HO3 := Lib.hid (own_dr HO3a.out hg hp)
      have HG3 := Lib.hid (only_two HG3a.out hg)
      have hlt3 := hd.lt
      have HD3 := Lib.hid hd
      clear hd hg hx3
      go_wp2_with fail
      exact bodyPost_ret (v := .tuple #[.slice B l.length cb, .int .i64 x2, .int .i64 x3]) (by simp [results, Try.results52, go_sem]) rfl ⟨l, B, cb, x2, x3, rfl, ⟨hl, own_base HO3.out (by simp)⟩, below_new HG3.out⟩
  · go_wp2_with fail
    refine (among_dr [0, 5, 12, 60, 500, -1] 6 _ _ _ HD2a.out (by omega) (by omega) (row_front 6 HR2.out) (by omega) rfl (by decide) (by decide)).mono ?_; rintro e w2 ⟨x2, rfl, hx2, hd, hg⟩
    have HO2 := Lib.hid (own_dr HO2a.out hg hp)
    have HG2 := Lib.hid (only_two HG2a.out hg)
    have hlt2 := hd.lt
    have HD2 := Lib.hid hd
    clear hd hg hx2
    go_wp2_with fail
    refine (pick_dr 24 _ (HD2.out.alloc _) (by omega) (by omega) (by decide)).mono ?_; rintro e v3 ⟨r3, rfl, hr3, hd, hg⟩
    have HR3 := Lib.hid (RowAt.of_own (l := [0, 1, 2, 11, -1, 12]) (own_dr (HOV.out w2) hg hlt2) encI_len (by decide))
    have hq3 : r3 / 11 = 0 ∨ r3 / 11 = 1 ∨ r3 / 11 = 2 := by omega
    have HO3a := Lib.hid (own_dr (HO2.out.alloc _) hg hp)
    have HG3a := Lib.hid (only_two HG2.out (only_two (only_alloc (World.grownBy.refl w2 (some w.heap.size)) _) hg))
    have HD3a := Lib.hid hd
    clear hd hg hr3
    rcases hq3 with hq3 | hq3 | hq3
    · go_wp2_with fail
      refine (among_dr [0, 1, 2, 11] 4 _ _ _ HD3a.out (by omega) (by omega) (row_front 4 HR3.out) (by omega) rfl (by decide) (by decide)).mono ?_; rintro e w3 ⟨x3, rfl, hx3, hd, hg⟩
      have HO3 := Lib.hid (own_dr HO3a.out hg hp)
      have HG3 := Lib.hid (only_two HG3a.out hg)
      have hlt3 := hd.lt
      have HD3 := Lib.hid hd
      clear hd hg hx3
      go_wp2_with fail
      exact bodyPost_ret (v := .tuple #[.slice B l.length cb, .int .i64 x2, .int .i64 x3]) (by simp [results, Try.results52, go_sem]) rfl ⟨l, B, cb, x2, x3, rfl, ⟨hl, own_base HO3.out (by simp)⟩, below_new HG3.out⟩
    · go_wp2_with fail
      refine (among_dr [0, 1, 2, 11, -1] 5 _ _ _ HD3a.out (by omega) (by omega) (row_front 5 HR3.out) (by omega) rfl (by decide) (by decide)).mono ?_; rintro e w3 ⟨x3, rfl, hx3, hd, hg⟩
      have HO3 := Lib.hid (own_dr HO3a.out hg hp)
      have HG3 := Lib.hid (only_two HG3a.out hg)
      have hlt3 := hd.lt
      have HD3 := Lib.hid hd
      clear hd hg hx3
      go_wp2_with fail
      exact bodyPost_ret (v := .tuple #[.slice B l.length cb, .int .i64 x2, .int .i64 x3]) (by simp [results, Try.results52, go_sem]) rfl ⟨l, B, cb, x2, x3, rfl, ⟨hl, own_base HO3.out (by simp)⟩, below_new HG3.out⟩
    · go_wp2_with fail
      refine (among_dr [0, 1, 2, 11, -1, 12] 6 _ _ _ HD3a.out (by omega) (by omega) (row_front 6 HR3.out) (by omega) rfl (by decide) (by decide)).mono ?_; rintro e w3 ⟨x3, rfl, hx3, hd, hg⟩
      have HO3 := Lib.hid (own_dr HO3a.out hg hp)
      have HG3 := Lib.hid (only_two HG3a.out hg)
      have hlt3 := hd.lt
      have HD3 := Lib.hid hd
      clear hd hg hx3
      go_wp2_with fail
      exact bodyPost_ret (v := .tuple #[.slice B l.length cb, .int .i64 x2, .int .i64 x3]) (by simp [results, Try.results52, go_sem]) rfl ⟨l, B, cb, x2, x3, rfl, ⟨hl, own_base HO3.out (by simp)⟩, below_new HG3.out⟩
  · go_wp2_with fail
    refine (among_dr [0, 5, 12, 60, 500, -1, 501] 7 _ _ _ HD2a.out (by omega) (by omega) (row_front 7 HR2.out) (by omega) rfl (by decide) (by decide)).mono ?_; rintro e w2 ⟨x2, rfl, hx2, hd, hg⟩
    have HO2 := Lib.hid (own_dr HO2a.out hg hp)
    have HG2 := Lib.hid (only_two HG2a.out hg)
    have hlt2 := hd.lt
    have HD2 := Lib.hid hd
    clear hd hg hx2
    go_wp2_with fail
    refine (pick_dr 24 _ (HD2.out.alloc _) (by omega) (by omega) (by decide)).mono ?_; rintro e v3 ⟨r3, rfl, hr3, hd, hg⟩
    have HR3 := Lib.hid (RowAt.of_own (l := [0, 1, 2, 11, -1, 12]) (own_dr (HOV.out w2) hg hlt2) encI_len (by decide))
    have hq3 : r3 / 11 = 0 ∨ r3 / 11 = 1 ∨ r3 / 11 = 2 := by omega
    have HO3a := Lib.hid (own_dr (HO2.out.alloc _) hg hp)
    have HG3a := Lib.hid (only_two HG2.out (only_two (only_alloc (World.grownBy.refl w2 (some w.heap.size)) _) hg))
    have HD3a := Lib.hid hd
    clear hd hg hr3
    rcases hq3 with hq3 | hq3 | hq3
    · go_wp2_with fail
      refine (among_dr [0, 1, 2, 11] 4 _ _ _ HD3a.out (by omega) (by omega) (row_front 4 HR3.out) (by omega) rfl (by decide) (by decide)).mono ?_; rintro e w3 ⟨x3, rfl, hx3, hd, hg⟩
      have HO3 := Lib.hid (own_dr HO3a.out hg hp)
      have HG3 := Lib.hid (only_two HG3a.out hg)
      have hlt3 := hd.lt
      have HD3 := Lib.hid hd
      clear hd hg hx3
      go_wp2_with fail
      exact bodyPost_ret (v := .tuple #[.slice B l.length cb, .int .i64 x2, .int .i64 x3]) (by simp [results, Try.results52, go_sem]) rfl ⟨l, B, cb, x2, x3, rfl, ⟨hl, own_base HO3.out (by simp)⟩, below_new HG3.out⟩
    · go_wp2_with fail
      refine (among_dr [0, 1, 2, 11, -1] 5 _ _ _ HD3a.out (by omega) (by omega) (row_front 5 HR3.out) (by omega) rfl (by decide) (by decide)).mono ?_; rintro e w3 ⟨x3, rfl, hx3, hd, hg⟩
      have HO3 := Lib.hid (own_dr HO3a.out hg hp)
      have HG3 := Lib.hid (only_two HG3a.out hg)
      have hlt3 := hd.lt
      have HD3 := Lib.hid hd
      clear hd hg hx3
      go_wp2_with fail
      exact bodyPost_ret (v := .tuple #[.slice B l.length cb, .int .i64 x2, .int .i64 x3]) (by simp [results, Try.results52, go_sem]) rfl ⟨l, B, cb, x2, x3, rfl, ⟨hl, own_base HO3.out (by simp)⟩, below_new HG3.out⟩
    · go_wp2_with fail
      refine (among_dr [0, 1, 2, 11, -1, 12] 6 _ _ _ HD3a.out (by omega) (by omega) (row_front 6 HR3.out) (by omega) rfl (by decide) (by decide)).mono ?_; rintro e w3 ⟨x3, rfl, hx3, hd, hg⟩
      have HO3 := Lib.hid (own_dr HO3a.out hg hp)
      have HG3 := Lib.hid (only_two HG3a.out hg)
      have hlt3 := hd.lt
      have HD3 := Lib.hid hd
      clear hd hg hx3
      go_wp2_with fail
      exact bodyPost_ret (v := .tuple #[.slice B l.length cb, .int .i64 x2, .int .i64 x3]) (by simp [results, Try.results52, go_sem]) rfl ⟨l, B, cb, x2, x3, rfl, ⟨hl, own_base HO3.out (by simp)⟩, below_new HG3.out⟩
set_option maxRecDepth 100000 in
set_option maxHeartbeats 4000000 in
theorem drawMer_any (A : Option Addr) (n c : Nat) (w : World) (h : CodeAt w A n) (hn : n ≤ 65536) :
    Calls Try.prog 50 #[.slice A n c] w fun e w' => ∃ (l m : List Fe) (B D : Option Addr) (cb cd : Nat), e = .returned (.tuple #[.slice B l.length cb, .slice D m.length cd]) ∧ FeRow w.heap.size w' l B cb ∧ FeRow w.heap.size w' m D cd ∧ Below w.heap.size w w' := by
  have HD := Lib.hid (dr_new (c := c) (E := 101) h)
  clear h
  have hp : w.heap.size < (w.alloc (.cells #[.slice A n c, .int .i64 0, .int .u64 0] 101)).heap.size := by simp
  go_enter Try.func50, Try.ntmps50
  go_wp2_with fail
  refine (felts_any _ HD.out (by omega) (by omega)).mono ?_; rintro e w1 ⟨l, B, cb, rfl, hl, ho1, hd1, hg1⟩
  have HO1 := Lib.hid ho1
  have HD1 := Lib.hid hd1
  have HG1 := Lib.hid hg1
  have hlt1 := hd1.lt
  clear ho1 hd1 hg1
  go_wp2_with fail
  refine (felts_any _ HD1.out (by omega) (by omega)).mono ?_; rintro e w2 ⟨m, D, cd, rfl, hm, ho2, hd2, hg2⟩
  have hs1 := HG1.out.size
  go_wp2_with fail
  go_ret2
  exact ⟨l, m, B, D, cb, cd, rfl, ⟨hl, own_base (own_dr HO1.out hg2 hp) (by simp)⟩, ⟨hm, own_base ho2 (by simp at hs1; omega)⟩, below_new (only_two HG1.out hg2)⟩
set_option maxRecDepth 100000 in
set_option maxHeartbeats 4000000 in
theorem drawIsFelt_any (A : Option Addr) (n c : Nat) (w : World) (h : CodeAt w A n) (hn : n ≤ 65536) :
    Calls Try.prog 53 #[.slice A n c] w fun e w' => ∃ m : Fe, e = .returned (.agg #[.int .i64 m.id, .int .i64 m.x, .int .i64 m.y, .int .i64 m.lv, .int .i64 m.pp]) ∧ Below w.heap.size w w' := by
  have hD := dr_new (w := w.alloc (.cells #[.int .i64 0, .int .i64 0, .int .i64 0, .int .i64 0, .int .i64 0] 25)) (c := c) (E := 101) (h.grown (only_of_below (balloc (bref w) (.cells #[.int .i64 0, .int .i64 0, .int .i64 0, .int .i64 0, .int .i64 0] 25)) none) (fun _ _ _ e => by cases e))
  have hz := box5_of (blk_alloc (heap_new1 w (.cells #[.int .i64 0, .int .i64 0, .int .i64 0, .int .i64 0, .int .i64 0] 25)) (.cells #[.slice A n c, .int .i64 0, .int .u64 0] 101))
  simp only [World.size_alloc] at hD
  have HD := Lib.hid hD
  have HZ := Lib.hid hz
  clear h hD hz
  go_enter Try.func53, Try.ntmps53
  go_wp2_with fail
  refine (among_dr [1, 42, 9999] 3 _ _ _ (HD.out.alloc _) (by omega) (by omega) ?_ ?_ ?_ (by decide) (by decide)).mono ?_
  · exact RowAt.of_block encI_len (by rw [show w.heap.size + 1 + 1 = (w.alloc (.cells #[.int .i64 0, .int .i64 0, .int .i64 0, .int .i64 0, .int .i64 0] 25)).heap.size + 1 by simp]; exact heap_new2 _ _ _) rfl
  · simp
  · rfl
  rintro e w2 ⟨v2, rfl, hv2, hd2, hg2⟩
  go_wp2_with fail
  refine (felt_any v2 _ hd2 (by omega) (by omega)).mono ?_; rintro e w3 ⟨m, rfl, hd3, hg3⟩
  have hgg := only_two (only_two (only_alloc (World.grownBy.refl _ (some (w.heap.size + 1))) _) hg2) hg3
  have HB := HZ.out.moved hgg (by omega)
  have HBx := Lib.hid HB
  have hb3 : Below w.heap.size w w3 := bgrown (balloc (balloc (bref w) _) _) hgg (fun k hk => by cases hk; omega)
  obtain ⟨_, ⟨z0, z1, z2, z3, z4⟩, y0, y1, y2, y3, y4⟩ := HB
  go_wp2_with fail
  obtain ⟨_, ⟨s0, s1, s2, s3, s4⟩, _⟩ := HBx.out.all (.int .i64 m.id) (.int .i64 m.x) (.int .i64 m.y) (.int .i64 m.lv) (.int .i64 m.pp)
  have HW := Lib.hid (show Below w.heap.size w (((((w3.setCell ⟨w.heap.size, 0, none⟩ (.int .i64 m.id)).setCell ⟨w.heap.size, 1, none⟩ (.int .i64 m.x)).setCell ⟨w.heap.size, 2, none⟩ (.int .i64 m.y)).setCell ⟨w.heap.size, 3, none⟩ (.int .i64 m.lv)).setCell ⟨w.heap.size, 4, none⟩ (.int .i64 m.pp)) from (bset (bset (bset (bset (bset hb3 (p := ⟨w.heap.size, 0, none⟩) (Nat.le_refl _) _) (p := ⟨w.heap.size, 1, none⟩) (Nat.le_refl _) _) (p := ⟨w.heap.size, 2, none⟩) (Nat.le_refl _) _) (p := ⟨w.heap.size, 3, none⟩) (Nat.le_refl _) _) (p := ⟨w.heap.size, 4, none⟩) (Nat.le_refl _) _))
  generalize (((((w3.setCell ⟨w.heap.size, 0, none⟩ (.int .i64 m.id)).setCell ⟨w.heap.size, 1, none⟩ (.int .i64 m.x)).setCell ⟨w.heap.size, 2, none⟩ (.int .i64 m.y)).setCell ⟨w.heap.size, 3, none⟩ (.int .i64 m.lv)).setCell ⟨w.heap.size, 4, none⟩ (.int .i64 m.pp)) = W at s0 s1 s2 s3 s4 HW ⊢
  exact bodyPost_ret (v := .agg #[.int .i64 m.id, .int .i64 m.x, .int .i64 m.y, .int .i64 m.lv, .int .i64 m.pp]) (by simp [results, Try.results53, go_sem, s0, s1, s2, s3, s4]) rfl ⟨m, rfl, HW.out⟩
end Go.Proofs.Ytjjinblahmcplaa
