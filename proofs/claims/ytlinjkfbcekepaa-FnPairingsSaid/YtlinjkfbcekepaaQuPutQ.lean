/-
  A quake put into a catalogue: impl appends and sorts, spec puts it in its place.
-/
import Derived.Test.YtlinjkfbcekepaaQuIns
import Derived.Test.YtlinjkfbcekepaaQuSort
import Derived.Test.YtlinjkfbcekepaaKit
namespace Go.Proofs.Ytlinjkfbcekepaa
set_option linter.unusedVariables false
set_option linter.unusedSimpArgs false
set_option linter.unnecessarySimpa false
open Go.RowKit
attribute [local go_sem] ext_cell ext_frozen

def putOK (l : List Qu) (q : Qu) : Bool := goodQu l && (decide ((putQ q l).length ≠ l.length) && goodQu (putQ q l))
def putL (l : List Qu) (q : Qu) : List Qu := if putOK l q then putQ q l else []
theorem putL_le (l : List Qu) (q : Qu) : (putL l q).length ≤ 10 := by
  unfold putL; split
  · rename_i h
    unfold putOK at h
    simp only [Bool.and_eq_true] at h
    exact goodQu_len h.2.2
  · simp
theorem putL_no {l : List Qu} {q : Qu} (h : putOK l q = false) : putL l q = [] := by simp [putL, h]
theorem putL_yes {l : List Qu} {q : Qu} (h : putOK l q = true) : putL l q = putQ q l := by simp [putL, h]

set_option maxRecDepth 100000 in
set_option maxHeartbeats 4000000 in
theorem sPutQ_any (l : List Qu) (q : Qu) (A : Option Addr) (c : Nat) (w : World) (hr : RowAt 4 encQu w A l) (haf : AF A l.length c) (hcap : l.length ≤ c) (hlen : l.length ≤ 1048576) :
    Calls Try.prog 47 #[.slice A l.length c, .agg #[.int .i64 q.tk, .int .i64 q.x, .int .i64 q.y, .int .i64 q.sz]] w (MkS2 26 4 (putL l q).length ((putL l q).flatMap encQu) (putOK l q) w) := by
  have HR := Lib.hid hr
  have HAF := Lib.hid haf
  clear hr haf
  go_enter Try.func47, Try.ntmps47
  go_wp2_with (go_at_call 84; (with_reducible refine (l16Put_any l q _ _ _ (HR.out.below (balloc (bref _) _)) HAF.out hcap (by omega)).mono ?_); rintro e w1 ⟨A1, c1, rfl, hb1, hd1⟩)
  have b1 := bstep (balloc (bref w) _) hb1
  have hln := (putQ_len q l).1
  rcases hd1 with ⟨rfl, rfl, hpl⟩ | ho1
  · have hk : putOK l q = false := by simp [putOK, hpl]
    have HE := Lib.hid (putL_no hk)
    have HK := Lib.hid hk
    rw [hpl]
    clear hk hpl hln
    cases hg : goodQu l
    all_goals
      go_wp2_with (go_at_call 70; (with_reducible refine (sgoodQu_any l _ _ _ (HR.out.below b1) (by omega)).mono ?_); rw [hg]; rintro e w2 ⟨rfl, hb2⟩)
      go_ret2
      rw [HE.out, HK.out]
      exact ⟨some ⟨w2.heap.size, 0, none⟩, 0, rfl, own_base (own_made (cur := #[]) rfl (Nat.zero_le _)) (bstep b1 hb2).size, balloc (bstep b1 hb2) _⟩
  · have HO1 := Lib.hid (own_base (base' := w.heap.size) ho1 (by simp))
    have HR1 := Lib.hid (RowAt.of_own ho1 encQu_len (by omega))
    clear ho1
    cases hg : goodQu l
    · have hk : putOK l q = false := by simp [putOK, hg]
      have HE := Lib.hid (putL_no hk)
      have HK := Lib.hid hk
      clear hk
      go_wp2_with (go_at_call 70; (with_reducible refine (sgoodQu_any l _ _ _ (HR.out.below b1) (by omega)).mono ?_); rw [hg]; rintro e w2 ⟨rfl, hb2⟩)
      go_ret2
      rw [HE.out, HK.out]
      exact ⟨some ⟨w2.heap.size, 0, none⟩, 0, rfl, own_base (own_made (cur := #[]) rfl (Nat.zero_le _)) (bstep b1 hb2).size, balloc (bstep b1 hb2) _⟩
    · by_cases he : (putQ q l).length = l.length
      · have hk : putOK l q = false := by simp [putOK, he]
        have HE := Lib.hid (putL_no hk)
        have HK := Lib.hid hk
        have he2 : (((putQ q l).length : Int) == (l.length : Int)) = true := by rw [he]; simp
        clear hk he
        go_wp2_with (go_at_call 70; (with_reducible refine (sgoodQu_any l _ _ _ (HR.out.below b1) (by omega)).mono ?_); rw [hg]; rintro e w2 ⟨rfl, hb2⟩)
        go_ret2
        rw [HE.out, HK.out]
        exact ⟨some ⟨w2.heap.size, 0, none⟩, 0, rfl, own_base (own_made (cur := #[]) rfl (Nat.zero_le _)) (bstep b1 hb2).size, balloc (bstep b1 hb2) _⟩
      · have he2 : (((putQ q l).length : Int) == (l.length : Int)) = false := by simp; omega
        cases hq : goodQu (putQ q l)
        · have hk : putOK l q = false := by simp [putOK, hq]
          have HE := Lib.hid (putL_no hk)
          have HK := Lib.hid hk
          clear hk
          go_wp2_with (go_at_call 70; first | (with_reducible refine (sgoodQu_any l _ _ _ (HR.out.below b1) (by omega)).mono ?_; rw [hg]; rintro e w2 ⟨rfl, hb2⟩) | (with_reducible refine (sgoodQu_any (putQ q l) _ _ _ (HR1.out.below hb2) (by omega)).mono ?_; rw [hq]; rintro e w3 ⟨rfl, hb3⟩))
          go_ret2
          rw [HE.out, HK.out]
          exact ⟨some ⟨w3.heap.size, 0, none⟩, 0, rfl, own_base (own_made (cur := #[]) rfl (Nat.zero_le _)) (bstep (bstep b1 hb2) hb3).size, balloc (bstep (bstep b1 hb2) hb3) _⟩
        · have hk : putOK l q = true := by simp [putOK, hq, hg, he]
          have HE := Lib.hid (putL_yes hk)
          have HK := Lib.hid hk
          clear hk
          go_wp2_with (go_at_call 70; first | (with_reducible refine (sgoodQu_any l _ _ _ (HR.out.below b1) (by omega)).mono ?_; rw [hg]; rintro e w2 ⟨rfl, hb2⟩) | (with_reducible refine (sgoodQu_any (putQ q l) _ _ _ (HR1.out.below hb2) (by omega)).mono ?_; rw [hq]; rintro e w3 ⟨rfl, hb3⟩))
          go_ret2
          rw [HE.out, HK.out]
          exact ⟨A1, c1, rfl, own_below HO1.out (bstep hb2 hb3), bstep (bstep b1 hb2) hb3⟩

set_option maxHeartbeats 1000000 in
theorem copyQu_any (l : List Qu) (A : Option Addr) (c : Nat) (w : World) (hr : RowAt 4 encQu w A l) (hlen : l.length ≤ 2097152) :
    Calls Try.prog 85 #[.slice A l.length c] w fun e w' => ∃ g c', e = .returned (.slice (some ⟨g, 0, none⟩) l.length c') ∧ w'.ownsRow w.heap.size 26 4 (.slice (some ⟨g, 0, none⟩) l.length c') l.length (l.flatMap encQu) ∧ Below w.heap.size w w' := by
  have HR := Lib.hid hr
  clear hr
  go_enter Try.func85, Try.ntmps85
  go_wp2_with (at_builtin; refine wpList_appS rfl _ _ 31 26 4 32 _ rfl Try.underlying31 infoQu rfl (by decide) w.heap.size _ 0 [] (by rfl) (own_empty (heap_new1 _ _) (Nat.le_refl _)) _ _ _ (l.flatMap encQu) (by rfl) (cellsQu_len l) ((RowAt.below HR.out (balloc (bref _) _)).news encQu_len) (cellsQu_one l) l.length (Nat.zero_add _) _ (List.nil_append _) (by omega) (by decide) (by simp) ?_; intro A1 c1 w1 ho1 hg1 hl1)
  go_ret
  obtain ⟨g, rfl⟩ := own_some ho1 (by simpa [Value.ownBlock] using hl1)
  exact ⟨g, c1, rfl, ho1, bgrown (balloc (bref _) _) hg1 (by intro k hk; simp [Value.ownBlock] at hk; omega)⟩

set_option maxRecDepth 100000 in
set_option maxHeartbeats 4000000 in
theorem iPutQ_any (l : List Qu) (q : Qu) (A : Option Addr) (c : Nat) (w : World) (hr : RowAt 4 encQu w A l) (hlen : l.length ≤ 1048576) :
    Calls Try.prog 48 #[.slice A l.length c, .agg #[.int .i64 q.tk, .int .i64 q.x, .int .i64 q.y, .int .i64 q.sz]] w (MkS2 26 4 (putL l q).length ((putL l q).flatMap encQu) (putOK l q) w) := by
  have HR := Lib.hid hr
  have HB0 := Lib.hid (box4Z w 26 q)
  clear hr
  go_enter Try.func48, Try.ntmps48
  go_wp2_with fail
  go_region_held3 (fun w' => w'.cell? ⟨w.heap.size, 0, none⟩ = some (.int .i64 q.tk) ∧ w'.cell? ⟨w.heap.size, 1, none⟩ = some (.int .i64 q.x) ∧ w'.cell? ⟨w.heap.size, 2, none⟩ = some (.int .i64 q.y) ∧ w'.cell? ⟨w.heap.size, 3, none⟩ = some (.int .i64 q.sz)) (exact cell4Z (by simp) HB0.out (by repeat (first | exact bref _ | exact hbX1 | exact hbX2 | (refine balloc ?_ _) | (refine bdrew ?_) | (refine bdrewN ?_ _))))
    (first
    | (go_at_call 85; (refine (copyQu_any l _ _ _ (HR.out.below (bstep (balloc (bref w) _) (by repeat (first | exact bref _ | exact hbX1 | exact hbX2 | (refine balloc ?_ _) | (refine bdrew ?_) | (refine bdrewN ?_ _))))) (by omega)).mono ?_); rintro e w1 ⟨g0, c0, rfl, ho0, hbc⟩; have hbX1 : Below (w.alloc (.cells #[.int .i64 q.tk, .int .i64 q.x, .int .i64 q.y, .int .i64 q.sz] 26)).heap.size (w.alloc (.cells #[.int .i64 q.tk, .int .i64 q.x, .int .i64 q.y, .int .i64 q.sz] 26)) w1 := bstep (by repeat (first | exact bref _ | exact hbX1 | exact hbX2 | (refine balloc ?_ _) | (refine bdrew ?_) | (refine bdrewN ?_ _))) hbc; have HO0 := Lib.hid (own_base ho0 (Below.size (B := (w.alloc (.cells #[.int .i64 q.tk, .int .i64 q.x, .int .i64 q.y, .int .i64 q.sz] 26)).heap.size) (by repeat (first | exact bref _ | exact hbX1 | exact hbX2 | (refine balloc ?_ _) | (refine bdrew ?_) | (refine bdrewN ?_ _))))))
    | (refine step_appS (by rfl) (.tmp 8) (.tmp 10) 31 26 4 32 _ (by rfl) Try.underlying31 infoQu rfl (by decide) (w.alloc (.cells #[.int .i64 q.tk, .int .i64 q.x, .int .i64 q.y, .int .i64 q.sz] 26)).heap.size (.slice (some ⟨g0, 0, none⟩) l.length c0) l.length _ (by rfl) (by first | exact HO0.out | exact HO0.out.alloc _ | exact own_drew (HO0.out.alloc _)) _ 1 _ (encQu q) (by rfl) rfl (news1 (by first | exact heap_new1 _ _ | exact (hbc.block _ (by simp)).trans (heap_new1 _ _) | exact (hbc.block _ (by simp)).trans (heap_new2 _ _ _)) rfl) (encQu_one q) (l.length + 1) rfl _ rfl (by omega) (by decide) (Below.size (B := (w.alloc (.cells #[.int .i64 q.tk, .int .i64 q.x, .int .i64 q.y, .int .i64 q.sz] 26)).heap.size) (by repeat (first | exact bref _ | exact hbX1 | exact hbX2 | (refine balloc ?_ _) | (refine bdrew ?_) | (refine bdrewN ?_ _)))) ?_; intro A2 c2 w2 ho2 hg2 hl2; have hbX2 : Below (w.alloc (.cells #[.int .i64 q.tk, .int .i64 q.x, .int .i64 q.y, .int .i64 q.sz] 26)).heap.size (w.alloc (.cells #[.int .i64 q.tk, .int .i64 q.x, .int .i64 q.y, .int .i64 q.sz] 26)) w2 := bgrown (by repeat (first | exact bref _ | exact hbX1 | exact hbX2 | (refine balloc ?_ _) | (refine bdrew ?_) | (refine bdrewN ?_ _))) hg2 (row_mine HO0.out))
    | fail)
  all_goals
    obtain ⟨g2, rfl⟩ := own_some ho2 hl2
    have hbI2 := bstep (balloc (bref w) _) hbX2
    have ho2' := own_base (base' := w.heap.size) ho2 (by simp)
    have hS := sortQu_any (l ++ [q]) g2 c2 w.heap.size w2 (by simpa using ho2') (by simp; omega)
    rw [List.length_append, List.length_singleton] at hS
    have HS := Lib.hid hS
    clear hS
    go_wp2_with fail
    refine HS.out.mono ?_; rintro e w3 ⟨rfl, S, hp, hs, hSl, ho3, hg3⟩
    have b3 := bgrown hbI2 hg3 (fun k hk => row_mine ho2' k hk)
    have HO3 := Lib.hid ho3
    have hA := iIsCat_any S (some ⟨g2, 0, none⟩) c2 w3 (RowAt.of_own ho3 encQu_len (by omega)) (by omega)
    rw [hSl] at hA
    have HP := Lib.hid (And.intro hp hs)
    have HSL := Lib.hid hSl
    clear ho3 hp hs hSl HS ho2 ho2' hg2 hg3
    cases hg : goodQu l
    · have hk : putOK l q = false := by simp [putOK, hg]
      have HE := Lib.hid (putL_no hk)
      have HK := Lib.hid hk
      clear hk hA
      go_wp2_with (go_at_call 22; (with_reducible refine (iIsCat_any l _ _ _ (HR.out.below b3) (by omega)).mono ?_); rw [hg]; rintro e w4 ⟨rfl, hb4⟩)
      go_ret2
      rw [HE.out, HK.out]
      exact ⟨none, 0, rfl, World.ownsRow_nil _ _ _ _, bstep b3 hb4⟩
    · obtain ⟨hL1, hL2⟩ := put_law (goodQu_ascQ hg) HP.out.1 HP.out.2
      have hA2 := fun W (hW : Below w3.heap.size w3 W) => iIsCat_any S (some ⟨g2, 0, none⟩) c2 W (RowAt.of_own (own_below HO3.out hW) encQu_len (by omega)) (by have := HSL.out; omega)
      rw [HSL.out] at hA2
      have HA2 := Lib.hid hA2
      clear hA hA2
      cases hq : goodQu S
      · have hk : putOK l q = false := by rw [putOK, hg, ← hL1, hq]; rfl
        have HE := Lib.hid (putL_no hk)
        have HK := Lib.hid hk
        clear hk hL1 hL2
        go_wp2_with (go_at_call 22; first | (with_reducible refine (iIsCat_any l _ _ _ (HR.out.below b3) (by omega)).mono ?_; rw [hg]; rintro e w4 ⟨rfl, hb4⟩) | (with_reducible refine (HA2.out _ hb4).mono ?_; rw [hq]; rintro e w5 ⟨rfl, hb5⟩))
        go_ret2
        rw [HE.out, HK.out]
        exact ⟨none, 0, rfl, World.ownsRow_nil _ _ _ _, bstep (bstep b3 hb4) hb5⟩
      · have hk : putOK l q = true := by rw [putOK, hg, ← hL1, hq]; rfl
        have HE := Lib.hid ((putL_yes hk).trans (hL2 hq).symm)
        have HK := Lib.hid hk
        clear hk hL1 hL2
        go_wp2_with (go_at_call 22; first | (with_reducible refine (iIsCat_any l _ _ _ (HR.out.below b3) (by omega)).mono ?_; rw [hg]; rintro e w4 ⟨rfl, hb4⟩) | (with_reducible refine (HA2.out _ hb4).mono ?_; rw [hq]; rintro e w5 ⟨rfl, hb5⟩))
        go_ret2
        rw [HE.out, HK.out, HSL.out]
        exact ⟨some ⟨g2, 0, none⟩, c2, rfl, own_below HO3.out (bstep hb4 hb5), bstep (bstep b3 hb4) hb5⟩
end Go.Proofs.Ytlinjkfbcekepaa
