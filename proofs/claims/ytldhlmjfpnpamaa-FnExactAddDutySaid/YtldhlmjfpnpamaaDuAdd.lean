/-
  AddDuty to whatever duties: those that are none are turned back.
-/
import Derived.Test.YtldhlmjfpnpamaaDuStab2
import Derived.Test.YtldhlmjfpnpamaaDuAddS
namespace Go.Proofs.Ytldhlmjfpnpamaa
open Go.RowKit
attribute [local go_sem] ext_cell ext_frozen

set_option maxRecDepth 100000 in
set_option maxHeartbeats 4000000 in
theorem iAddBad_any (l : List Du) (d : Du) (A : Option Addr) (c : Nat) (w : World) (hr : RowAt 4 encDu w A l) (hg : goodDu l = false) (hlen : l.length ≤ 1048576) (hcap : l.length ≤ c) :
    Calls Try.prog 31 #[.slice A l.length c, .agg #[.int .i64 d.who, .int .i64 d.bg, .int .i64 d.en, .bool d.ch]] w (MkS2 25 4 (addR l d).length ((addR l d).flatMap encDu) (addOK l d) w) := by
  have HR := Lib.hid hr
  have HB0 := Lib.hid (box4 w 25 (.int .i64 d.who) (.int .i64 d.bg) (.int .i64 d.en) (.bool d.ch))
  have hA := fun W (hW : Below w.heap.size w W) => iAreDu_any l A c W (hr.below hW) (by omega) hcap
  rw [hg] at hA
  have HA := Lib.hid hA
  clear hr hA
  have HK := Lib.hid (show addOK l d = false by simp [addOK, hg])
  have HE := Lib.hid (show addR l d = [] by simp [addR, HK.out])
  go_enter Try.func31, Try.ntmps31
  go_wp2_with fail
  go_region_held3 (fun w' => w'.cell? ⟨w.heap.size, 0, none⟩ = some (.int .i64 d.who) ∧ w'.cell? ⟨w.heap.size, 1, none⟩ = some (.int .i64 d.bg) ∧ w'.cell? ⟨w.heap.size, 2, none⟩ = some (.int .i64 d.en) ∧ w'.cell? ⟨w.heap.size, 3, none⟩ = some (.bool d.ch)) (exact cell4D (by simp) HB0.out (by repeat (first | exact bref _ | exact hbX1 | exact hbX2 | (refine balloc ?_ _) | (refine bdrew ?_) | (refine bdrewN ?_ _))))
    (first
    | (go_at_call 68; (refine (copyDu_any l _ _ _ (HR.out.below (bstep (balloc (bref w) _) (by repeat (first | exact bref _ | exact hbX1 | exact hbX2 | (refine balloc ?_ _) | (refine bdrew ?_) | (refine bdrewN ?_ _))))) (by omega)).mono ?_); rintro e w1 ⟨g0, c0, rfl, ho0, hbc⟩; have hbX1 : Below (w.alloc (.cells #[.int .i64 d.who, .int .i64 d.bg, .int .i64 d.en, .bool d.ch] 25)).heap.size (w.alloc (.cells #[.int .i64 d.who, .int .i64 d.bg, .int .i64 d.en, .bool d.ch] 25)) w1 := bstep (by repeat (first | exact bref _ | exact hbX1 | exact hbX2 | (refine balloc ?_ _) | (refine bdrew ?_) | (refine bdrewN ?_ _))) hbc; have HO0 := Lib.hid (own_base ho0 (Below.size (B := (w.alloc (.cells #[.int .i64 d.who, .int .i64 d.bg, .int .i64 d.en, .bool d.ch] 25)).heap.size) (by repeat (first | exact bref _ | exact hbX1 | exact hbX2 | (refine balloc ?_ _) | (refine bdrew ?_) | (refine bdrewN ?_ _))))))
    | (refine step_appS (by rfl) (.tmp 8) (.tmp 10) 31 25 4 32 _ (by rfl) Try.underlying31 infoDu rfl (by decide) (w.alloc (.cells #[.int .i64 d.who, .int .i64 d.bg, .int .i64 d.en, .bool d.ch] 25)).heap.size (.slice (some ⟨g0, 0, none⟩) l.length c0) l.length _ (by rfl) (by first | exact HO0.out | exact HO0.out.alloc _ | exact own_drew (HO0.out.alloc _)) _ 1 _ (encDu d) (by rfl) rfl (news1 (by first | exact heap_new1 _ _ | exact (hbc.block _ (by simp)).trans (heap_new1 _ _) | exact (hbc.block _ (by simp)).trans (heap_new2 _ _ _)) rfl) (encDu_one d) (l.length + 1) rfl _ rfl (by omega) (by decide) (Below.size (B := (w.alloc (.cells #[.int .i64 d.who, .int .i64 d.bg, .int .i64 d.en, .bool d.ch] 25)).heap.size) (by repeat (first | exact bref _ | exact hbX1 | exact hbX2 | (refine balloc ?_ _) | (refine bdrew ?_) | (refine bdrewN ?_ _)))) ?_; intro A2 c2 w2 ho2 hg2 hl2; have hbX2 : Below (w.alloc (.cells #[.int .i64 d.who, .int .i64 d.bg, .int .i64 d.en, .bool d.ch] 25)).heap.size (w.alloc (.cells #[.int .i64 d.who, .int .i64 d.bg, .int .i64 d.en, .bool d.ch] 25)) w2 := bgrown (by repeat (first | exact bref _ | exact hbX1 | exact hbX2 | (refine balloc ?_ _) | (refine bdrew ?_) | (refine bdrewN ?_ _))) hg2 (row_mine HO0.out))
    | fail)
  all_goals
    obtain ⟨g2, rfl⟩ := own_some ho2 hl2
    have hbI2 := bstep (balloc (bref w) _) hbX2
    have ho2' := own_base (base' := w.heap.size) ho2 (by simp)
    have hcp := own_cap ho2'
    have hS := sortStableLong_any (l ++ [d]) g2 c2 w.heap.size w2 (by simpa using ho2') (by simp; omega)
    rw [List.length_append, List.length_singleton] at hS
    have HS := Lib.hid hS
    clear hS
    go_wp2_with (go_at_call 69; (with_reducible refine (HS.out).mono ?_); rintro e w3 ⟨rfl, S, hSl, ho3, hg3⟩)
    have b3 := bgrown hbI2 hg3 (fun k hk => row_mine ho2' k hk)
    clear ho3
    go_wp2_with fail
    refine (HA.out _ b3).mono ?_; rintro e w4 ⟨rfl, hb4⟩
    go_wp2_with fail
    go_ret2
    rw [HE.out, HK.out]
    exact ⟨none, 0, rfl, World.ownsRow_nil _ _ _ _, bstep b3 hb4⟩
theorem iAdd_any (l : List Du) (d : Du) (A : Option Addr) (c : Nat) (w : World) (hr : RowAt 4 encDu w A l) (hlen : l.length ≤ 1048576) (hcap : l.length ≤ c) :
    Calls Try.prog 31 #[.slice A l.length c, .agg #[.int .i64 d.who, .int .i64 d.bg, .int .i64 d.en, .bool d.ch]] w (MkS2 25 4 (addR l d).length ((addR l d).flatMap encDu) (addOK l d) w) := by
  cases hg : goodDu l
  · exact iAddBad_any l d A c w hr hg hlen hcap
  · exact iAddG_any l d A c w hr hg hcap
end Go.Proofs.Ytldhlmjfpnpamaa
