/-
  Merged reports: spec's walk.
-/
import Derived.Test.YtjjinblahmcplaaFeMrgP
import Derived.Test.YtjjinblahmcplaaApp
import Derived.Test.YtjjinblahmcplaaKit
import Derived.Deep.RegionHeld3
namespace Go.Proofs.Ytjjinblahmcplaa
open Go.RowKit
attribute [local go_sem] ext_cell ext_frozen

def merOK (a b : List Fe) : Bool := goodFe a && goodFe b && goodFe (mergeL a b)
def merL (a b : List Fe) : List Fe := if merOK a b then mergeL a b else []
theorem merL_le (a b : List Fe) : (merL a b).length ≤ 12 := by
  unfold merL; split
  · rename_i h
    unfold merOK at h
    rw [Bool.and_eq_true] at h
    exact goodFe_len h.2
  · simp
theorem cell5 {w W : World} {b off : Nat} {m : Fe} (hb : b < w.heap.size) (h : w.cell? ⟨b, off, none⟩ = some (.int .i64 m.id) ∧ w.cell? ⟨b, off + 1, none⟩ = some (.int .i64 m.x) ∧ w.cell? ⟨b, off + 2, none⟩ = some (.int .i64 m.y) ∧ w.cell? ⟨b, off + 3, none⟩ = some (.int .i64 m.lv) ∧ w.cell? ⟨b, off + 4, none⟩ = some (.int .i64 m.pp)) (hW : Below w.heap.size w W) :
    W.cell? ⟨b, off, none⟩ = some (.int .i64 m.id) ∧ W.cell? ⟨b, off + 1, none⟩ = some (.int .i64 m.x) ∧ W.cell? ⟨b, off + 2, none⟩ = some (.int .i64 m.y) ∧ W.cell? ⟨b, off + 3, none⟩ = some (.int .i64 m.lv) ∧ W.cell? ⟨b, off + 4, none⟩ = some (.int .i64 m.pp) :=
  ⟨(hW.cell (p := ⟨b, off, none⟩) hb).trans h.1, (hW.cell (p := ⟨b, off + 1, none⟩) hb).trans h.2.1, (hW.cell (p := ⟨b, off + 2, none⟩) hb).trans h.2.2.1, (hW.cell (p := ⟨b, off + 3, none⟩) hb).trans h.2.2.2.1, (hW.cell (p := ⟨b, off + 4, none⟩) hb).trans h.2.2.2.2⟩

set_option maxRecDepth 100000 in
set_option maxHeartbeats 4000000 in
theorem sMer_any (a b : List Fe) (A B : Option Addr) (ca cb : Nat) (w : World) (ha : RowAt 5 encFe w A a) (hb : RowAt 5 encFe w B b) (hla : a.length ≤ 2097152) (hlb : b.length ≤ 2097152) :
    Calls Try.prog 39 #[.slice A a.length ca, .slice B b.length cb] w (MkS2 25 5 (merL a b).length ((merL a b).flatMap encFe) (merOK a b) w) := by
  have HA := Lib.hid ha
  have HB := Lib.hid hb
  clear ha hb
  cases hga : goodFe a <;> cases hgb : goodFe b
  case true.true =>
    have H12a := goodFe_len hga
    have H12b := goodFe_len hgb
    have HGA := Lib.hid hga
    have HGB := Lib.hid hgb
    go_enter Try.func39, Try.ntmps39
    go_wp2_with (first | (go_at_call 64; first | (with_reducible refine (sgoodFe_any a _ _ _ HA.out hla).mono ?_; rw [hga]; rintro e u1 ⟨rfl, hb1⟩) | (with_reducible refine (sgoodFe_any b _ _ _ (HB.out.below hb1) hlb).mono ?_; rw [hgb]; rintro e u2 ⟨rfl, hb2⟩)) | (at_builtin; refine wpList_appS rfl _ _ 31 25 5 40 _ rfl Try.underlying31 infoFe rfl (by decide) u2.heap.size _ 0 [] (by rfl) (own_empty (heap_new1 _ _) (Nat.le_refl _)) _ _ _ (a.flatMap encFe) (by rfl) (cellsFe_len a) ((RowAt.below HA.out (balloc (bstep hb1 hb2) _)).news encFe_len) (cellsFe_one a) a.length (Nat.zero_add _) _ (List.nil_append _) (by omega) (by decide) (by simp) ?_; intro A0 c0 u3 ho0 hg0 hl0))
    have hs12 := (bstep hb1 hb2).size
    have b3 : Below w.heap.size w u3 := bgrown (balloc (bstep hb1 hb2) _) hg0 (by intro k hk; simp [Value.ownBlock] at hk; omega)
    have HO0 := Lib.hid (own_base ho0 hs12)
    clear ho0 hg0 hl0 hb1 hb2 hga hgb hs12
    go_loopw [6, 7] (fun v i wr => ∃ (k : Nat) (D : List Fe) (A' : Option Addr) (c' : Nat), k ≤ b.length ∧ i = .int .i64 k ∧ v = .slice A' D.length c' ∧ D.length ≤ a.length + k ∧ Hid (D = mergeL a (b.take k)) ∧ Below w.heap.size w wr ∧ wr.ownsRow w.heap.size 25 5 (.slice A' D.length c') D.length (D.flatMap encFe)) (fun _ i _ => b.length - (intOf i).toNat)
    case atStart => exact ⟨0, a, A0, c0, Nat.zero_le _, rfl, rfl, by omega, Lib.hid (by simp [mergeL]), b3, HO0.out⟩
    case round =>
      obtain ⟨k, D, A', c', hk, rfl, rfl, hDl, HD, hbr, hown⟩ := hrel
      have hcap := own_cap hown
      have HO := Lib.hid hown
      clear hown
      by_cases hlt : k < b.length
      · obtain ⟨m, hm⟩ := some_get hlt
        have i0 := ib0 k
        have i1 := ib1 hlt
        obtain ⟨bb, ob, rfl, hbb, p0, p1, p2, p3, p4⟩ := (HB.out.below hbr).fe hm
        have HM := Lib.hid hm
        have HC := Lib.hid (show wr.cell? ⟨bb, ob + k * 5, none⟩ = some (.int .i64 m.id) ∧ wr.cell? ⟨bb, ob + k * 5 + 1, none⟩ = some (.int .i64 m.x) ∧ wr.cell? ⟨bb, ob + k * 5 + 2, none⟩ = some (.int .i64 m.y) ∧ wr.cell? ⟨bb, ob + k * 5 + 3, none⟩ = some (.int .i64 m.lv) ∧ wr.cell? ⟨bb, ob + k * 5 + 4, none⟩ = some (.int .i64 m.pp) from ⟨p0, p1, p2, p3, p4⟩)
        have HX := Lib.hid (mergeL_succ (a := a) HM.out)
        rw [← HD.out] at HX
        clear hm p0 p1 p2 p3 p4
        obtain ⟨wo, rfl⟩ : ∃ wo : World, wo = wr := ⟨_, rfl⟩
        go_wp2_with fail
        go_loopw [8] (fun kv wi => ∃ j : Nat, j ≤ D.length ∧ kv = .int .i64 j ∧ Hid (∀ i, i < j → ∀ y, D[i]? = some y → y.id < m.id) ∧ Below wo.heap.size wo wi) (fun kv _ => D.length - (intOf kv).toNat)
        case atStart => exact ⟨0, Nat.zero_le _, rfl, Lib.hid (fun i h => absurd h (by omega)), bref _⟩
        case round =>
          obtain ⟨j, hj, rfl, HU, hbj⟩ := hrel
          have j0 := ib0 j
          obtain ⟨p0, p1, p2, p3, p4⟩ := cell5 hbb HC.out hbj
          have hbb2 := Nat.lt_of_lt_of_le hbb hbj.size
          have HO2 := Lib.hid (own_below HO.out hbj)
          by_cases hjl : j < D.length
          · obtain ⟨y, hy⟩ := some_get hjl
            have j1 := ib1 hjl
            rcases own_form HO.out with ⟨rfl, h0, _⟩ | ⟨g, rfl⟩
            · omega
            have HR2 := RowAt.of_own HO2.out encFe_len (by omega)
            obtain ⟨b', off', e, hb', q0, q1, q2, q3, q4⟩ := HR2.fe hy
            cases e
            have HY0 := Lib.hid hy
            simp only [Nat.zero_add] at q0 q1 q2 q3 q4
            clear hy HR2
            by_cases hlt2 : y.id < m.id
            · clear q1 q2 q3 q4 p1 p2 p3 p4
              go_wp2_with fail
              (refine wp_region_calm (by kernel_rfl) (by kernel_rfl) ?_; (repeat (go_big_quiet_step ((fail)))); refine wpQuiet_nil ?_; intro xw; have hb4 := xw.is; generalize xw.w = w4 at hb4 ⊢; clear xw)
              go_wp2
              go_roundw
              case rel => exact ⟨j + 1, by omega, by go_num, Lib.hid (fun i hi z hz => by
                  rcases Nat.lt_or_ge i j with h | h
                  · exact HU.out i h z hz
                  · obtain rfl : i = j := by omega
                    rw [HY0.out] at hz
                    cases hz
                    exact hlt2), bstep hbj hb4⟩
              case measure => simp [intOf]; omega
            · have HI := Lib.hid (insR_at D j hj HU.out)
              have k1 : (j : Int) ≤ (c' : Int) := by omega
              have k2 : (j : Int) ≤ (D.length : Int) := by omega
              have k3 : (D.length : Int) ≤ (c' : Int) := by omega
              have k4 : ¬ c' = j := by omega
              have l0 : (0 : Int) < ((D.length - j : Nat) : Int) := by omega
              clear q1 q2 q3 q4 p1 p2 p3 p4
              go_wp2_with fail
              (refine wp_region_calm (by kernel_rfl) (by kernel_rfl) ?_; (repeat (go_big_quiet_step ((fail)))); refine wpQuiet_nil ?_; intro xw; have hb4 := xw.is; generalize xw.w = w4 at hb4 ⊢; clear xw)
              obtain ⟨p0, p1, p2, p3, p4⟩ := cell5 hbb HC.out (bstep hbj hb4)
              have HO4 := Lib.hid (own_below HO2.out hb4)
              obtain ⟨b4', off4', e, hb4', q0, q1, q2, q3, q4⟩ := (RowAt.of_own HO4.out encFe_len (by omega)).fe HY0.out
              cases e
              simp only [Nat.zero_add] at q0 q1 q2 q3 q4
              have hbb4 := Nat.lt_of_lt_of_le hbb2 hb4.size
              clear q1 q2 q3 q4 p1 p2 p3 p4
              by_cases he : y.id = m.id
              · have heq : (y.id == m.id) = true := by simpa using he
                go_wp2_with fail
                generalize hq : D.length - j = q at l0 ⊢
                generalize hq2 : c' - j = q2 at ⊢
                have l1 : 0 < q := by omega
                (refine wp_region_calm (by kernel_rfl) (by kernel_rfl) ?_; (repeat (go_big_quiet_step ((fail)))); refine wpQuiet_nil ?_; intro xw; have hb5 := xw.is; generalize xw.w = w5 at hb5 ⊢; clear xw)
                have r1 : (1 : Int) ≤ (q : Int) := by omega
                have r2 : (1 : Int) ≤ (q2 : Int) := by omega
                have r3 : (q : Int) ≤ (q2 : Int) := by omega
                have HF := Lib.hid (show insR m D = D.take j ++ [m] ++ D.drop (j + 1) by rw [HI.out, drop_cons HY0.out]; simp only [insR, if_neg (show ¬ y.id < m.id by omega), if_pos he]; simp)
                have HW := Lib.hid (own_below HO4.out hb5)
                have HR5 := RowAt.of_own HW.out encFe_len (by omega)
                have HR := Lib.hid HR5
                have HBB := Lib.hid (Nat.lt_of_lt_of_le hbb4 hb5.size)
                have HC5 := Lib.hid (cell5 hbb HC.out (bstep (bstep hbj hb4) hb5))
                have HK := Lib.hid (show ((D.take j).flatMap encFe).length = j * 5 by rw [flat_len encFe_len, List.length_take, Nat.min_eq_left hj])
                have HN := Lib.hid (show j + 1 + (q - 1) = (insR m D).length by rw [HF.out]; simp; omega)
                have HY := Lib.hid (show (D.take j).flatMap encFe ++ encFe m ++ (D.drop (j + 1)).flatMap encFe = (insR m D).flatMap encFe by rw [HF.out]; simp)
                have HK2 := Lib.hid (show ((D.drop (j + 1)).flatMap encFe).length = (q - 1) * 5 by rw [flat_len encFe_len, List.length_drop]; congr 1; omega)
                have hNl : (insR m D).length ≤ 40 := by have := insR_len m D; omega
                clear p0 q0
                by_cases hc1 : q2 = 1
                · have HRD := Lib.hid (show RowAt 5 encFe w5 (some ⟨g, j * 5, none⟩) (D.drop (j + 1)) from fun hne => absurd (List.drop_eq_nil_of_le (by omega)) hne)
                  clear HR5
                  go_wp2_with fail
                  go_region_held3 (fun w' => w'.cell? ⟨bb, ob + k * 5, none⟩ = some (.int .i64 m.id) ∧ w'.cell? ⟨bb, ob + k * 5 + 1, none⟩ = some (.int .i64 m.x) ∧ w'.cell? ⟨bb, ob + k * 5 + 2, none⟩ = some (.int .i64 m.y) ∧ w'.cell? ⟨bb, ob + k * 5 + 3, none⟩ = some (.int .i64 m.lv) ∧ w'.cell? ⟨bb, ob + k * 5 + 4, none⟩ = some (.int .i64 m.pp)) (exact cell5 HBB.out HC5.out (by repeat (first | exact bref _ | exact hbI1 | exact hbI2 | exact hbI3 | (refine balloc ?_ _) | (refine bdrew ?_) | (refine bdrewN ?_ _)))) (first
            | ((refine step_appS (by rfl) (.tmp 67) (.tmp 70) 31 25 5 40 _ (by rfl) Try.underlying31 infoFe rfl (by decide) w5.heap.size _ 0 [] (by rfl) (own_empty (by first | exact heap_new1 _ _ | exact heap_new2 _ _ _ | exact heap_old2 _ _ _) (by first | exact Nat.le_refl _ | (simp; done))) _ _ _ ((D.take j).flatMap encFe) (by rfl) HK.out ((RowAt.below (HR.out.takeR j) (by repeat (first | exact bref _ | exact hbI1 | exact hbI2 | exact hbI3 | (refine balloc ?_ _) | (refine bdrew ?_) | (refine bdrewN ?_ _)))).news encFe_len) (cellsFe_one _) j (Nat.zero_add _) _ (List.nil_append _) (by omega) (by decide) (Below.size (B := w5.heap.size) (by repeat (first | exact bref _ | exact hbI1 | exact hbI2 | exact hbI3 | (refine balloc ?_ _) | (refine bdrew ?_) | (refine bdrewN ?_ _)))) ?_); intro A1 c1 w1 hoI1 hgI1 hlI1; have hbI1 : Below w5.heap.size w5 w1 := bgrown (by repeat (first | exact bref _ | exact hbI1 | exact hbI2 | exact hbI3 | (refine balloc ?_ _) | (refine bdrew ?_) | (refine bdrewN ?_ _))) hgI1 (by intro j hj; simp [Value.ownBlock] at hj; omega))
            | ((refine step_appS (by rfl) (.tmp 71) (.tmp 76) 31 25 5 40 _ (by rfl) Try.underlying31 infoFe rfl (by decide) w5.heap.size (.slice A1 j c1) j _ (by rfl) (by first | exact hoI1 | exact hoI1.alloc _ | exact own_drew (hoI1.alloc _)) _ 1 _ (encFe m) (by rfl) rfl (news1 (by first | exact heap_new1 _ _ | exact (hgI1.block _ (by simp <;> omega) (by simp [Value.ownBlock] <;> omega)).trans (heap_new2 _ _ _) | exact (hgI1.block _ (by simp <;> omega) (by simp [Value.ownBlock] <;> omega)).trans (heap_old2 _ _ _)) rfl) (encFe_one m) (j + 1) rfl _ rfl (by omega) (by decide) (Below.size (B := w5.heap.size) (by repeat (first | exact bref _ | exact hbI1 | exact hbI2 | exact hbI3 | (refine balloc ?_ _) | (refine bdrew ?_) | (refine bdrewN ?_ _)))) ?_); intro A2 c2 w2 hoI2 hgI2 hlI2; have hbI2 : Below w5.heap.size w5 w2 := bgrown (by repeat (first | exact bref _ | exact hbI1 | exact hbI2 | exact hbI3 | (refine balloc ?_ _) | (refine bdrew ?_) | (refine bdrewN ?_ _))) hgI2 (row_mine hoI1))
            | ((refine step_appS (by rfl) (.tmp 77) (.tmp 78) 31 25 5 40 _ (by rfl) Try.underlying31 infoFe rfl (by decide) w5.heap.size (.slice A2 (j + 1) c2) (j + 1) _ (by rfl) (by first | exact hoI2 | exact own_drew hoI2) _ _ _ ((D.drop (j + 1)).flatMap encFe) (by rfl) HK2.out ((RowAt.below (HRD.out) (by repeat (first | exact bref _ | exact hbI1 | exact hbI2 | exact hbI3 | (refine balloc ?_ _) | (refine bdrew ?_) | (refine bdrewN ?_ _)))).news encFe_len) (cellsFe_one _) ((insR m D).length) HN.out _ HY.out (by have := HN.out; omega) (by decide) (Below.size (B := w5.heap.size) (by repeat (first | exact bref _ | exact hbI1 | exact hbI2 | exact hbI3 | (refine balloc ?_ _) | (refine bdrew ?_) | (refine bdrewN ?_ _)))) ?_); intro A3 c3 w3 hoI3 hgI3 hlI3; have hbI3 : Below w5.heap.size w5 w3 := bgrown (by repeat (first | exact bref _ | exact hbI1 | exact hbI2 | exact hbI3 | (refine balloc ?_ _) | (refine bdrew ?_) | (refine bdrewN ?_ _))) hgI3 (row_mine hoI2))
            | fail)
                  all_goals
                    go_wp2
                    go_roundw
                    case rel => exact ⟨k + 1, insR m D, A3, c3, by omega, by go_num, rfl, by have := insR_len m D; omega, Lib.hid HX.out.symm, bstep (bstep (bstep (bstep hbr hbj) hb4) hb5) hbI3, own_base hoI3 (bstep (bstep (bstep hbr hbj) hb4) hb5).size⟩
                    case measure => simp [intOf]; omega
                · have HRD := Lib.hid (by simpa [Nat.add_mul] using HR5.drop (j + 1) : RowAt 5 encFe w5 (some ⟨g, j * 5 + 5, none⟩) (D.drop (j + 1)))
                  clear HR5
                  go_wp2_with fail
                  go_region_held3 (fun w' => w'.cell? ⟨bb, ob + k * 5, none⟩ = some (.int .i64 m.id) ∧ w'.cell? ⟨bb, ob + k * 5 + 1, none⟩ = some (.int .i64 m.x) ∧ w'.cell? ⟨bb, ob + k * 5 + 2, none⟩ = some (.int .i64 m.y) ∧ w'.cell? ⟨bb, ob + k * 5 + 3, none⟩ = some (.int .i64 m.lv) ∧ w'.cell? ⟨bb, ob + k * 5 + 4, none⟩ = some (.int .i64 m.pp)) (exact cell5 HBB.out HC5.out (by repeat (first | exact bref _ | exact hbI1 | exact hbI2 | exact hbI3 | (refine balloc ?_ _) | (refine bdrew ?_) | (refine bdrewN ?_ _)))) (first
            | ((refine step_appS (by rfl) (.tmp 67) (.tmp 70) 31 25 5 40 _ (by rfl) Try.underlying31 infoFe rfl (by decide) w5.heap.size _ 0 [] (by rfl) (own_empty (by first | exact heap_new1 _ _ | exact heap_new2 _ _ _ | exact heap_old2 _ _ _) (by first | exact Nat.le_refl _ | (simp; done))) _ _ _ ((D.take j).flatMap encFe) (by rfl) HK.out ((RowAt.below (HR.out.takeR j) (by repeat (first | exact bref _ | exact hbI1 | exact hbI2 | exact hbI3 | (refine balloc ?_ _) | (refine bdrew ?_) | (refine bdrewN ?_ _)))).news encFe_len) (cellsFe_one _) j (Nat.zero_add _) _ (List.nil_append _) (by omega) (by decide) (Below.size (B := w5.heap.size) (by repeat (first | exact bref _ | exact hbI1 | exact hbI2 | exact hbI3 | (refine balloc ?_ _) | (refine bdrew ?_) | (refine bdrewN ?_ _)))) ?_); intro A1 c1 w1 hoI1 hgI1 hlI1; have hbI1 : Below w5.heap.size w5 w1 := bgrown (by repeat (first | exact bref _ | exact hbI1 | exact hbI2 | exact hbI3 | (refine balloc ?_ _) | (refine bdrew ?_) | (refine bdrewN ?_ _))) hgI1 (by intro j hj; simp [Value.ownBlock] at hj; omega))
            | ((refine step_appS (by rfl) (.tmp 71) (.tmp 76) 31 25 5 40 _ (by rfl) Try.underlying31 infoFe rfl (by decide) w5.heap.size (.slice A1 j c1) j _ (by rfl) (by first | exact hoI1 | exact hoI1.alloc _ | exact own_drew (hoI1.alloc _)) _ 1 _ (encFe m) (by rfl) rfl (news1 (by first | exact heap_new1 _ _ | exact (hgI1.block _ (by simp <;> omega) (by simp [Value.ownBlock] <;> omega)).trans (heap_new2 _ _ _) | exact (hgI1.block _ (by simp <;> omega) (by simp [Value.ownBlock] <;> omega)).trans (heap_old2 _ _ _)) rfl) (encFe_one m) (j + 1) rfl _ rfl (by omega) (by decide) (Below.size (B := w5.heap.size) (by repeat (first | exact bref _ | exact hbI1 | exact hbI2 | exact hbI3 | (refine balloc ?_ _) | (refine bdrew ?_) | (refine bdrewN ?_ _)))) ?_); intro A2 c2 w2 hoI2 hgI2 hlI2; have hbI2 : Below w5.heap.size w5 w2 := bgrown (by repeat (first | exact bref _ | exact hbI1 | exact hbI2 | exact hbI3 | (refine balloc ?_ _) | (refine bdrew ?_) | (refine bdrewN ?_ _))) hgI2 (row_mine hoI1))
            | ((refine step_appS (by rfl) (.tmp 77) (.tmp 78) 31 25 5 40 _ (by rfl) Try.underlying31 infoFe rfl (by decide) w5.heap.size (.slice A2 (j + 1) c2) (j + 1) _ (by rfl) (by first | exact hoI2 | exact own_drew hoI2) _ _ _ ((D.drop (j + 1)).flatMap encFe) (by rfl) HK2.out ((RowAt.below (HRD.out) (by repeat (first | exact bref _ | exact hbI1 | exact hbI2 | exact hbI3 | (refine balloc ?_ _) | (refine bdrew ?_) | (refine bdrewN ?_ _)))).news encFe_len) (cellsFe_one _) ((insR m D).length) HN.out _ HY.out (by have := HN.out; omega) (by decide) (Below.size (B := w5.heap.size) (by repeat (first | exact bref _ | exact hbI1 | exact hbI2 | exact hbI3 | (refine balloc ?_ _) | (refine bdrew ?_) | (refine bdrewN ?_ _)))) ?_); intro A3 c3 w3 hoI3 hgI3 hlI3; have hbI3 : Below w5.heap.size w5 w3 := bgrown (by repeat (first | exact bref _ | exact hbI1 | exact hbI2 | exact hbI3 | (refine balloc ?_ _) | (refine bdrew ?_) | (refine bdrewN ?_ _))) hgI3 (row_mine hoI2))
            | fail)
                  all_goals
                    go_wp2
                    go_roundw
                    case rel => exact ⟨k + 1, insR m D, A3, c3, by omega, by go_num, rfl, by have := insR_len m D; omega, Lib.hid HX.out.symm, bstep (bstep (bstep (bstep hbr hbj) hb4) hb5) hbI3, own_base hoI3 (bstep (bstep (bstep hbr hbj) hb4) hb5).size⟩
                    case measure => simp [intOf]; omega
              · have heq : (y.id == m.id) = false := by simpa using he
                go_wp2_with fail
                generalize hq : D.length - j = q at l0 ⊢
                generalize hq2 : c' - j = q2 at ⊢
                have l1 : 0 < q := by omega
                (refine wp_region_calm (by kernel_rfl) (by kernel_rfl) ?_; (repeat (go_big_quiet_step ((fail)))); refine wpQuiet_nil ?_; intro xw; have hb5 := xw.is; generalize xw.w = w5 at hb5 ⊢; clear xw)
                have HF := Lib.hid (show insR m D = D.take j ++ [m] ++ D.drop j by rw [HI.out, drop_cons HY0.out]; simp only [insR, if_neg (show ¬ y.id < m.id by omega), if_neg he]; simp)
                have HW := Lib.hid (own_below HO4.out hb5)
                have HR5 := RowAt.of_own HW.out encFe_len (by omega)
                have HRD := Lib.hid (by simpa using HR5.drop j : RowAt 5 encFe w5 (some ⟨g, j * 5, none⟩) (D.drop j))
                have HR := Lib.hid HR5
                have HBB := Lib.hid (Nat.lt_of_lt_of_le hbb4 hb5.size)
                have HC5 := Lib.hid (cell5 hbb HC.out (bstep (bstep hbj hb4) hb5))
                have HK := Lib.hid (show ((D.take j).flatMap encFe).length = j * 5 by rw [flat_len encFe_len, List.length_take, Nat.min_eq_left hj])
                have HN := Lib.hid (show j + 1 + q = (insR m D).length by rw [HF.out]; simp; omega)
                have HY := Lib.hid (show (D.take j).flatMap encFe ++ encFe m ++ (D.drop j).flatMap encFe = (insR m D).flatMap encFe by rw [HF.out]; simp)
                have HK2 := Lib.hid (show ((D.drop j).flatMap encFe).length = q * 5 by rw [flat_len encFe_len, List.length_drop, hq])
                have hNl : (insR m D).length ≤ 40 := by have := insR_len m D; omega
                clear HR5 p0 q0
                go_wp2_with fail
                go_region_held3 (fun w' => w'.cell? ⟨bb, ob + k * 5, none⟩ = some (.int .i64 m.id) ∧ w'.cell? ⟨bb, ob + k * 5 + 1, none⟩ = some (.int .i64 m.x) ∧ w'.cell? ⟨bb, ob + k * 5 + 2, none⟩ = some (.int .i64 m.y) ∧ w'.cell? ⟨bb, ob + k * 5 + 3, none⟩ = some (.int .i64 m.lv) ∧ w'.cell? ⟨bb, ob + k * 5 + 4, none⟩ = some (.int .i64 m.pp)) (exact cell5 HBB.out HC5.out (by repeat (first | exact bref _ | exact hbI1 | exact hbI2 | exact hbI3 | (refine balloc ?_ _) | (refine bdrew ?_) | (refine bdrewN ?_ _)))) (first
            | ((refine step_appS (by rfl) (.tmp 67) (.tmp 70) 31 25 5 40 _ (by rfl) Try.underlying31 infoFe rfl (by decide) w5.heap.size _ 0 [] (by rfl) (own_empty (by first | exact heap_new1 _ _ | exact heap_new2 _ _ _ | exact heap_old2 _ _ _) (by first | exact Nat.le_refl _ | (simp; done))) _ _ _ ((D.take j).flatMap encFe) (by rfl) HK.out ((RowAt.below (HR.out.takeR j) (by repeat (first | exact bref _ | exact hbI1 | exact hbI2 | exact hbI3 | (refine balloc ?_ _) | (refine bdrew ?_) | (refine bdrewN ?_ _)))).news encFe_len) (cellsFe_one _) j (Nat.zero_add _) _ (List.nil_append _) (by omega) (by decide) (Below.size (B := w5.heap.size) (by repeat (first | exact bref _ | exact hbI1 | exact hbI2 | exact hbI3 | (refine balloc ?_ _) | (refine bdrew ?_) | (refine bdrewN ?_ _)))) ?_); intro A1 c1 w1 hoI1 hgI1 hlI1; have hbI1 : Below w5.heap.size w5 w1 := bgrown (by repeat (first | exact bref _ | exact hbI1 | exact hbI2 | exact hbI3 | (refine balloc ?_ _) | (refine bdrew ?_) | (refine bdrewN ?_ _))) hgI1 (by intro j hj; simp [Value.ownBlock] at hj; omega))
            | ((refine step_appS (by rfl) (.tmp 71) (.tmp 76) 31 25 5 40 _ (by rfl) Try.underlying31 infoFe rfl (by decide) w5.heap.size (.slice A1 j c1) j _ (by rfl) (by first | exact hoI1 | exact hoI1.alloc _ | exact own_drew (hoI1.alloc _)) _ 1 _ (encFe m) (by rfl) rfl (news1 (by first | exact heap_new1 _ _ | exact (hgI1.block _ (by simp <;> omega) (by simp [Value.ownBlock] <;> omega)).trans (heap_new2 _ _ _) | exact (hgI1.block _ (by simp <;> omega) (by simp [Value.ownBlock] <;> omega)).trans (heap_old2 _ _ _)) rfl) (encFe_one m) (j + 1) rfl _ rfl (by omega) (by decide) (Below.size (B := w5.heap.size) (by repeat (first | exact bref _ | exact hbI1 | exact hbI2 | exact hbI3 | (refine balloc ?_ _) | (refine bdrew ?_) | (refine bdrewN ?_ _)))) ?_); intro A2 c2 w2 hoI2 hgI2 hlI2; have hbI2 : Below w5.heap.size w5 w2 := bgrown (by repeat (first | exact bref _ | exact hbI1 | exact hbI2 | exact hbI3 | (refine balloc ?_ _) | (refine bdrew ?_) | (refine bdrewN ?_ _))) hgI2 (row_mine hoI1))
            | ((refine step_appS (by rfl) (.tmp 77) (.tmp 78) 31 25 5 40 _ (by rfl) Try.underlying31 infoFe rfl (by decide) w5.heap.size (.slice A2 (j + 1) c2) (j + 1) _ (by rfl) (by first | exact hoI2 | exact own_drew hoI2) _ _ _ ((D.drop j).flatMap encFe) (by rfl) HK2.out ((RowAt.below (HRD.out) (by repeat (first | exact bref _ | exact hbI1 | exact hbI2 | exact hbI3 | (refine balloc ?_ _) | (refine bdrew ?_) | (refine bdrewN ?_ _)))).news encFe_len) (cellsFe_one _) ((insR m D).length) HN.out _ HY.out (by have := HN.out; omega) (by decide) (Below.size (B := w5.heap.size) (by repeat (first | exact bref _ | exact hbI1 | exact hbI2 | exact hbI3 | (refine balloc ?_ _) | (refine bdrew ?_) | (refine bdrewN ?_ _)))) ?_); intro A3 c3 w3 hoI3 hgI3 hlI3; have hbI3 : Below w5.heap.size w5 w3 := bgrown (by repeat (first | exact bref _ | exact hbI1 | exact hbI2 | exact hbI3 | (refine balloc ?_ _) | (refine bdrew ?_) | (refine bdrewN ?_ _))) hgI3 (row_mine hoI2))
            | fail)
                all_goals
                  go_wp2
                  go_roundw
                  case rel => exact ⟨k + 1, insR m D, A3, c3, by omega, by go_num, rfl, by have := insR_len m D; omega, Lib.hid HX.out.symm, bstep (bstep (bstep (bstep hbr hbj) hb4) hb5) hbI3, own_base hoI3 (bstep (bstep (bstep hbr hbj) hb4) hb5).size⟩
                  case measure => simp [intOf]; omega
          · obtain rfl : j = D.length := by omega
            have HF := Lib.hid (show insR m D = D ++ [m] by have := insR_at D D.length (Nat.le_refl _) HU.out; simpa [insR] using this)
            have k3 : (D.length : Int) ≤ (c' : Int) := by omega
            have hNl : (insR m D).length ≤ 40 := by have := insR_len m D; omega
            clear p1 p2 p3 p4
            rcases own_form HO.out with ⟨rfl, h0, rfl⟩ | ⟨g, rfl⟩
            · obtain rfl : D = [] := List.eq_nil_of_length_eq_zero h0
              simp only [List.length_nil]
              go_wp2_with fail
              (refine wp_region_calm (by kernel_rfl) (by kernel_rfl) ?_; (repeat (go_big_quiet_step ((fail)))); refine wpQuiet_nil ?_; intro xw; have hb4 := xw.is; generalize xw.w = w4 at hb4 ⊢; clear xw)
              go_wp2_with fail
              (refine wp_region_calm (by kernel_rfl) (by kernel_rfl) ?_; (repeat (go_big_quiet_step ((fail)))); refine wpQuiet_nil ?_; intro xw; have hb5 := xw.is; generalize xw.w = w5 at hb5 ⊢; clear xw)
              have HBB := Lib.hid (Nat.lt_of_lt_of_le hbb2 (bstep hb4 hb5).size)
              have HC5 := Lib.hid (cell5 hbb HC.out (bstep (bstep hbj hb4) hb5))
              have HN := Lib.hid (show 0 + 1 + 0 = (insR m []).length from rfl)
              have HY := Lib.hid (show ([] : List Value) ++ encFe m ++ [] = (insR m []).flatMap encFe by simp [insR])
              go_wp2_with fail
              go_region_held3 (fun w' => w'.cell? ⟨bb, ob + k * 5, none⟩ = some (.int .i64 m.id) ∧ w'.cell? ⟨bb, ob + k * 5 + 1, none⟩ = some (.int .i64 m.x) ∧ w'.cell? ⟨bb, ob + k * 5 + 2, none⟩ = some (.int .i64 m.y) ∧ w'.cell? ⟨bb, ob + k * 5 + 3, none⟩ = some (.int .i64 m.lv) ∧ w'.cell? ⟨bb, ob + k * 5 + 4, none⟩ = some (.int .i64 m.pp)) (exact cell5 HBB.out HC5.out (by repeat (first | exact bref _ | exact hbI1 | exact hbI2 | exact hbI3 | (refine balloc ?_ _) | (refine bdrew ?_) | (refine bdrewN ?_ _)))) (first
            | ((refine step_appS (by rfl) (.tmp 67) (.tmp 70) 31 25 5 40 _ (by rfl) Try.underlying31 infoFe rfl (by decide) w5.heap.size _ 0 [] (by rfl) (own_empty (by first | exact heap_new1 _ _ | exact heap_new2 _ _ _ | exact heap_old2 _ _ _) (by first | exact Nat.le_refl _ | (simp; done))) _ _ _ [] (by rfl) rfl (fun j u hj => by simp at hj) (fun u hu => by simp at hu) 0 (by rfl) [] rfl (by omega) (by decide) (Below.size (B := w5.heap.size) (by repeat (first | exact bref _ | exact hbI1 | exact hbI2 | exact hbI3 | (refine balloc ?_ _) | (refine bdrew ?_) | (refine bdrewN ?_ _)))) ?_); intro A1 c1 w1 hoI1 hgI1 hlI1; have hbI1 : Below w5.heap.size w5 w1 := bgrown (by repeat (first | exact bref _ | exact hbI1 | exact hbI2 | exact hbI3 | (refine balloc ?_ _) | (refine bdrew ?_) | (refine bdrewN ?_ _))) hgI1 (by intro j hj; simp [Value.ownBlock] at hj; omega))
            | ((refine step_appS (by rfl) (.tmp 71) (.tmp 76) 31 25 5 40 _ (by rfl) Try.underlying31 infoFe rfl (by decide) w5.heap.size (.slice A1 0 c1) 0 _ (by rfl) (by first | exact hoI1 | exact hoI1.alloc _ | exact own_drew (hoI1.alloc _)) _ 1 _ (encFe m) (by rfl) rfl (news1 (by first | exact heap_new1 _ _ | exact (hgI1.block _ (by simp <;> omega) (by simp [Value.ownBlock] <;> omega)).trans (heap_new2 _ _ _) | exact (hgI1.block _ (by simp <;> omega) (by simp [Value.ownBlock] <;> omega)).trans (heap_old2 _ _ _)) rfl) (encFe_one m) (0 + 1) rfl _ rfl (by omega) (by decide) (Below.size (B := w5.heap.size) (by repeat (first | exact bref _ | exact hbI1 | exact hbI2 | exact hbI3 | (refine balloc ?_ _) | (refine bdrew ?_) | (refine bdrewN ?_ _)))) ?_); intro A2 c2 w2 hoI2 hgI2 hlI2; have hbI2 : Below w5.heap.size w5 w2 := bgrown (by repeat (first | exact bref _ | exact hbI1 | exact hbI2 | exact hbI3 | (refine balloc ?_ _) | (refine bdrew ?_) | (refine bdrewN ?_ _))) hgI2 (row_mine hoI1))
            | ((refine step_appS (by rfl) (.tmp 77) (.tmp 78) 31 25 5 40 _ (by rfl) Try.underlying31 infoFe rfl (by decide) w5.heap.size (.slice A2 (0 + 1) c2) (0 + 1) _ (by rfl) (by first | exact hoI2 | exact own_drew hoI2) _ _ _ [] (by rfl) (by simp) (fun j u hj => by simp at hj) (fun u hu => by simp at hu) ((insR m []).length) (by first | exact HN.out | (simp; done) | (have := HN.out; simpa using this)) _ HY.out (by have := HN.out; omega) (by decide) (Below.size (B := w5.heap.size) (by repeat (first | exact bref _ | exact hbI1 | exact hbI2 | exact hbI3 | (refine balloc ?_ _) | (refine bdrew ?_) | (refine bdrewN ?_ _)))) ?_); intro A3 c3 w3 hoI3 hgI3 hlI3; have hbI3 : Below w5.heap.size w5 w3 := bgrown (by repeat (first | exact bref _ | exact hbI1 | exact hbI2 | exact hbI3 | (refine balloc ?_ _) | (refine bdrew ?_) | (refine bdrewN ?_ _))) hgI3 (row_mine hoI2))
            | fail)
              all_goals
                go_wp2
                go_roundw
                case rel => exact ⟨k + 1, insR m [], A3, c3, by omega, by go_num, rfl, by have := insR_len m []; omega, Lib.hid HX.out.symm, bstep (bstep (bstep (bstep hbr hbj) hb4) hb5) hbI3, own_base hoI3 (bstep (bstep (bstep hbr hbj) hb4) hb5).size⟩
                case measure => simp [intOf]; omega
            · go_wp2_with fail
              (refine wp_region_calm (by kernel_rfl) (by kernel_rfl) ?_; (repeat (go_big_quiet_step ((fail)))); refine wpQuiet_nil ?_; intro xw; have hb4 := xw.is; generalize xw.w = w4 at hb4 ⊢; clear xw)
              by_cases hck : c' = D.length
              all_goals
                go_wp2_with fail
                (refine wp_region_calm (by kernel_rfl) (by kernel_rfl) ?_; (repeat (go_big_quiet_step ((fail)))); refine wpQuiet_nil ?_; intro xw; have hb5 := xw.is; generalize xw.w = w5 at hb5 ⊢; clear xw)
                have HW := Lib.hid (own_below (own_below HO2.out hb4) hb5)
                have HR := Lib.hid (RowAt.of_own HW.out encFe_len (by omega))
                have HBB := Lib.hid (Nat.lt_of_lt_of_le hbb2 (bstep hb4 hb5).size)
                have HC5 := Lib.hid (cell5 hbb HC.out (bstep (bstep hbj hb4) hb5))
                have HK := Lib.hid (show (D.flatMap encFe).length = D.length * 5 by rw [flat_len encFe_len])
                have HN := Lib.hid (show D.length + 1 + 0 = (insR m D).length by rw [HF.out]; simp)
                have HY := Lib.hid (show D.flatMap encFe ++ encFe m ++ [] = (insR m D).flatMap encFe by rw [HF.out]; simp)
                go_wp2_with fail
                go_region_held3 (fun w' => w'.cell? ⟨bb, ob + k * 5, none⟩ = some (.int .i64 m.id) ∧ w'.cell? ⟨bb, ob + k * 5 + 1, none⟩ = some (.int .i64 m.x) ∧ w'.cell? ⟨bb, ob + k * 5 + 2, none⟩ = some (.int .i64 m.y) ∧ w'.cell? ⟨bb, ob + k * 5 + 3, none⟩ = some (.int .i64 m.lv) ∧ w'.cell? ⟨bb, ob + k * 5 + 4, none⟩ = some (.int .i64 m.pp)) (exact cell5 HBB.out HC5.out (by repeat (first | exact bref _ | exact hbI1 | exact hbI2 | exact hbI3 | (refine balloc ?_ _) | (refine bdrew ?_) | (refine bdrewN ?_ _)))) (first
            | ((refine step_appS (by rfl) (.tmp 67) (.tmp 70) 31 25 5 40 _ (by rfl) Try.underlying31 infoFe rfl (by decide) w5.heap.size _ 0 [] (by rfl) (own_empty (by first | exact heap_new1 _ _ | exact heap_new2 _ _ _ | exact heap_old2 _ _ _) (by first | exact Nat.le_refl _ | (simp; done))) _ _ _ (D.flatMap encFe) (by rfl) HK.out ((RowAt.below HR.out (by repeat (first | exact bref _ | exact hbI1 | exact hbI2 | exact hbI3 | (refine balloc ?_ _) | (refine bdrew ?_) | (refine bdrewN ?_ _)))).news encFe_len) (cellsFe_one _) D.length (Nat.zero_add _) _ (List.nil_append _) (by omega) (by decide) (Below.size (B := w5.heap.size) (by repeat (first | exact bref _ | exact hbI1 | exact hbI2 | exact hbI3 | (refine balloc ?_ _) | (refine bdrew ?_) | (refine bdrewN ?_ _)))) ?_); intro A1 c1 w1 hoI1 hgI1 hlI1; have hbI1 : Below w5.heap.size w5 w1 := bgrown (by repeat (first | exact bref _ | exact hbI1 | exact hbI2 | exact hbI3 | (refine balloc ?_ _) | (refine bdrew ?_) | (refine bdrewN ?_ _))) hgI1 (by intro j hj; simp [Value.ownBlock] at hj; omega))
            | ((refine step_appS (by rfl) (.tmp 71) (.tmp 76) 31 25 5 40 _ (by rfl) Try.underlying31 infoFe rfl (by decide) w5.heap.size (.slice A1 D.length c1) D.length _ (by rfl) (by first | exact hoI1 | exact hoI1.alloc _ | exact own_drew (hoI1.alloc _)) _ 1 _ (encFe m) (by rfl) rfl (news1 (by first | exact heap_new1 _ _ | exact (hgI1.block _ (by simp <;> omega) (by simp [Value.ownBlock] <;> omega)).trans (heap_new2 _ _ _) | exact (hgI1.block _ (by simp <;> omega) (by simp [Value.ownBlock] <;> omega)).trans (heap_old2 _ _ _)) rfl) (encFe_one m) (D.length + 1) rfl _ rfl (by omega) (by decide) (Below.size (B := w5.heap.size) (by repeat (first | exact bref _ | exact hbI1 | exact hbI2 | exact hbI3 | (refine balloc ?_ _) | (refine bdrew ?_) | (refine bdrewN ?_ _)))) ?_); intro A2 c2 w2 hoI2 hgI2 hlI2; have hbI2 : Below w5.heap.size w5 w2 := bgrown (by repeat (first | exact bref _ | exact hbI1 | exact hbI2 | exact hbI3 | (refine balloc ?_ _) | (refine bdrew ?_) | (refine bdrewN ?_ _))) hgI2 (row_mine hoI1))
            | ((refine step_appS (by rfl) (.tmp 77) (.tmp 78) 31 25 5 40 _ (by rfl) Try.underlying31 infoFe rfl (by decide) w5.heap.size (.slice A2 (D.length + 1) c2) (D.length + 1) _ (by rfl) (by first | exact hoI2 | exact own_drew hoI2) _ _ _ [] (by rfl) (by simp) (fun j u hj => by simp at hj) (fun u hu => by simp at hu) ((insR m D).length) (by first | exact HN.out | (simp; done) | (have := HN.out; simpa using this)) _ HY.out (by have := HN.out; omega) (by decide) (Below.size (B := w5.heap.size) (by repeat (first | exact bref _ | exact hbI1 | exact hbI2 | exact hbI3 | (refine balloc ?_ _) | (refine bdrew ?_) | (refine bdrewN ?_ _)))) ?_); intro A3 c3 w3 hoI3 hgI3 hlI3; have hbI3 : Below w5.heap.size w5 w3 := bgrown (by repeat (first | exact bref _ | exact hbI1 | exact hbI2 | exact hbI3 | (refine balloc ?_ _) | (refine bdrew ?_) | (refine bdrewN ?_ _))) hgI3 (row_mine hoI2))
            | fail)
                all_goals
                  go_wp2
                  go_roundw
                  case rel => exact ⟨k + 1, insR m D, A3, c3, by omega, by go_num, rfl, by have := insR_len m D; omega, Lib.hid HX.out.symm, bstep (bstep (bstep (bstep hbr hbj) hb4) hb5) hbI3, own_base hoI3 (bstep (bstep (bstep hbr hbj) hb4) hb5).size⟩
                  case measure => simp [intOf]; omega
      · obtain rfl : k = b.length := by omega
        rw [List.take_length] at HD
        have HR1 := Lib.hid (RowAt.of_own HO.out encFe_len (by omega))
        cases hgS : goodFe D
        · have hok : merOK a b = false := by simp [merOK, HGA.out, HGB.out, ← HD.out, hgS]
          have HE := Lib.hid (show merL a b = [] by simp [merL, hok])
          have HK := Lib.hid hok
          clear hok
          go_wp2_with (go_at_call 64; (with_reducible refine (sgoodFe_any D _ _ _ HR1.out (by omega)).mono ?_); rw [hgS]; rintro e w2 ⟨rfl, hb2⟩)
          go_ret2
          rw [HE.out, HK.out]
          exact ⟨some ⟨w2.heap.size, 0, none⟩, 0, rfl, own_base (own_made (cur := #[]) rfl (Nat.zero_le _)) (Nat.le_trans hbr.size hb2.size), balloc (bstep hbr hb2) _⟩
        · have hok : merOK a b = true := by simp [merOK, HGA.out, HGB.out, ← HD.out, hgS]
          have HE := Lib.hid (show merL a b = D by simp [merL, hok, ← HD.out])
          have HK := Lib.hid hok
          clear hok
          go_wp2_with (go_at_call 64; (with_reducible refine (sgoodFe_any D _ _ _ HR1.out (by omega)).mono ?_); rw [hgS]; rintro e w2 ⟨rfl, hb2⟩)
          go_ret2
          rw [HE.out, HK.out]
          exact ⟨_, _, rfl, own_below HO.out hb2, bstep hbr hb2⟩
  all_goals
    have hok : merOK a b = false := by simp [merOK, hga, hgb]
    have e : merL a b = [] := by simp [merL, hok]
    rw [e, hok]
    clear e hok
    go_enter Try.func39, Try.ntmps39
    go_wp2_with (first | (go_at_call 64; first | (with_reducible refine (sgoodFe_any a _ _ _ HA.out hla).mono ?_; rw [hga]; rintro e w1 ⟨rfl, hb1⟩) | (with_reducible refine (sgoodFe_any b _ _ _ (HB.out.below hb1) hlb).mono ?_; rw [hgb]; rintro e w2 ⟨rfl, hb2⟩)))
    go_ret2
    first
      | exact ⟨some ⟨w1.heap.size, 0, none⟩, 0, rfl, own_base (own_made (cur := #[]) rfl (Nat.zero_le _)) hb1.size, balloc hb1 _⟩
      | exact ⟨some ⟨w2.heap.size, 0, none⟩, 0, rfl, own_base (own_made (cur := #[]) rfl (Nat.zero_le _)) (Nat.le_trans hb1.size hb2.size), balloc (bstep hb1 hb2) _⟩
end Go.Proofs.Ytjjinblahmcplaa
