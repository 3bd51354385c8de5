/-
  The samples of a run: of the runs that hold n, every number's first packet's samples one behind the other.
-/
import Derived.Test.YtifkakpiipoadaaPkRuns
import Derived.Test.YtifkakpiipoadaaPkConf
namespace Go.Proofs.Ytifkakpiipoadaa
set_option linter.unusedVariables false
set_option linter.unusedSimpArgs false
set_option linter.unnecessarySimpa false
open Go.RowKit
attribute [local go_sem] ext_cell ext_frozen

def RunQ (L : List Int) (r : P2) : Prop := 0 ≤ r.a ∧ r.a ≤ r.b ∧ r.b ≤ 999 ∧ ∀ m, r.a ≤ m → m ≤ r.b → m ∈ L
theorem stepR_inv {L : List Int} {D : List P2} {n : Int} (hn : n ∈ L) (hb : 0 ≤ n ∧ n ≤ 999) (hD : ∀ r ∈ D, RunQ L r) : ∀ r ∈ stepR D n, RunQ L r := by
  have h1 : RunQ L ⟨n, n⟩ := ⟨hb.1, Int.le_refl _, hb.2, fun m h1 h2 => by
    have h1' : n ≤ m := h1
    have h2' : m ≤ n := h2
    have : m = n := by omega
    rw [this]; exact hn⟩
  rcases List.eq_nil_or_concat D with rfl | ⟨E, p, rfl⟩
  · rw [stepR_nil]
    intro r hr
    rw [List.mem_singleton] at hr
    subst hr
    exact h1
  · rw [List.concat_eq_append] at hD ⊢
    by_cases hc : p.b = n - 1
    · rw [stepR_yes hc]
      intro r hr
      rcases List.mem_append.1 hr with h | h
      · exact hD r (List.mem_append_left _ h)
      · rw [List.mem_singleton] at h
        subst h
        obtain ⟨q0, q1, q2, q3⟩ := hD p (by simp)
        refine ⟨q0, show p.a ≤ n by omega, hb.2, fun m m1 m2 => ?_⟩
        have m1' : p.a ≤ m := m1
        have m2' : m ≤ n := m2
        by_cases e : m = n
        · rw [e]; exact hn
        · exact q3 m m1' (by omega)
    · rw [stepR_no hc]
      intro r hr
      rcases List.mem_append.1 hr with h | h
      · exact hD r h
      · rw [List.mem_singleton] at h
        subst h
        exact h1
theorem runsK_inv {L : List Int} (h : ∀ x ∈ L, 0 ≤ x ∧ x ≤ 999) : ∀ k, k ≤ L.length → ∀ r ∈ runsK L k, RunQ L r
  | 0, _ => by simp [runsK]
  | k + 1, hk => by
    obtain ⟨n, hn⟩ := some_get (show k < L.length by omega)
    rw [runsK_succ hn]
    exact stepR_inv (List.mem_of_getElem? hn) (h n (List.mem_of_getElem? hn)) (runsK_inv h k (by omega))
theorem runsP_inv {l : List Pk} (hg : goodP (plS l) = true) : ∀ r ∈ runsP (plS l), RunQ (numsP (plS l)) r := runsK_inv (nums_bd hg) _ (Nat.le_refl _)
def smpAt (P : List PP) (m : Int) : List Int := match P[(firstP m P).toNat]? with | some q => q.2 | none => []
def rngF (P : List PP) (a : Int) (t : Nat) : List Int := (List.range t).flatMap fun (i : Nat) => smpAt P (a + (i : Int))
theorem rngF_zero (P : List PP) (a : Int) : rngF P a 0 = [] := rfl
theorem rngF_succ (P : List PP) (a : Int) (t : Nat) : rngF P a (t + 1) = rngF P a t ++ smpAt P (a + (t : Int)) := by simp [rngF, List.range_succ]
def runT (n : Int) (r : P2) : Nat := if inB n r.a r.b then (r.b - r.a + 1).toNat else 0
def smpK (P : List PP) (n : Int) (k : Nat) : List Int := ((runsP P).take k).flatMap fun r => rngF P r.a (runT n r)
theorem smpK_succ {P : List PP} {n : Int} {k : Nat} {r : P2} (h : (runsP P)[k]? = some r) : smpK P n (k + 1) = smpK P n k ++ rngF P r.a (runT n r) := by
  unfold smpK
  rw [List.take_add_one, h]
  simp [List.flatMap_append]
def smpOK (n : Int) (P : List PP) : Bool := goodP P && decide (0 ≤ firstP n P)
def smpR (n : Int) (P : List PP) : List Int := if smpOK n P then smpK P n (runsP P).length else []
theorem smp_at {l : List Pk} {m : Int} (hm : m ∈ numsP (plS l)) : ∃ (j : Nat) (q : Pk), firstP m (plS l) = (j : Int) ∧ l[j]? = some q ∧ j < l.length ∧ smpAt (plS l) m = q.sm := by
  unfold numsP plS at hm
  rw [putAll_mem, List.map_map, List.mem_map] at hm
  obtain ⟨p, hp, rfl⟩ := hm
  obtain ⟨k, hk⟩ := List.getElem?_of_mem hp
  obtain ⟨j, q, hj, hq, hjl⟩ := first_at hk
  refine ⟨j, q, hj, hq, hjl, ?_⟩
  have hj' : firstP ((Prod.fst ∘ Pk.pl) p) (plS l) = (j : Int) := hj
  unfold smpAt
  rw [hj', Int.toNat_natCast, plS_get hq]
theorem smpAt_le {l : List Pk} (hg : goodP (plS l) = true) (m : Int) : (smpAt (plS l) m).length ≤ 6 := by
  unfold smpAt
  split
  · rename_i q hq
    have hm := List.mem_of_getElem? hq
    unfold plS at hm
    obtain ⟨p, hp, rfl⟩ := List.mem_map.1 hm
    exact (onePk_bounds (goodP_one hg p hp)).2.2
  · simp
theorem rngF_le {l : List Pk} (hg : goodP (plS l) = true) (a : Int) : ∀ t, (rngF (plS l) a t).length ≤ 6 * t
  | 0 => by simp [rngF]
  | t + 1 => by
    have := rngF_le hg a t
    have := smpAt_le hg (a + (t : Int))
    rw [rngF_succ, List.length_append]
    omega
theorem runT_le {l : List Pk} (hg : goodP (plS l) = true) (n : Int) {r : P2} (hr : r ∈ runsP (plS l)) : runT n r ≤ 1000 := by
  obtain ⟨h0, h1, h2, _⟩ := runsP_inv hg r hr
  unfold runT; split <;> omega
theorem smpK_le {l : List Pk} (hg : goodP (plS l) = true) (n : Int) : ∀ k, k ≤ (runsP (plS l)).length → (smpK (plS l) n k).length ≤ k * 6000
  | 0, _ => by simp [smpK]
  | k + 1, h => by
    obtain ⟨r, hr⟩ := some_get (show k < (runsP (plS l)).length by omega)
    have := smpK_le hg n k (by omega)
    have h1 := rngF_le hg r.a (runT n r)
    have h2 := runT_le hg n (List.mem_of_getElem? hr)
    rw [smpK_succ hr, List.length_append]
    omega
theorem runsP_10 {l : List Pk} (hg : goodP (plS l) = true) : (runsP (plS l)).length ≤ 10 := by
  have h1 := runsP_le (plS l)
  have h2 := goodP_len hg
  rw [plS_len] at h1
  omega
theorem smpR_le {l : List Pk} (n : Int) : (smpR n (plS l)).length ≤ 60000 := by
  unfold smpR; split
  · rename_i h
    have hg : goodP (plS l) = true := by
      unfold smpOK at h
      simp only [Bool.and_eq_true] at h
      exact h.1
    have h1 := smpK_le hg n _ (Nat.le_refl _)
    have h2 := runsP_10 hg
    omega
  · simp
theorem cellsI_len (l : List Int) : (l.flatMap encI).length = l.length * 1 := flat_len encI_len l
theorem cellsI_one' (l : List Int) : ∀ v ∈ l.flatMap encI, v.oneCell' = true := by
  intro v hv
  obtain ⟨x, _, h⟩ := List.mem_flatMap.1 hv
  exact encI_one x v h
theorem appI (a b : List Int) : a.flatMap encI ++ b.flatMap encI = (a ++ b).flatMap encI := by rw [List.flatMap_append]

set_option maxRecDepth 100000 in
set_option maxHeartbeats 4000000 in
theorem iSmp_any (l : List Pk) (A : Option Addr) (c : Nat) (n : Int) (w : World) (hr : PkAt w A l) (hlen : tot l ≤ 1048576) :
    Calls Try.prog 44 #[.slice A l.length c, .int .i64 n] w (MkS2 3 1 (smpR n (plS l)).length ((smpR n (plS l)).flatMap encI) (smpOK n (plS l)) w) := by
  have hl : l.length ≤ 1048576 := by unfold tot at hlen; omega
  have HR := Lib.hid hr
  have HT := Lib.hid hlen
  clear hr hlen
  cases hg : goodP (plS l)
  · have HK := Lib.hid (show smpOK n (plS l) = false by simp [smpOK, hg])
    have HE := Lib.hid (show smpR n (plS l) = [] by simp [smpR, HK.out])
    go_enter Try.func44, Try.ntmps44
    go_wp2_with (go_at_call 18; (with_reducible refine (iAreP_any l _ _ _ HR.out (by have := HT.out; omega)).mono ?_); rw [hg]; rintro e w1 ⟨rfl, hb1⟩)
    go_ret2
    rw [HE.out, HK.out]
    exact ⟨none, 0, rfl, World.ownsRow_nil _ _ _ _, hb1⟩
  · have HG := Lib.hid hg
    by_cases hf : firstP n (plS l) < 0
    · have HK := Lib.hid (show smpOK n (plS l) = false by simp [smpOK, hg]; omega)
      have HE := Lib.hid (show smpR n (plS l) = [] by simp [smpR, HK.out])
      go_enter Try.func44, Try.ntmps44
      go_wp2_with (first | (go_at_call 18; (with_reducible refine (iAreP_any l _ _ _ HR.out (by have := HT.out; omega)).mono ?_); rw [hg]; rintro e w1 ⟨rfl, hb1⟩) | (go_at_call 67; (with_reducible refine (firstWith_any l _ _ _ _ (HR.out.below hb1).row (by omega)).mono ?_); rintro e w2 ⟨rfl, hb2⟩))
      go_ret2
      rw [HE.out, HK.out]
      exact ⟨none, 0, rfl, World.ownsRow_nil _ _ _ _, bstep hb1 hb2⟩
    · have hf0 : 0 ≤ firstP n (plS l) := by omega
      have HK := Lib.hid (show smpOK n (plS l) = true by simp [smpOK, hg, hf0])
      have HE := Lib.hid (show smpR n (plS l) = smpK (plS l) n (runsP (plS l)).length by simp [smpR, HK.out])
      have h10 := runsP_10 hg
      have HI := Lib.hid (runsP_inv hg)
      go_enter Try.func44, Try.ntmps44
      go_wp2_with (first | (go_at_call 18; (with_reducible refine (iAreP_any l _ _ _ HR.out (by have := HT.out; omega)).mono ?_); rw [hg]; rintro e w1 ⟨rfl, hb1⟩) | (go_at_call 67; (with_reducible refine (firstWith_any l _ _ _ _ (HR.out.below hb1).row (by omega)).mono ?_); rintro e w2 ⟨rfl, hb2⟩; have hb12 := bstep hb1 hb2) | (go_at_call 86; (with_reducible refine (runs_any l _ _ _ (HR.out.below (balloc hb12 _)).row hl HG.out).mono ?_); rintro e w3 ⟨A3, c3, rfl, ho3, hb3⟩; have HRN := Lib.hid (fun W (hW : w3.grownBy W (some w2.heap.size)) => RowAt.of_own (World.ownsRow.kept ho3 hW (own_apart ho3 (fun k hk => by cases hk; simp))) encP2_len (by omega)); clear ho3) | fail)
      have HO0 := Lib.hid (own_base (base' := w.heap.size) (own_below (own_made (E := 3) (K := 1) (n := 0) (cur := #[]) (w := w2) rfl (Nat.zero_le _)) hb3) hb12.size)
      have b3 := bstep (balloc hb12 _) hb3
      have hs3 : w2.heap.size + 1 ≤ w3.heap.size := by simpa using hb3.size
      clear hb1 hb2 hb3 hb12 hg
      go_loopw [6, 23] (fun v i wr => ∃ (k : Nat) (D : List Int) (A' : Option Addr) (c' : Nat), k ≤ (runsP (plS l)).length ∧ i = .int .i64 k ∧ v = .slice A' D.length c' ∧ D.length ≤ k * 6000 ∧ Hid (D = smpK (plS l) n k) ∧ Below w.heap.size w wr ∧ w3.grownBy wr (some w2.heap.size) ∧ Hid (∀ k' : Nat, (Value.slice A' D.length c').ownBlock = some k' → k' = w2.heap.size ∨ w3.heap.size ≤ k') ∧ wr.ownsRow w.heap.size 3 1 (.slice A' D.length c') D.length (D.flatMap encI)) (fun _ i _ => (runsP (plS l)).length - (intOf i).toNat)
      case atStart => exact ⟨0, [], some ⟨w2.heap.size, 0, none⟩, 0, Nat.zero_le _, rfl, rfl, Nat.zero_le _, rfl, b3, World.grownBy.refl _ _, Lib.hid (fun k' e => .inl (by simp [Value.ownBlock] at e; omega)), HO0.out⟩
      case round =>
        obtain ⟨k, D, A', c', hk, rfl, rfl, hDl, HD, hbr, hgr, hap, hown⟩ := hrel
        have HO := Lib.hid hown
        have hsz := hbr.size
        have hsg := hgr.size
        clear hown
        by_cases hlt : k < (runsP (plS l)).length
        · obtain ⟨r, hr⟩ := some_get hlt
          have i0 := ib0 k
          have i1 := ib1 hlt
          obtain ⟨b, off, rfl, hb, q0, q1⟩ := (HRN.out _ hgr).p2 hr
          obtain ⟨hr0, hr1, hr2, hrm⟩ := HI.out r (List.mem_of_getElem? hr)
          have HM := Lib.hid hrm
          have HS := Lib.hid (smpK_succ (n := n) hr)
          have hT := runT_le HG.out n (List.mem_of_getElem? hr)
          have HTL := Lib.hid (rngF_le HG.out r.a)
          rw [← HD.out] at HS
          clear hr hrm
          obtain ⟨wo, rfl⟩ : ∃ wo : World, wo = wr := ⟨_, rfl⟩
          go_wp2_with fail
          go_loopw [6, 9] (fun v i wi => ∃ (t : Nat) (R : List Int) (A2 : Option Addr) (c2 : Nat), t ≤ runT n r ∧ i = .int .i64 (r.a + (t : Int)) ∧ v = .slice A2 R.length c2 ∧ R.length ≤ D.length + 6 * t ∧ Hid (R = D ++ rngF (plS l) r.a t) ∧ Below w.heap.size w wi ∧ w3.grownBy wi (some w2.heap.size) ∧ Hid (∀ k' : Nat, (Value.slice A2 R.length c2).ownBlock = some k' → (k' = w2.heap.size ∨ w3.heap.size ≤ k') ∧ k' ≠ wo.heap.size) ∧ Hid (wi.cell? ⟨wo.heap.size, 0, none⟩ = some (.int .i64 r.a) ∧ wi.cell? ⟨wo.heap.size, 1, none⟩ = some (.int .i64 r.b)) ∧ wi.ownsRow w.heap.size 3 1 (.slice A2 R.length c2) R.length (R.flatMap encI)) (fun _ i _ => (r.b + 1 - intOf i).toNat)
          case atStart => exact ⟨0, D, A', c', Nat.zero_le _, by simp, rfl, by omega, Lib.hid (by simp [rngF]), balloc hbr _, only_alloc hgr _, Lib.hid (fun k' e => ⟨hap.out k' e, Nat.ne_of_lt (HO.out.lt k' e).2⟩), Lib.hid ⟨by simp [go_sem], by simp [go_sem]⟩, HO.out.alloc _⟩
          case round =>
            obtain ⟨t, R, A2, c2, ht, rfl, rfl, hRl, HR2, hb4, hgr4, hap4, HC, hown2⟩ := hrel
            have HO2 := Lib.hid hown2
            have hsz4 := hb4.size
            have hsg4 := hgr4.size
            obtain ⟨x0, x1⟩ := HC.out
            clear hown2
            cases hin : inB n r.a r.b
            · have hT0 : runT n r = 0 := by simp [runT, hin]
              obtain rfl : t = 0 := by omega
              have HRE := Lib.hid (show smpK (plS l) n (k + 1) = R by rw [HS.out, HR2.out, hT0])
              go_wp2_with (go_at_call 84; (with_reducible refine (in_any _ _ _ _).mono ?_); rw [hin]; rintro e w' ⟨rfl, rfl⟩)
              go_roundw
              case rel => exact ⟨k + 1, R, A2, c2, by omega, by go_num, rfl, by omega, Lib.hid HRE.out.symm, hb4, hgr4, Lib.hid (fun k' e => (hap4.out k' e).1), HO2.out⟩
              case measure => simp [intOf]; omega
            · have hT1 : runT n r = (r.b - r.a + 1).toNat := by simp [runT, hin]
              by_cases hjl : r.a + (t : Int) ≤ r.b
              · obtain ⟨j, q, hj, hq, hjn, hsm⟩ := smp_at (HM.out (r.a + (t : Int)) (by omega) hjl)
                have hrw := HR.out.below hb4
                obtain ⟨b', off', rfl, hb', p0, p1, hqs⟩ := hrw.pk hq
                have h1 := firstWith_any l (some ⟨b', off', none⟩) c (r.a + (t : Int)) wr hrw.row (by omega)
                rw [hj] at h1
                have HC1 := Lib.hid h1
                have HQ := Lib.hid hqs
                have HN := Lib.hid (rngF_succ (plS l) r.a t)
                have HSM := Lib.hid hsm
                rw [hsm] at HN
                have h6 := smpAt_le HG.out (r.a + (t : Int))
                rw [hsm] at h6
                have hjn' := hjn
                have j0 := ib0 j
                have j1 := ib1 hjn
                have hxl := World.block_lt_of_cell? wr ⟨wo.heap.size, 0, none⟩ x0
                clear hj hq hsm hrw h1 hqs
                go_wp2_with (first | (go_at_call 84; (with_reducible refine (in_any _ _ _ _).mono ?_); rw [hin]; rintro e w' ⟨rfl, rfl⟩) | (go_at_call 67; (with_reducible refine (HC1.out).mono ?_); rintro e w5 ⟨rfl, hb5⟩; obtain ⟨hc_hb5, hf_hb5, hz_hb5⟩ := bcell (B := wr.heap.size) (by first | omega | (simp; done) | (simp; omega)) hb5) | (at_builtin; refine wpList_appS rfl _ _ 29 3 1 8 _ rfl Try.underlying29 infoI rfl (by decide) w.heap.size _ R.length _ (by rfl) (own_below HO2.out hb5) _ _ _ (q.sm.flatMap encI) (by rfl) (cellsI_len q.sm) ((RowAt.below HQ.out hb5).news encI_len) (cellsI_one' q.sm) (R.length + q.sm.length) rfl _ (appI _ _) (by omega) (by decide) (Nat.le_trans hsz4 hb5.size) ?_; intro A5 c5 w6 ho5 hg5 hl5) | fail)
                go_roundw
                case rel =>
                  refine ⟨t + 1, R ++ q.sm, A5, c5, by omega, by go_num, by simp, by simp; omega, Lib.hid (by rw [HR2.out, HN.out, List.append_assoc]), bgrown (bstep hb4 hb5) hg5 (fun k hk => row_mine HO2.out k hk), grown_two (grown_two hgr4 (only_of_below hb5 none) (fun k h => by cases h)) hg5 (fun k h => (hap4.out k h).1), Lib.hid (fun k' e => ?_), Lib.hid ⟨?_, ?_⟩, by simpa using ho5⟩
                  · rcases hl5 with r' | r'
                    · exact hap4.out k' (r'.trans (by simpa [Value.ownBlock] using e))
                    · have h5 := hb5.size
                      have e' : (Value.slice A5 (R.length + q.sm.length) c5).ownBlock = some k' := by simpa [Value.ownBlock] using e
                      rw [e'] at r'
                      have r2 : w5.heap.size = k' := by simpa using r'
                      exact ⟨.inr (by omega), by have hx2 : wo.heap.size < wr.heap.size := hxl; omega⟩
                  · exact hg5.cell ((hb5.cell (p := ⟨wo.heap.size, 0, none⟩) hxl).trans x0) (fun e => (hap4.out _ e.symm).2 rfl)
                  · exact hg5.cell ((hb5.cell (p := ⟨wo.heap.size, 1, none⟩) hxl).trans x1) (fun e => (hap4.out _ e.symm).2 rfl)
                case measure => simp [intOf]; omega
              · obtain rfl : t = runT n r := by omega
                have HRE := Lib.hid (show smpK (plS l) n (k + 1) = R by rw [HS.out, HR2.out])
                go_wp2_with (go_at_call 84; (with_reducible refine (in_any _ _ _ _).mono ?_); rw [hin]; rintro e w' ⟨rfl, rfl⟩)
                go_roundw
                case rel => exact ⟨k + 1, R, A2, c2, by omega, by go_num, rfl, by omega, Lib.hid HRE.out.symm, hb4, hgr4, Lib.hid (fun k' e => (hap4.out k' e).1), HO2.out⟩
                case measure => simp [intOf]; omega
        · obtain rfl : k = (runsP (plS l)).length := by omega
          have HF := Lib.hid (show smpR n (plS l) = D by rw [HE.out, HD.out])
          clear HR
          go_wp2
          go_ret2
          rw [HF.out, HK.out]
          exact ⟨A', c', rfl, HO.out, hbr⟩
set_option maxRecDepth 100000 in
set_option maxHeartbeats 4000000 in
theorem sSmp_any (l : List Pk) (A : Option Addr) (c : Nat) (n : Int) (w : World) (hr : PkAt w A l) (hlen : tot l ≤ 1048576) :
    Calls Try.prog 43 #[.slice A l.length c, .int .i64 n] w (MkS2 3 1 (smpR n (plS l)).length ((smpR n (plS l)).flatMap encI) (smpOK n (plS l)) w) := by
  have hl : l.length ≤ 1048576 := by unfold tot at hlen; omega
  have HR := Lib.hid hr
  have HT := Lib.hid hlen
  clear hr hlen
  cases hg : goodP (plS l)
  · have HK := Lib.hid (show smpOK n (plS l) = false by simp [smpOK, hg])
    have HE := Lib.hid (show smpR n (plS l) = [] by simp [smpR, HK.out])
    go_enter Try.func43, Try.ntmps43
    go_wp2_with (go_at_call 61; (with_reducible refine (sgoodP_any l _ _ _ (HR.out.below (balloc (bref _) _)) (by have := HT.out; omega)).mono ?_); rw [hg]; rintro e w' ⟨rfl, rfl⟩)
    go_ret2
    rw [HE.out, HK.out]
    exact ⟨some ⟨w.heap.size, 0, none⟩, 0, rfl, own_made (cur := #[]) rfl (Nat.zero_le _), balloc (bref _) _⟩
  · have HG := Lib.hid hg
    by_cases hf : firstP n (plS l) < 0
    · have HK := Lib.hid (show smpOK n (plS l) = false by simp [smpOK, hg]; omega)
      have HE := Lib.hid (show smpR n (plS l) = [] by simp [smpR, HK.out])
      go_enter Try.func43, Try.ntmps43
      go_wp2_with (first | (go_at_call 61; (with_reducible refine (sgoodP_any l _ _ _ (HR.out.below (balloc (bref _) _)) (by have := HT.out; omega)).mono ?_); rw [hg]; rintro e w' ⟨rfl, rfl⟩) | (go_at_call 64; (with_reducible refine (l15First_any l _ _ _ _ (HR.out.below (balloc (bref _) _)).row (by omega)).mono ?_); rintro e w' ⟨rfl, rfl⟩))
      go_ret2
      rw [HE.out, HK.out]
      exact ⟨some ⟨w.heap.size, 0, none⟩, 0, rfl, own_made (cur := #[]) rfl (Nat.zero_le _), balloc (bref _) _⟩
    · have hf0 : 0 ≤ firstP n (plS l) := by omega
      have HK := Lib.hid (show smpOK n (plS l) = true by simp [smpOK, hg, hf0])
      have HE := Lib.hid (show smpR n (plS l) = smpK (plS l) n (runsP (plS l)).length by simp [smpR, HK.out])
      have h10 := runsP_10 hg
      have HI := Lib.hid (runsP_inv hg)
      go_enter Try.func43, Try.ntmps43
      go_wp2_with (first | (go_at_call 61; (with_reducible refine (sgoodP_any l _ _ _ (HR.out.below (balloc (bref _) _)) (by have := HT.out; omega)).mono ?_); rw [hg]; rintro e w' ⟨rfl, rfl⟩) | (go_at_call 64; (with_reducible refine (l15First_any l _ _ _ _ (HR.out.below (balloc (bref _) _)).row (by omega)).mono ?_); rintro e w' ⟨rfl, rfl⟩) | (go_at_call 85; (with_reducible refine (l15Runs_any l _ _ _ (HR.out.below (balloc (bref _) _)).row hl HG.out).mono ?_); rintro e w3 ⟨A3, c3, rfl, ho3, hb3⟩; have HRN := Lib.hid (fun W (hW : w3.grownBy W (some w.heap.size)) => RowAt.of_own (World.ownsRow.kept ho3 hW (own_apart ho3 (fun k hk => by cases hk; simp))) encP2_len (by omega)); clear ho3) | fail)
      have HO0 := Lib.hid (own_below (own_made (E := 3) (K := 1) (n := 0) (cur := #[]) (w := w) rfl (Nat.zero_le _)) hb3)
      have b3 := bstep (balloc (bref w) _) hb3
      have hs3 : w.heap.size + 1 ≤ w3.heap.size := by simpa using hb3.size
      clear hb3 hg
      go_loopw [6, 8] (fun v i wr => ∃ (k : Nat) (D : List Int) (A' : Option Addr) (c' : Nat), k ≤ (runsP (plS l)).length ∧ i = .int .i64 k ∧ v = .slice A' D.length c' ∧ D.length ≤ k * 6000 ∧ Hid (D = smpK (plS l) n k) ∧ Below w.heap.size w wr ∧ w3.grownBy wr (some w.heap.size) ∧ Hid (∀ k' : Nat, (Value.slice A' D.length c').ownBlock = some k' → k' = w.heap.size ∨ w3.heap.size ≤ k') ∧ wr.ownsRow w.heap.size 3 1 (.slice A' D.length c') D.length (D.flatMap encI)) (fun _ i _ => (runsP (plS l)).length - (intOf i).toNat)
      case atStart => exact ⟨0, [], some ⟨w.heap.size, 0, none⟩, 0, Nat.zero_le _, rfl, rfl, Nat.zero_le _, rfl, b3, World.grownBy.refl _ _, Lib.hid (fun k' e => .inl (by simp [Value.ownBlock] at e; omega)), HO0.out⟩
      case round =>
        obtain ⟨k, D, A', c', hk, rfl, rfl, hDl, HD, hbr, hgr, hap, hown⟩ := hrel
        have HO := Lib.hid hown
        have hsz := hbr.size
        have hsg := hgr.size
        clear hown
        by_cases hlt : k < (runsP (plS l)).length
        · obtain ⟨r, hr⟩ := some_get hlt
          have i0 := ib0 k
          have i1 := ib1 hlt
          obtain ⟨b, off, rfl, hb, q0, q1⟩ := (HRN.out _ hgr).p2 hr
          obtain ⟨hr0, hr1, hr2, hrm⟩ := HI.out r (List.mem_of_getElem? hr)
          have HM := Lib.hid hrm
          have HRK := Lib.hid hr
          have HS := Lib.hid (smpK_succ (n := n) hr)
          have hT := runT_le HG.out n (List.mem_of_getElem? hr)
          have HTL := Lib.hid (rngF_le HG.out r.a)
          rw [← HD.out] at HS
          have HIN := Lib.hid (fun (X : Ext wr) => l1In_any n r.a r.b X.w)
          clear hr hrm
          cases hin : inB n r.a r.b
          · have hT0 : runT n r = 0 := by simp [runT, hin]
            rw [hin] at HIN
            have HRE := Lib.hid (show smpK (plS l) n (k + 1) = D by rw [HS.out, hT0]; simp [rngF])
            go_wp2_with fail
            (refine wp_region_calm (by kernel_rfl) (by kernel_rfl) ?_; (repeat (go_big_quiet_step (((go_at_call 82; exact calm_same (HIN.out _)))))); refine wpQuiet_nil ?_; intro xw; have hb4 := xw.is; generalize xw.w = w4 at hb4 ⊢; clear xw)
            go_wp2_with fail
            go_roundw
            case rel => exact ⟨k + 1, D, A', c', by omega, by go_num, rfl, by omega, Lib.hid HRE.out.symm, bstep hbr hb4, grown_two hgr (only_of_below hb4 none) (fun k h => by cases h), hap, own_below HO.out hb4⟩
            case measure => simp [intOf]; omega
          · have hT1 : runT n r = (r.b - r.a + 1).toNat := by simp [runT, hin]
            rw [hin] at HIN
            go_wp2_with fail
            (refine wp_region_calm (by kernel_rfl) (by kernel_rfl) ?_; (repeat (go_big_quiet_step (((go_at_call 82; exact calm_same (HIN.out _)))))); refine wpQuiet_nil ?_; intro xw; have hb4 := xw.is; generalize xw.w = w4 at hb4 ⊢; clear xw)
            have hgr0 := grown_two hgr (only_of_below hb4 none) (fun k h => by cases h)
            have hbr0 := bstep hbr hb4
            have HO1 := Lib.hid (own_below HO.out hb4)
            obtain ⟨b1, off1, e1, hb1, s0, s1⟩ := (HRN.out _ hgr0).p2 HRK.out
            cases e1
            go_wp2_with fail
            clear q0 q1 s0 s1
            go_loopw [6, 9] (fun v i wi => ∃ (t : Nat) (R : List Int) (A2 : Option Addr) (c2 : Nat), t ≤ runT n r ∧ i = .int .i64 (r.a + (t : Int)) ∧ v = .slice A2 R.length c2 ∧ R.length ≤ D.length + 6 * t ∧ Hid (R = D ++ rngF (plS l) r.a t) ∧ Below w.heap.size w wi ∧ w3.grownBy wi (some w.heap.size) ∧ Hid (∀ k' : Nat, (Value.slice A2 R.length c2).ownBlock = some k' → k' = w.heap.size ∨ w3.heap.size ≤ k') ∧ wi.ownsRow w.heap.size 3 1 (.slice A2 R.length c2) R.length (R.flatMap encI)) (fun _ i _ => (r.b + 1 - intOf i).toNat)
            case atStart => exact ⟨0, D, A', c', Nat.zero_le _, by simp, rfl, by omega, Lib.hid (by simp [rngF]), hbr0, hgr0, hap, HO1.out⟩
            case round =>
              obtain ⟨t, R, A2, c2, ht, rfl, rfl, hRl, HR2, hb4', hgr4, hap4, hown2⟩ := hrel
              have HO2 := Lib.hid hown2
              have hsz4 := hb4'.size
              have hsg4 := hgr4.size
              obtain ⟨b1, off1, e1, hb1', x0, x1⟩ := (HRN.out _ hgr4).p2 HRK.out
              cases e1
              clear hown2
              by_cases hjl : r.a + (t : Int) ≤ r.b
              · obtain ⟨j, q, hj, hq, hjn, hsm⟩ := smp_at (HM.out (r.a + (t : Int)) (by omega) hjl)
                have hrw := HR.out.below hb4'
                obtain ⟨b', off', rfl, hb', p0, p1, hqs⟩ := hrw.pk hq
                have h1 := fun W (hW : PkAt W (some ⟨b', off', none⟩) l) => l15First_any l (some ⟨b', off', none⟩) c (r.a + (t : Int)) W hW.row (by omega)
                rw [hj] at h1
                have HC1 := Lib.hid (h1 _ hrw)
                have HQ := Lib.hid hqs
                have HN := Lib.hid (rngF_succ (plS l) r.a t)
                rw [hsm] at HN
                have h6 := smpAt_le HG.out (r.a + (t : Int))
                rw [hsm] at h6
                have j0 := ib0 j
                have j1 := ib1 hjn
                clear hj hq hsm hrw h1 hqs
                go_wp2_with (first | (go_at_call 64; (with_reducible refine (HC1.out).mono ?_); rintro e w' ⟨rfl, rfl⟩) | (at_builtin; refine wpList_appS rfl _ _ 29 3 1 8 _ rfl Try.underlying29 infoI rfl (by decide) w.heap.size _ R.length _ (by rfl) HO2.out _ _ _ (q.sm.flatMap encI) (by rfl) (cellsI_len q.sm) (RowAt.news HQ.out encI_len) (cellsI_one' q.sm) (R.length + q.sm.length) rfl _ (appI _ _) (by omega) (by decide) hsz4 ?_; intro A5 c5 w6 ho5 hg5 hl5) | fail)
                go_roundw
                case rel =>
                  refine ⟨t + 1, R ++ q.sm, A5, c5, by omega, by go_num, by simp, by simp; omega, Lib.hid (by rw [HR2.out, HN.out, List.append_assoc]), bgrown hb4' hg5 (fun k hk => row_mine HO2.out k hk), grown_two hgr4 hg5 hap4.out, Lib.hid (fun k' e => ?_), by simpa using ho5⟩
                  rcases hl5 with r' | r'
                  · exact hap4.out k' (r'.trans (by simpa [Value.ownBlock] using e))
                  · have e' : (Value.slice A5 (R.length + q.sm.length) c5).ownBlock = some k' := by simpa [Value.ownBlock] using e
                    rw [e'] at r'
                    have r2 : _ = k' := Option.some.inj r'
                    exact .inr (by omega)
                case measure => simp [intOf]; omega
              · obtain rfl : t = runT n r := by omega
                have HRE := Lib.hid (show smpK (plS l) n (k + 1) = R by rw [HS.out, HR2.out])
                go_wp2_with fail
                go_roundw
                case rel => exact ⟨k + 1, R, A2, c2, by omega, by go_num, rfl, by omega, Lib.hid HRE.out.symm, hb4', hgr4, hap4, HO2.out⟩
                case measure => simp [intOf]; omega
        · obtain rfl : k = (runsP (plS l)).length := by omega
          have HF := Lib.hid (show smpR n (plS l) = D by rw [HE.out, HD.out])
          clear HR
          go_wp2
          go_ret2
          rw [HF.out, HK.out]
          exact ⟨A', c', rfl, HO.out, hbr⟩
end Go.Proofs.Ytifkakpiipoadaa
