/-
  Late packets: impl asks for a greater number ahead, spec keeps the greatest number.
-/
import Derived.Test.YtifkakpiipoadaaPkFirst
namespace Go.Proofs.Ytifkakpiipoadaa
set_option linter.unusedVariables false
set_option linter.unusedSimpArgs false
set_option linter.unnecessarySimpa false
open Go.RowKit
attribute [local go_sem] ext_cell ext_frozen

def aheadB (l : List PP) (k : Nat) (n : Int) : Bool := !(l.take k).all fun q => decide (q.1 ≤ n)
def lateB (l : List PP) (k : Nat) : Bool := match l[k]? with | none => false | some p => aheadB l k p.1 && (firstP p.1 l == (k : Int))
theorem lateB_at {l : List Pk} {k : Nat} {m : Pk} (h : l[k]? = some m) : lateB (plS l) k = (aheadB (plS l) k m.no && (firstP m.no (plS l) == (k : Int))) := by simp [lateB, plS_get h]
theorem aheadB_pl (l : List Pk) (k : Nat) (n : Int) : aheadB (plS l) k n = !(l.take k).all fun q => decide (q.no ≤ n) := by
  unfold aheadB plS
  rw [← List.map_take, List.all_map]
  rfl
def mostK (l : List PP) : Nat → Int
  | 0 => -1
  | k + 1 => match l[k]? with | none => mostK l k | some p => if mostK l k > p.1 then mostK l k else p.1
theorem mostK_ahead {l : List PP} : ∀ {k : Nat} {n : Int}, k ≤ l.length → 0 ≤ n → aheadB l k n = decide (n < mostK l k)
  | 0, n, _, h => by
    have : ¬ n < -1 := by omega
    simp [aheadB, mostK, this]
  | k + 1, n, hk, h => by
    obtain ⟨p, hp⟩ := some_get (show k < l.length by omega)
    have ih := mostK_ahead (l := l) (k := k) (n := n) (by omega) h
    unfold aheadB at ih ⊢
    rw [List.take_add_one, hp, List.all_append]
    simp only [mostK, hp]
    simp only [Option.toList, List.all_cons, List.all_nil, Bool.and_true, Bool.not_and, ih]
    split
    · by_cases h1 : n < mostK l k
      · simp [h1]
      · have : p.1 ≤ n := by omega
        simp [h1, this]
    · by_cases h1 : n < mostK l k
      · have : n < p.1 := by omega
        simp [h1, this]
      · by_cases h2 : p.1 ≤ n
        · have : ¬ n < p.1 := by omega
          simp [h1, h2, this]
        · have : n < p.1 := by omega
          simp [h2, this]
theorem mostK_bd {l : List Pk} (hg : goodP (plS l) = true) : ∀ k, k ≤ l.length → -1 ≤ mostK (plS l) k ∧ mostK (plS l) k ≤ 999
  | 0, _ => by simp [mostK]
  | k + 1, hk => by
    obtain ⟨m, hm⟩ := some_get (show k < l.length by omega)
    have ih := mostK_bd hg k (by omega)
    have hb := (onePk_bounds (goodP_one hg m (List.mem_of_getElem? hm))).1
    simp only [mostK, plS_get hm]
    split <;> omega
theorem mostK_succ {l : List Pk} {k : Nat} {m : Pk} (hm : l[k]? = some m) : mostK (plS l) (k + 1) = if mostK (plS l) k > m.no then mostK (plS l) k else m.no := by simp only [mostK, plS_get hm]

set_option maxHeartbeats 1000000 in
theorem lateIn_any (m q : Pk) (bx : Nat) (w : World) (hc : w.cell? ⟨bx, 0, none⟩ = some (.int .i64 m.no)) :
    Calls Try.prog 75 #[.agg #[.int .i64 q.no, .slice q.A q.sm.length q.c], .pointer (some ⟨bx, 0, none⟩)] w fun e w' => e = .returned (.bool (decide (q.no ≤ m.no))) ∧ Below w.heap.size w w' := by
  have lb : bx < w.heap.size := World.block_lt_of_cell? w ⟨bx, 0, none⟩ hc
  go_enter Try.func75, Try.ntmps75
  go_wp2_with fail
  go_ret
  exact ⟨rfl, (by repeat (first | exact bref _ | (refine balloc ?_ _) | (refine bdrew ?_) | (refine bdrewN ?_ _) | (refine bstep ?_ (by assumption))))⟩
theorem RowAt.takeK {α : Type} {K : Nat} {enc : α → List Value} {w : World} {A : Option Addr} {l : List α} (h : RowAt K enc w A l) (k : Nat) : RowAt K enc w A (l.take k) := fun hne => by
  obtain ⟨b, off, rfl, hb, hc⟩ := h (by rintro rfl; simp at hne)
  refine ⟨b, off, rfl, hb, fun i m hi j u hj => hc i m ?_ j u hj⟩
  rw [List.getElem?_take] at hi
  split at hi
  · exact hi
  · cases hi
set_option maxRecDepth 100000 in
set_option maxHeartbeats 2000000 in
theorem lateClos_any (l : List Pk) (A : Option Addr) (c k bx : Nat) (m : Pk) (w : World) (hr : RowAt 2 encPk w A l) (hlen : l.length ≤ 2097152) (hcap : l.length ≤ c) (hm : l[k]? = some m) (hc : w.cell? ⟨bx, 0, none⟩ = some (.slice A l.length c)) :
    Calls Try.prog 74 #[.int .i64 (k : Int), .agg #[.int .i64 m.no, .slice m.A m.sm.length m.c], .pointer (some ⟨bx, 0, none⟩)] w fun e w' => e = .returned (.bool (lateB (plS l) k)) ∧ Below w.heap.size w w' := by
  have hmf : ∀ (fn : Fn) (first cap : Array Value) (w : World), (Instr.makeFunc fn first cap).run Try.prog w = .ok (.func fn first cap) w := fun _ _ _ _ => rfl
  have lb : bx < w.heap.size := World.block_lt_of_cell? w ⟨bx, 0, none⟩ hc
  have hk : k < l.length := (List.getElem?_eq_some_iff.1 hm).1
  have k0 := ib0 k
  have k1 : (k : Int) ≤ (c : Int) := by omega
  obtain ⟨b, off, rfl, hb, _⟩ := hr.pkc hm
  have HR := Lib.hid hr
  have HF := Lib.hid (lateB_at hm)
  have hlk : (l.take k).length = k := by rw [List.length_take, Nat.min_eq_left (by omega)]
  have hA := allPk_any (l.take k) (some ⟨b, off, none⟩) c 75 #[.pointer (some ⟨w.heap.size, 0, none⟩)] (fun q => decide (q.no ≤ m.no)) (enters_of Try.func75 (by kernel_rfl) rfl) (w.alloc (.cells #[.int .i64 m.no, .slice m.A m.sm.length m.c] 40)) ((hr.takeK k).below (balloc (bref _) _)) (by omega) (fun w1 hb1 q _ => lateIn_any m q w.heap.size w1 (box2 hb1).1)
  rw [hlk] at hA
  have HA := Lib.hid hA
  have hq := aheadB_pl l k m.no
  clear hr hm hA hlk
  cases ha : (l.take k).all (fun q => decide (q.no ≤ m.no))
  · have HG := Lib.hid (show lateB (plS l) k = (firstP m.no (plS l) == (k : Int)) by rw [HF.out, hq, ha]; rfl)
    have HAA := HA
    rw [ha] at HAA
    clear hq ha
    go_enter Try.func74, Try.ntmps74
    go_wp2_with (first | (go_at_call 62; (with_reducible refine (HAA.out).mono ?_); rintro e w1 ⟨rfl, hb1⟩; obtain ⟨x0, x1, s1⟩ := box2 hb1; have y0 : w1.cell? ⟨bx, 0, none⟩ = some (.slice (some ⟨b, off, none⟩) l.length c) := ((bstep (balloc (bref w) _) hb1).cell (p := ⟨bx, 0, none⟩) lb).trans hc; have s2 : bx < w1.heap.size := by omega) | (go_at_call 67; (with_reducible refine (firstWith_any l _ _ _ _ (HR.out.below (bstep (balloc (bref w) _) hb1)) hlen).mono ?_); rintro e w2 ⟨rfl, hb2⟩))
    go_ret
    exact ⟨ret_bool HG.out.symm, bstep (bstep (balloc (bref w) _) hb1) hb2⟩
  · have HG := Lib.hid (show lateB (plS l) k = false by rw [HF.out, hq, ha]; rfl)
    have HAA := HA
    rw [ha] at HAA
    clear hq ha
    go_enter Try.func74, Try.ntmps74
    go_wp2_with (go_at_call 62; (with_reducible refine (HAA.out).mono ?_); rintro e w1 ⟨rfl, hb1⟩; obtain ⟨x0, x1, s1⟩ := box2 hb1; have y0 : w1.cell? ⟨bx, 0, none⟩ = some (.slice (some ⟨b, off, none⟩) l.length c) := ((bstep (balloc (bref w) _) hb1).cell (p := ⟨bx, 0, none⟩) lb).trans hc; have s2 : bx < w1.heap.size := by omega)
    go_ret
    exact ⟨ret_bool HG.out.symm, bstep (balloc (bref w) _) hb1⟩
set_option maxHeartbeats 1000000 in
theorem iLate_any (l : List Pk) (A : Option Addr) (c : Nat) (w : World) (hr : PkAt w A l) (hlen : tot l ≤ 1048576) (hcap : l.length ≤ c) :
    Calls Try.prog 34 #[.slice A l.length c] w (MkS2 3 1 (idxR (plS l) (lateB (plS l))).length ((idxR (plS l) (lateB (plS l))).flatMap encI) (goodP (plS l)) w) := by
  have hmf : ∀ (fn : Fn) (first cap : Array Value) (w : World), (Instr.makeFunc fn first cap).run Try.prog w = .ok (.func fn first cap) w := fun _ _ _ _ => rfl
  have hl : l.length ≤ 2097152 := by unfold tot at hlen; omega
  have HR := Lib.hid hr
  clear hr
  go_enter Try.func34, Try.ntmps34
  go_wp2_with fail
  refine (indices_any l A c 74 #[.pointer (some ⟨w.heap.size, 0, none⟩)] (lateB (plS l)) (enters_of Try.func74 (by kernel_rfl) rfl) _ (HR.out.below (balloc (bref _) _)) hlen ?_).mono ?_
  · intro _ w1 hb1 i m hm
    exact lateClos_any l A c i w.heap.size m w1 ((HR.out.below (bstep (balloc (bref w) _) hb1)).row) hl hcap hm ((hb1.cell (p := ⟨w.heap.size, 0, none⟩) (by simp)).trans (by simp [go_sem]))
  · rintro e w1 ⟨A1, c1, rfl, ho1, hb1⟩
    have HO := Lib.hid ho1
    clear hmf ho1
    go_wp2
    go_ret2
    exact ⟨A1, c1, rfl, own_base HO.out (by simp), bstep (balloc (bref _) _) hb1⟩

def maxI (a b : Int) : Int := if a > b then a else b
set_option maxHeartbeats 400000 in
theorem l1Most_any (a b : Int) (w : World) :
    Calls Try.prog 73 #[.int .i64 a, .int .i64 b] w fun e w' => e = .returned (.int .i64 (maxI a b)) ∧ w = w' := by
  by_cases h : a > b
  all_goals
    go_enter Try.func73, Try.ntmps73
    go_wp2
    go_ret
    exact ⟨ret_int (by unfold maxI; split <;> omega), rfl⟩
set_option maxRecDepth 100000 in
set_option maxHeartbeats 4000000 in
theorem sLate_any (l : List Pk) (A : Option Addr) (c : Nat) (w : World) (hr : PkAt w A l) (hlen : tot l ≤ 1048576) :
    Calls Try.prog 33 #[.slice A l.length c] w (MkS2 3 1 (idxR (plS l) (lateB (plS l))).length ((idxR (plS l) (lateB (plS l))).flatMap encI) (goodP (plS l)) w) := by
  have hl : l.length ≤ 2097152 := by unfold tot at hlen; omega
  have HR := Lib.hid hr
  have HT := Lib.hid hlen
  clear hr hlen
  cases hg : goodP (plS l)
  · have HE := Lib.hid (show idxR (plS l) (lateB (plS l)) = [] by simp [idxR, hg])
    go_enter Try.func33, Try.ntmps33
    go_wp2_with (go_at_call 61; (with_reducible refine (sgoodP_any l _ _ _ (HR.out.below (balloc (bref _) _)) (by have := HT.out; omega)).mono ?_); rw [hg]; rintro e w' ⟨rfl, rfl⟩)
    go_ret2
    rw [HE.out]
    exact ⟨some ⟨w.heap.size, 0, none⟩, 0, rfl, own_made (cur := #[]) rfl (Nat.zero_le _), balloc (bref _) _⟩
  · have HE := Lib.hid (show idxR (plS l) (lateB (plS l)) = plcs (lateB (plS l)) l.length by simp [idxR, hg, plS_len])
    have h10 := goodP_len hg
    have HG := Lib.hid hg
    go_enter Try.func33, Try.ntmps33
    go_wp2_with (go_at_call 61; (with_reducible refine (sgoodP_any l _ _ _ (HR.out.below (balloc (bref _) _)) (by have := HT.out; omega)).mono ?_); rw [hg]; rintro e w' ⟨rfl, rfl⟩)
    clear hg
    go_loopw [4, 5, 6] (fun v mv i wr => ∃ (k : Nat) (D : List Int) (A' : Option Addr) (c' : Nat) (M : Int), k ≤ l.length ∧ i = .int .i64 k ∧ v = .slice A' D.length c' ∧ mv = .int .i64 M ∧ D.length ≤ k ∧ Hid (D = plcs (lateB (plS l)) k) ∧ Hid (M = mostK (plS l) k) ∧ Below w.heap.size w wr ∧ wr.ownsRow w.heap.size 3 1 (.slice A' D.length c') D.length (D.flatMap encI)) (fun _ _ i _ => l.length - (intOf i).toNat)
    case atStart => exact ⟨0, [], some ⟨w.heap.size, 0, none⟩, 0, -1, Nat.zero_le _, rfl, rfl, rfl, Nat.le_refl _, rfl, rfl, balloc (bref _) _, own_made (cur := #[]) rfl (Nat.zero_le _)⟩
    case round =>
      obtain ⟨k, D, A', c', M, hk, rfl, rfl, rfl, hDl, HD, HM, hbr, hown⟩ := hrel
      have HO := Lib.hid hown
      have hsz := hbr.size
      clear hown
      by_cases hlt : k < l.length
      · obtain ⟨m, hm⟩ := some_get hlt
        have i0 := ib0 k
        have i1 := ib1 hlt
        have hbd := (onePk_bounds (goodP_one HG.out m (List.mem_of_getElem? hm))).1
        have hq := lateB_at hm
        have HN2 := Lib.hid (show maxI M m.no = mostK (plS l) (k + 1) by rw [mostK_succ hm, HM.out]; rfl)
        rw [mostK_ahead (by rw [plS_len]; omega) hbd.1, ← HM.out] at hq
        obtain ⟨b, off, rfl, hb, q0, q1, _⟩ := (HR.out.below hbr).pk hm
        have HMm := Lib.hid hm
        clear hm
        by_cases hf : firstP m.no (plS l) = k
        · have hfe : (firstP m.no (plS l) == (k : Int)) = true := by simpa using hf
          rw [hfe] at hq
          by_cases hlm : m.no < M
          · have HN := Lib.hid (plcs_hit (p := lateB (plS l)) (k := k) (by rw [hq]; simp [hlm]))
            clear hq hf
            go_wp2_with (first | (go_at_call 64; (with_reducible refine (l15First_any l _ _ _ _ (HR.out.below hbr).row hl).mono ?_); rintro e w' ⟨rfl, rfl⟩) | (go_at_call 73; (with_reducible refine (l1Most_any _ _ _).mono ?_); rintro e w' ⟨rfl, rfl⟩) | (at_builtin; refine wpList_app rfl _ _ 29 3 1 8 _ rfl Try.underlying29 infoI rfl (by decide) w.heap.size _ D.length _ (by rfl) (HO.out.alloc _) _ _ (by rfl) (heap_new1 _ _) rfl (encI_one (k : Int)) (by omega) (by decide) (by simp; omega) ?_; intro g5 c5 w5 ho5 hg5 hl5; obtain ⟨b', off', e', hb5, z0, z1, _⟩ := (HR.out.below (bgrown (balloc hbr _) hg5 (fun k hk => row_mine HO.out k hk))).pk HMm.out; cases e'))
            go_roundw
            case rel => exact ⟨k + 1, D ++ [(k : Int)], some ⟨g5, 0, none⟩, c5, maxI M m.no, by omega, by go_num, by simp, rfl, by simp; omega, Lib.hid (by rw [HN.out, ← HD.out]), HN2, bgrown (balloc hbr _) hg5 (fun k hk => row_mine HO.out k hk), by simpa [encI] using ho5⟩
            case measure => simp [intOf]; omega
          · have HN := Lib.hid (plcs_miss (p := lateB (plS l)) (k := k) (by rw [hq]; simp [hlm]))
            clear hq hf
            go_wp2_with (first | (go_at_call 64; (with_reducible refine (l15First_any l _ _ _ _ (HR.out.below hbr).row hl).mono ?_); rintro e w' ⟨rfl, rfl⟩) | (go_at_call 73; (with_reducible refine (l1Most_any _ _ _).mono ?_); rintro e w' ⟨rfl, rfl⟩))
            go_roundw
            case rel => exact ⟨k + 1, D, A', c', maxI M m.no, by omega, by go_num, rfl, rfl, by omega, Lib.hid (by rw [HN.out]; exact HD.out), HN2, hbr, HO.out⟩
            case measure => simp [intOf]; omega
        · have hfe : (firstP m.no (plS l) == (k : Int)) = false := by simpa using hf
          rw [hfe] at hq
          have HN := Lib.hid (plcs_miss (p := lateB (plS l)) (k := k) (by rw [hq]; simp))
          clear hq hf
          go_wp2_with (first | (go_at_call 64; (with_reducible refine (l15First_any l _ _ _ _ (HR.out.below hbr).row hl).mono ?_); rintro e w' ⟨rfl, rfl⟩) | (go_at_call 73; (with_reducible refine (l1Most_any _ _ _).mono ?_); rintro e w' ⟨rfl, rfl⟩))
          go_roundw
          case rel => exact ⟨k + 1, D, A', c', maxI M m.no, by omega, by go_num, rfl, rfl, by omega, Lib.hid (by rw [HN.out]; exact HD.out), HN2, hbr, HO.out⟩
          case measure => simp [intOf]; omega
      · obtain rfl : k = l.length := by omega
        have HF := Lib.hid (show idxR (plS l) (lateB (plS l)) = D by rw [HE.out, HD.out])
        go_wp2
        go_ret2
        refine ⟨A', c', ?_, ?_, hbr⟩
        · rw [HF.out]; rfl
        · rw [HF.out]; exact HO.out
end Go.Proofs.Ytifkakpiipoadaa
