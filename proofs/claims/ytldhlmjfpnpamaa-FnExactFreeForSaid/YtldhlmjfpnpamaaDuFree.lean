/-
  Who is free for another duty: impl filters those who have duties, spec asks each number.
-/
import Derived.Test.YtldhlmjfpnpamaaDuAddG
namespace Go.Proofs.Ytldhlmjfpnpamaa
open Go.RowKit
attribute [local go_sem] ext_cell ext_frozen

def PredI (g : Nat) (caps : Array Value) (p : Int → Bool) (l : List Int) (W : World) : Prop :=
  ∀ w, Below W.heap.size W w → ∀ m, m ∈ l → Calls Try.prog g (#[.int .i64 m] ++ caps) w fun e w' => e = .returned (.bool (p m)) ∧ Below w.heap.size w w'
theorem filter_hitI {p : Int → Bool} {l : List Int} {k : Nat} {m : Int} (hm : l[k]? = some m) (h : p m = true) : (l.take (k + 1)).filter p = (l.take k).filter p ++ [m] := by
  rw [List.take_add_one, hm]; simp [h]
theorem filter_missI {p : Int → Bool} {l : List Int} {k : Nat} {m : Int} (hm : l[k]? = some m) (h : p m = false) : (l.take (k + 1)).filter p = (l.take k).filter p := by
  rw [List.take_add_one, hm]; simp [h]
set_option maxRecDepth 100000 in
set_option maxHeartbeats 2000000 in
theorem filterI_any (l : List Int) (A : Option Addr) (c g : Nat) (caps : Array Value) (p : Int → Bool) (eg : ∀ (args : Array Value) (w : World), (callFunc g args).run Try.prog w = .ok (.enter g args) w) (w : World) (hr : RowAt 1 encI w A l) (hlen : l.length ≤ 2097152) (hp : PredI g caps p l w) :
    Calls Try.prog 78 #[.slice A l.length c, .func (.func g) #[] caps] w (MkS 3 1 (l.filter p).length ((l.filter p).flatMap encI) w) := by
  have HP := Lib.hid hp
  have HR := Lib.hid hr
  clear hp hr
  go_enter Try.func78, Try.ntmps78
  go_wp2_with fail
  go_loopw [5, 11] (fun v i wr => ∃ (k : Nat) (D : List Int) (A' : Option Addr) (c' : Nat), k ≤ l.length ∧ i = .int .i64 k ∧ v = .slice A' D.length c' ∧ D.length ≤ k ∧ Hid (D = (l.take k).filter p) ∧ Below w.heap.size w wr ∧ wr.ownsRow w.heap.size 3 1 (.slice A' D.length c') D.length (D.flatMap encI)) (fun _ i _ => l.length - (intOf i).toNat)
  case atStart => exact ⟨0, [], some ⟨w.heap.size, 0, none⟩, 0, Nat.zero_le _, rfl, rfl, Nat.le_refl _, rfl, balloc (bref _) _, own_made (cur := #[]) rfl (Nat.zero_le _)⟩
  case round =>
    obtain ⟨k, D, A', c', hk, rfl, rfl, hDl, HD, hbr, hown⟩ := hrel
    by_cases hlt : k < l.length
    · obtain ⟨m, hm⟩ := some_get hlt
      have i0 := ib0 k
      have i1 := ib1 hlt
      obtain ⟨b, off, rfl, hb, q0⟩ := (HR.out.below hbr).i hm
      have HM := Lib.hid hm
      have HO := Lib.hid hown
      have hmem := Lib.hid (List.mem_of_getElem? hm)
      have hsz := hbr.size
      clear hm hown
      cases hpm : p m
      · have HN := Lib.hid (filter_missI HM.out hpm)
        go_wp2_with fail
        refine (HP.out _ hbr m hmem.out).mono ?_; rintro e w1 ⟨rfl, hb1⟩
        rw [hpm]
        clear hpm
        go_wp2
        go_roundw
        case rel => exact ⟨k + 1, D, A', c', by omega, by go_num, rfl, by omega, Lib.hid (by rw [HN.out]; exact HD.out), bstep hbr hb1, own_below HO.out hb1⟩
        case measure => simp [intOf]; omega
      · have HN := Lib.hid (filter_hitI HM.out hpm)
        go_wp2_with fail
        refine (HP.out _ hbr m hmem.out).mono ?_; rintro e w1 ⟨rfl, hb1⟩
        rw [hpm]
        clear hpm
        have hs1 := hb1.size
        go_wp2_with (at_builtin; refine wpList_app rfl _ _ 51 3 1 8 _ rfl Try.underlying51 infoI rfl (by decide) w.heap.size _ D.length _ (by rfl) ((own_below HO.out hb1).alloc _) _ _ (by rfl) (heap_new1 _ _) rfl (encI_one m) (by omega) (by decide) (by simp; omega) ?_; intro g2 c2 w2 ho2 hg2 hl2)
        go_roundw
        case rel => exact ⟨k + 1, D ++ [m], some ⟨g2, 0, none⟩, c2, by omega, by go_num, by simp, by simp; omega, Lib.hid (by rw [HN.out, ← HD.out]), bgrown (balloc (bstep hbr hb1) _) hg2 (fun k hk => row_mine HO.out k hk), by simpa [encI] using ho2⟩
        case measure => simp [intOf]; omega
    · obtain rfl : k = l.length := by omega
      have HO := Lib.hid hown
      have HE := Lib.hid (show D = l.filter p by rw [HD.out, List.take_length])
      clear hown HD
      go_wp2
      go_ret
      refine ⟨A', c', ?_, ?_, hbr⟩
      · rw [← HE.out]; rfl
      · rw [← HE.out]; exact HO.out

def frB (l : List Du) (b e n : Int) : Bool := goodDu (putD ⟨n, b, e, false⟩ l)
def freeOK (l : List Du) (b e : Int) : Bool := goodDu l && dutyB 1 b e
def freeR (l : List Du) (b e : Int) : List Int := if freeOK l b e then (wl l 50).filter (frB l b e) else []
theorem wl_le (l : List Du) : ∀ k, (wl l k).length ≤ k
  | 0 => by simp [wl]
  | k + 1 => by
    have := wl_le l k
    simp only [wl, List.length_append]
    split <;> simp <;> omega
theorem freeR_le (l : List Du) (b e : Int) : (freeR l b e).length ≤ 50 := by
  unfold freeR; split
  · exact Nat.le_trans (List.length_filter_le _ _) (wl_le l 50)
  · simp

set_option maxRecDepth 100000 in
set_option maxHeartbeats 1000000 in
theorem freeClos_any (l : List Du) (A : Option Addr) (c : Nat) (b e n : Int) (p0 p1 p2 : Nat) (w : World) (hr : RowAt 4 encDu w A l) (hg : goodDu l = true) (hcap : l.length ≤ c) (c0 : w.cell? ⟨p0, 0, none⟩ = some (.slice A l.length c)) (c1 : w.cell? ⟨p1, 0, none⟩ = some (.int .i64 b)) (c2 : w.cell? ⟨p2, 0, none⟩ = some (.int .i64 e)) :
    Calls Try.prog 79 #[.int .i64 n, .pointer (some ⟨p0, 0, none⟩), .pointer (some ⟨p1, 0, none⟩), .pointer (some ⟨p2, 0, none⟩)] w fun x w' => x = .returned (.bool (frB l b e n)) ∧ Below w.heap.size w w' := by
  have HAdd := Lib.hid (iAddG_any l ⟨n, b, e, false⟩ A c w hr hg hcap)
  have HK := Lib.hid (show addOK l ⟨n, b, e, false⟩ = frB l b e n by simp [addOK, frB, hg])
  have l0 := World.block_lt_of_cell? w ⟨p0, 0, none⟩ c0
  clear hr hg
  go_enter Try.func79, Try.ntmps79
  go_wp2_with (go_at_call 31; (with_reducible refine (HAdd.out).mono ?_); rintro x w1 ⟨A1, k1, rfl, ho1, hb1⟩; clear ho1)
  go_ret
  exact ⟨ret_bool HK.out, hb1⟩

set_option maxRecDepth 100000 in
set_option maxHeartbeats 2000000 in
theorem iFree_any (l : List Du) (b e : Int) (A : Option Addr) (c : Nat) (w : World) (hr : RowAt 4 encDu w A l) (hlen : l.length ≤ 1048576) (hcap : l.length ≤ c) :
    Calls Try.prog 45 #[.slice A l.length c, .int .i64 b, .int .i64 e] w (MkS2 3 1 (freeR l b e).length ((freeR l b e).flatMap encI) (freeOK l b e) w) := by
  have hmf : ∀ (fn : Fn) (first cap : Array Value) (w : World), (Instr.makeFunc fn first cap).run Try.prog w = .ok (.func fn first cap) w := fun _ _ _ _ => rfl
  have hA := fun W (hW : Below w.heap.size w W) => iAreDu_any l A c W (hr.below hW) (by omega) hcap
  have HR := Lib.hid hr
  clear hr
  cases hg : goodDu l
  · rw [hg] at hA
    have HA := Lib.hid hA
    clear hA
    have HK := Lib.hid (show freeOK l b e = false by simp [freeOK, hg])
    have HE := Lib.hid (show freeR l b e = [] by simp [freeR, HK.out])
    go_enter Try.func45, Try.ntmps45
    go_wp2_with (go_at_call 20; (with_reducible refine (HA.out _ (by repeat (first | exact bref _ | (refine balloc ?_ _) | (refine bdrew ?_) | (refine bdrewN ?_ _) | (refine bstep ?_ (by assumption))))).mono ?_); rintro e w1 ⟨rfl, hb1⟩; obtain ⟨hc_hb1, hf_hb1, hz_hb1⟩ := bcell (B := w.heap.size + 3) (by first | omega | (simp; done) | (simp; omega)) hb1)
    go_ret2
    rw [HE.out, HK.out]
    exact ⟨none, 0, rfl, World.ownsRow_nil _ _ _ _, bstep (balloc (balloc (balloc (bref _) _) _) _) hb1⟩
  · rw [hg] at hA
    have HA := Lib.hid hA
    clear hA
    cases hd : dutyB 1 b e
    · have HK := Lib.hid (show freeOK l b e = false by simp [freeOK, hd])
      have HE := Lib.hid (show freeR l b e = [] by simp [freeR, HK.out])
      have HD := Lib.hid (fun W => isDuty_any 1 b e false W)
      rw [hd] at HD
      go_enter Try.func45, Try.ntmps45
      go_wp2_with (first | (go_at_call 20; (with_reducible refine (HA.out _ (by repeat (first | exact bref _ | (refine balloc ?_ _) | (refine bdrew ?_) | (refine bdrewN ?_ _) | (refine bstep ?_ (by assumption))))).mono ?_); rintro e w1 ⟨rfl, hb1⟩; obtain ⟨hc_hb1, hf_hb1, hz_hb1⟩ := bcell (B := w.heap.size + 3) (by first | omega | (simp; done) | (simp; omega)) hb1) | (go_at_call 16; (with_reducible refine (HD.out _).mono ?_); rintro e w2 ⟨rfl, hb2⟩; obtain ⟨hc_hb2, hf_hb2, hz_hb2⟩ := bcell (B := w.heap.size + 3) (by first | omega | (simp; done) | (simp; omega)) hb2))
      go_ret2
      rw [HE.out, HK.out]
      exact ⟨none, 0, rfl, World.ownsRow_nil _ _ _ _, bstep (bstep (balloc (balloc (balloc (bref _) _) _) _) hb1) hb2⟩
    · have HK := Lib.hid (show freeOK l b e = true by simp [freeOK, hg, hd])
      have HE := Lib.hid (show freeR l b e = (whoL l).filter (frB l b e) by simp [freeR, HK.out, whoL_wl (goodDu_all hg)])
      have HD := Lib.hid (fun W => isDuty_any 1 b e false W)
      rw [hd] at HD
      have HG := Lib.hid hg
      have h12 := goodDu_len hg
      have hwl := whoL_le l
      clear hg hd
      go_enter Try.func45, Try.ntmps45
      go_wp2_with (first | (go_at_call 20; (with_reducible refine (HA.out _ (by repeat (first | exact bref _ | (refine balloc ?_ _) | (refine bdrew ?_) | (refine bdrewN ?_ _) | (refine bstep ?_ (by assumption))))).mono ?_); rintro e w1 ⟨rfl, hb1⟩; obtain ⟨hc_hb1, hf_hb1, hz_hb1⟩ := bcell (B := w.heap.size + 3) (by first | omega | (simp; done) | (simp; omega)) hb1) | (go_at_call 16; (with_reducible refine (HD.out _).mono ?_); rintro e w2 ⟨rfl, hb2⟩; obtain ⟨hc_hb2, hf_hb2, hz_hb2⟩ := bcell (B := w.heap.size + 3) (by first | omega | (simp; done) | (simp; omega)) hb2) | (go_at_call 70; (with_reducible refine (whos_any l _ _ _ (HR.out.below (bstep (bstep (balloc (balloc (balloc (bref _) _) _) _) hb1) hb2)) (by omega)).mono ?_); rintro x w3 ⟨A3, c3, rfl, ho3, hb3⟩; have HO3 := Lib.hid ho3; clear ho3) | fail)
      have hB3 := bstep (bstep hb1 hb2) hb3
      refine (filterI_any (whoL l) A3 c3 79 #[.pointer (some ⟨w.heap.size, 0, none⟩), .pointer (some ⟨w.heap.size + 1, 0, none⟩), .pointer (some ⟨w.heap.size + 1 + 1, 0, none⟩)] (frB l b e) (enters_of Try.func79 (by kernel_rfl) rfl) _ (RowAt.of_own HO3.out encI_len (by omega)) (by omega) ?_).mono ?_
      · intro W hW m _
        have hBW := bstep hB3 hW
        exact freeClos_any l A c b e m _ _ _ W (HR.out.below (bstep (balloc (balloc (balloc (bref _) _) _) _) hBW)) HG.out hcap ((hBW.cell (p := ⟨w.heap.size, 0, none⟩) (by simp; omega)).trans (by simp [go_sem])) ((hBW.cell (p := ⟨w.heap.size + 1, 0, none⟩) (by simp)).trans (by simp [go_sem])) ((hBW.cell (p := ⟨w.heap.size + 1 + 1, 0, none⟩) (by simp)).trans (by simp [go_sem]))
      · rintro x w4 ⟨A4, c4, rfl, ho4, hb4⟩
        have HO4 := Lib.hid ho4
        have hBA := bstep (balloc (balloc (balloc (bref w) _) _) _) hB3
        clear hmf ho4
        go_wp2
        go_ret2
        rw [HE.out, HK.out]
        exact ⟨A4, c4, rfl, own_base HO4.out hBA.size, bstep hBA hb4⟩

theorem fr_yes {l : List Du} {b e : Int} {k : Nat} (h : 0 < hoursL ((k : Int) + 1) l) (hf : frB l b e ((k : Int) + 1) = true) : (wl l (k + 1)).filter (frB l b e) = (wl l k).filter (frB l b e) ++ [(k : Int) + 1] := by simp [wl, h, hf]
theorem fr_no {l : List Du} {b e : Int} {k : Nat} (h : 0 < hoursL ((k : Int) + 1) l) (hf : frB l b e ((k : Int) + 1) = false) : (wl l (k + 1)).filter (frB l b e) = (wl l k).filter (frB l b e) := by simp [wl, h, hf]
theorem fr_out {l : List Du} {b e : Int} {k : Nat} (h : ¬ 0 < hoursL ((k : Int) + 1) l) : (wl l (k + 1)).filter (frB l b e) = (wl l k).filter (frB l b e) := by simp [wl, h]

set_option maxRecDepth 100000 in
set_option maxHeartbeats 4000000 in
theorem sFree_any (l : List Du) (b e : Int) (A : Option Addr) (c : Nat) (w : World) (hr : RowAt 4 encDu w A l) (haf : AF A l.length c) (hcap : l.length ≤ c) (hlen : l.length ≤ 1048576) :
    Calls Try.prog 44 #[.slice A l.length c, .int .i64 b, .int .i64 e] w (MkS2 3 1 (freeR l b e).length ((freeR l b e).flatMap encI) (freeOK l b e) w) := by
  have hA := fun W (hW : Below w.heap.size w W) => sgoodDu_any l A c W (hr.below hW) (by omega)
  have HR := Lib.hid hr
  clear hr
  cases hg : goodDu l
  · rw [hg] at hA
    have HA := Lib.hid hA
    clear hA
    have HK := Lib.hid (show freeOK l b e = false by simp [freeOK, hg])
    have HE := Lib.hid (show freeR l b e = [] by simp [freeR, HK.out])
    go_enter Try.func44, Try.ntmps44
    go_wp2_with (go_at_call 55; (with_reducible refine (HA.out _ (by repeat (first | exact bref _ | (refine balloc ?_ _) | (refine bdrew ?_) | (refine bdrewN ?_ _) | (refine bstep ?_ (by assumption))))).mono ?_); rintro x w1 ⟨rfl, hb1⟩)
    go_ret2
    rw [HE.out, HK.out]
    exact ⟨some ⟨w.heap.size, 0, none⟩, 0, rfl, own_below (own_made (cur := #[]) rfl (Nat.zero_le _)) hb1, bstep (balloc (bref _) _) hb1⟩
  · rw [hg] at hA
    have HA := Lib.hid hA
    clear hA
    cases hd : dutyB 1 b e
    · have HK := Lib.hid (show freeOK l b e = false by simp [freeOK, hd])
      have HE := Lib.hid (show freeR l b e = [] by simp [freeR, HK.out])
      have HD := Lib.hid (fun W => l17One_any 1 b e false W)
      rw [hd] at HD
      go_enter Try.func44, Try.ntmps44
      go_wp2_with (first | (go_at_call 55; (with_reducible refine (HA.out _ (by repeat (first | exact bref _ | (refine balloc ?_ _) | (refine bdrew ?_) | (refine bdrewN ?_ _) | (refine bstep ?_ (by assumption))))).mono ?_); rintro x w1 ⟨rfl, hb1⟩) | (go_at_call 52; (with_reducible refine (HD.out _).mono ?_); rintro x w2 ⟨rfl, hb2⟩))
      go_ret2
      rw [HE.out, HK.out]
      exact ⟨some ⟨w.heap.size, 0, none⟩, 0, rfl, own_below (own_below (own_made (cur := #[]) rfl (Nat.zero_le _)) hb1) hb2, bstep (bstep (balloc (bref _) _) hb1) hb2⟩
    · have HK := Lib.hid (show freeOK l b e = true by simp [freeOK, hg, hd])
      have HE := Lib.hid (show freeR l b e = (wl l 50).filter (frB l b e) by simp [freeR, HK.out])
      have HD := Lib.hid (fun W => l17One_any 1 b e false W)
      rw [hd] at HD
      have HG := Lib.hid hg
      have h12 := goodDu_len hg
      clear hg hd
      go_enter Try.func44, Try.ntmps44
      go_wp2_with (first | (go_at_call 55; (with_reducible refine (HA.out _ (by repeat (first | exact bref _ | (refine balloc ?_ _) | (refine bdrew ?_) | (refine bdrewN ?_ _) | (refine bstep ?_ (by assumption))))).mono ?_); rintro x w1 ⟨rfl, hb1⟩) | (go_at_call 52; (with_reducible refine (HD.out _).mono ?_); rintro x w2 ⟨rfl, hb2⟩) | fail)
      have hB2 := bstep (bstep (balloc (bref w) _) hb1) hb2
      have HO0 := Lib.hid (own_below (own_below (own_made (E := 3) (K := 1) (n := 0) (cur := #[]) (w := w) rfl (Nat.zero_le _)) hb1) hb2)
      go_loopw [8, 9] (fun v i wr => ∃ (k : Nat) (D : List Int) (A' : Option Addr) (c' : Nat), k ≤ 50 ∧ i = .int .i64 ((k : Int) + 1) ∧ v = .slice A' D.length c' ∧ D.length ≤ k ∧ Hid (D = (wl l k).filter (frB l b e)) ∧ Below w.heap.size w wr ∧ wr.ownsRow w.heap.size 3 1 (.slice A' D.length c') D.length (D.flatMap encI)) (fun _ i _ => 51 - (intOf i).toNat)
      case atStart => exact ⟨0, [], some ⟨w.heap.size, 0, none⟩, 0, Nat.zero_le _, rfl, rfl, Nat.zero_le _, rfl, hB2, HO0.out⟩
      case round =>
        obtain ⟨k, D, A', c', hk, rfl, rfl, hDl, HD2, hbr, hown⟩ := hrel
        have HO := Lib.hid hown
        have hsz := hbr.size
        clear hown
        have HH := Lib.hid (sHoursOf_any l A c ((k : Int) + 1) wr (HR.out.below hbr) HG.out)
        have HP := Lib.hid (fun W (hW : Below wr.heap.size wr W) => l17Put_any l ⟨(k : Int) + 1, b, e, false⟩ A c W (HR.out.below (bstep hbr hW)) haf hcap (by omega))
        by_cases hlt : k < 50
        · have hbd := hoursL_bd (who := (k : Int) + 1) HG.out l.length (Nat.le_refl _)
          rw [List.take_length] at hbd
          by_cases h0 : 0 < hoursL ((k : Int) + 1) l
          · have hq : (hoursL ((k : Int) + 1) l == 0) = false := by simp; omega
            have hlP := putD_len ⟨(k : Int) + 1, b, e, false⟩ l
            cases hf : frB l b e ((k : Int) + 1)
            all_goals
              have hG2 := fun W A2 c2 (h : RowAt 4 encDu W A2 (putD ⟨(k : Int) + 1, b, e, false⟩ l)) => sgoodDu_any (putD ⟨(k : Int) + 1, b, e, false⟩ l) A2 c2 W h (by omega)
              rw [show goodDu (putD ⟨(k : Int) + 1, b, e, false⟩ l) = frB l b e ((k : Int) + 1) from rfl, hf, hlP] at hG2
              have HG2 := Lib.hid hG2
              clear hG2
            · have HN := Lib.hid (fr_no h0 hf)
              clear hf
              go_wp2_with (first | (go_at_call 62; (with_reducible refine (HH.out).mono ?_); rintro x w5 ⟨rfl, hb5⟩) | (go_at_call 67; (with_reducible refine (HP.out _ hb5).mono ?_); rintro x w6 ⟨A6, c6, rfl, ho6, hb6⟩; have HR6 := Lib.hid (RowAt.of_own ho6 encDu_len (by omega)); clear ho6) | (go_at_call 55; (with_reducible refine (HG2.out _ _ _ HR6.out).mono ?_); rintro x w7 ⟨rfl, hb7⟩) | fail)
              go_roundw
              case rel => exact ⟨k + 1, D, A', c', by omega, by go_num, rfl, by omega, Lib.hid (by rw [HN.out]; exact HD2.out), bstep (bstep (bstep hbr hb5) hb6) hb7, own_below (own_below (own_below HO.out hb5) hb6) hb7⟩
              case measure => simp [intOf]; omega
            · have HN := Lib.hid (fr_yes h0 hf)
              clear hf
              go_wp2_with (first | (go_at_call 62; (with_reducible refine (HH.out).mono ?_); rintro x w5 ⟨rfl, hb5⟩) | (go_at_call 67; (with_reducible refine (HP.out _ hb5).mono ?_); rintro x w6 ⟨A6, c6, rfl, ho6, hb6⟩; have HR6 := Lib.hid (RowAt.of_own ho6 encDu_len (by omega)); clear ho6) | (go_at_call 55; (with_reducible refine (HG2.out _ _ _ HR6.out).mono ?_); rintro x w7 ⟨rfl, hb7⟩; have hb57 := bstep (bstep hb5 hb6) hb7; have hs7 := hb57.size; have HO7 := Lib.hid (own_below HO.out hb57)) | (at_builtin; refine wpList_app rfl _ _ 51 3 1 8 _ rfl Try.underlying51 infoI rfl (by decide) w.heap.size _ D.length _ (by rfl) (HO7.out.alloc _) _ _ (by rfl) (heap_new1 _ _) rfl (encI_one ((k : Int) + 1)) (by omega) (by decide) (by simp; omega) ?_; intro g8 c8 w8 ho8 hg8 hl8) | fail)
              go_roundw
              case rel => exact ⟨k + 1, D ++ [(k : Int) + 1], some ⟨g8, 0, none⟩, c8, by omega, by go_num, by simp, by simp; omega, Lib.hid (by rw [HN.out, ← HD2.out]), bgrown (balloc (bstep hbr hb57) _) hg8 (fun k hk => row_mine HO.out k hk), by simpa [encI] using ho8⟩
              case measure => simp [intOf]; omega
          · have hq : (hoursL ((k : Int) + 1) l == 0) = true := by simp; omega
            have HN := Lib.hid (fr_out (b := b) (e := e) h0)
            go_wp2_with (go_at_call 62; (with_reducible refine (HH.out).mono ?_); rintro x w5 ⟨rfl, hb5⟩)
            go_roundw
            case rel => exact ⟨k + 1, D, A', c', by omega, by go_num, rfl, by omega, Lib.hid (by rw [HN.out]; exact HD2.out), bstep hbr hb5, own_below HO.out hb5⟩
            case measure => simp [intOf]; omega
        · obtain rfl : k = 50 := by omega
          have HF := Lib.hid (show freeR l b e = D by rw [HE.out, HD2.out])
          go_wp2
          go_ret2
          rw [HF.out, HK.out]
          exact ⟨A', c', rfl, HO.out, hbr⟩
end Go.Proofs.Ytldhlmjfpnpamaa
