/-
  Merged reports: impl's walk.
-/
import Derived.Test.YtjjinblahmcplaaLaysFelt
import Derived.Test.YtjjinblahmcplaaSort
import Derived.Test.YtjjinblahmcplaaFeMrgS
import Derived.Test.YtjjinblahmcplaaFeAll
import Derived.Test.YtjjinblahmcplaaFeRad
import Derived.Test.YtjjinblahmcplaaFeMax
import Derived.Test.YtjjinblahmcplaaFeFilter
namespace Go.Proofs.Ytjjinblahmcplaa
open Go.RowKit
attribute [local go_sem] ext_cell ext_frozen

theorem own_some {w' : World} {base E K n c g0 q : Nat} {A : Option Addr} {xs : List Value} (h : w'.ownsRow base E K (.slice A n c) n xs) (hl : some g0 = (Value.slice A n c).ownBlock ∨ some q = (Value.slice A n c).ownBlock) : ∃ g, A = some ⟨g, 0, none⟩ := by
  rcases own_form h with ⟨rfl, _, _⟩ | ⟨g, rfl⟩
  · simp [Value.ownBlock] at hl
  · exact ⟨g, rfl⟩
set_option maxHeartbeats 1000000 in
theorem copyFe_any (l : List Fe) (A : Option Addr) (c : Nat) (w : World) (hr : RowAt 5 encFe w A l) (hlen : l.length ≤ 2097152) :
    Calls Try.prog 88 #[.slice A l.length c] w fun e w' => ∃ g c', e = .returned (.slice (some ⟨g, 0, none⟩) l.length c') ∧ w'.ownsRow w.heap.size 25 5 (.slice (some ⟨g, 0, none⟩) l.length c') l.length (l.flatMap encFe) ∧ Below w.heap.size w w' := by
  have HR := Lib.hid hr
  clear hr
  go_enter Try.func88, Try.ntmps88
  go_wp2_with (at_builtin; refine wpList_appS rfl _ _ 31 25 5 40 _ rfl Try.underlying31 infoFe rfl (by decide) w.heap.size _ 0 [] (by rfl) (own_empty (heap_new1 _ _) (Nat.le_refl _)) _ _ _ (l.flatMap encFe) (by rfl) (cellsFe_len l) ((RowAt.below HR.out (balloc (bref _) _)).news encFe_len) (cellsFe_one l) l.length (Nat.zero_add _) _ (List.nil_append _) (by omega) (by decide) (by simp) ?_; intro A1 c1 w1 ho1 hg1 hl1)
  go_ret
  obtain ⟨g, rfl⟩ := own_some ho1 (by simpa [Value.ownBlock] using hl1)
  exact ⟨g, c1, rfl, ho1, bgrown (balloc (bref _) _) hg1 (by intro k hk; simp [Value.ownBlock] at hk; omega)⟩

set_option maxHeartbeats 1000000 in
theorem mrgClos_any (g f : Fe) (bx : Nat) (w : World) (c0 : w.cell? ⟨bx, 0, none⟩ = some (.int .i64 f.id)) :
    Calls Try.prog 89 #[.agg #[.int .i64 g.id, .int .i64 g.x, .int .i64 g.y, .int .i64 g.lv, .int .i64 g.pp], .pointer (some ⟨bx, 0, none⟩)] w fun e w' => e = .returned (.bool (g.id != f.id)) ∧ Below w.heap.size w w' := by
  have l1 : bx < w.heap.size := World.block_lt_of_cell? w ⟨bx, 0, none⟩ c0
  go_enter Try.func89, Try.ntmps89
  go_wp2_with fail
  go_ret
  exact ⟨rfl, (by repeat (first | exact bref _ | (refine balloc ?_ _) | (refine bdrew ?_) | (refine bdrewN ?_ _) | (refine bstep ?_ (by assumption))))⟩

instance inhFe : Inhabited Fe := ⟨⟨0, 0, 0, 0, 0⟩⟩
def cmpId (f g : Fe) : Int := cmpI f.id g.id
def ltId (f g : Fe) : Bool := decide (f.id < g.id)
set_option maxHeartbeats 1000000 in
theorem mrgCmp_lays (f g : Fe) (w : World) :
    Calls Try.prog 91 #[.agg #[.int .i64 f.id, .int .i64 f.x, .int .i64 f.y, .int .i64 f.lv, .int .i64 f.pp], .agg #[.int .i64 g.id, .int .i64 g.x, .int .i64 g.y, .int .i64 g.lv, .int .i64 g.pp]] w fun e w' => e = .returned (.int .i64 (cmpId f g)) ∧ Lays w w' := by
  go_enter Try.func91, Try.ntmps91
  go_wp2_with (go_at_call 74; (with_reducible refine (cmp_any _ _ _).mono ?_); rintro e w' ⟨rfl, rfl⟩)
  go_ret
  exact ⟨rfl, by repeat (first | exact lref _ | (refine lalloc ?_ _) | (refine ldrew ?_) | (refine ldrewN ?_ _))⟩
theorem ltId_of : ltOf cmpId = ltId := by
  funext x y
  unfold ltOf cmpId ltId cmpI
  rw [decide_eq_decide]
  split <;> (try split) <;> omega
theorem swoId : Go.Sort.SWO (ltOf cmpId) := by
  rw [ltId_of]
  refine ⟨fun x => by simp [ltId], fun x y z h1 h2 => ?_, fun x y z h1 h2 => ?_⟩
  · simp only [ltId, decide_eq_true_eq] at *; omega
  · simp only [ltId, decide_eq_false_iff_not] at *; omega
theorem sortFe_any (l : List Fe) (g c base : Nat) (w : World) (hown : w.ownsRow base 25 5 (.slice (some ⟨g, 0, none⟩) l.length c) l.length (l.flatMap encFe)) (hlen : l.length ≤ 4194304) :
    Calls Try.prog 90 #[.slice (some ⟨g, 0, none⟩) l.length c, .func (.func 91) #[] #[]] w fun e w' => e = .returned (.tuple #[]) ∧ ∃ S : List Fe, S.Perm l ∧ S.Pairwise (fun x y => x.id ≤ y.id) ∧ S.length = l.length ∧
      w'.ownsRow base 25 5 (.slice (some ⟨g, 0, none⟩) S.length c) S.length (S.flatMap encFe) ∧ w.grownBy w' (some g) := by
  have h := AnyQ.slices_SortFunc (α := Fe) laysFelt 5 Try.isAgg25 Try.sizeOf25 encFe encFe_len encFe_one cmpId swoId 91 #[] g 0 c l.toArray w (enters_of Try.func91 (by kernel_rfl) rfl)
    (cmpLays_of (fun x y W => mrgCmp_lays x y W)) (own_holdsK encFe_len rfl hown) (hown.lt g rfl).2 (by simp; omega)
  refine h.mono fun e w' ⟨he, d', n, os, hp, hs, hw⟩ => ?_
  subst hw
  have hsz : d'.size = l.length := by simpa using hp.1
  rw [ltId_of] at hs
  have h2 := sort_own encFe_len hown hsz n os
  refine ⟨he, d'.toList, by simpa using permIn_list hp, (sortedIn_list (by simpa using hsz) hs).imp (fun h => by simp only [ltId, decide_eq_false_iff_not] at h; omega), by simpa using hsz, ?_, h2.2⟩
  have e : d'.toList.length = l.length := by simpa using hsz
  rw [e]
  exact h2.1

theorem box5 (w : World) (T : Nat) (a b c d e : Value) : (w.alloc (.cells #[a, b, c, d, e] T)).cell? ⟨w.heap.size, 0, none⟩ = some a ∧ (w.alloc (.cells #[a, b, c, d, e] T)).cell? ⟨w.heap.size, 1, none⟩ = some b ∧
    (w.alloc (.cells #[a, b, c, d, e] T)).cell? ⟨w.heap.size, 2, none⟩ = some c ∧ (w.alloc (.cells #[a, b, c, d, e] T)).cell? ⟨w.heap.size, 3, none⟩ = some d ∧ (w.alloc (.cells #[a, b, c, d, e] T)).cell? ⟨w.heap.size, 4, none⟩ = some e := by
  simp [go_sem]
def rawAt (a b : List Fe) (k : Nat) : List Fe := b ++ (a.take k).filter (lackB b)
theorem rawAt_hit {a b : List Fe} {k : Nat} {m : Fe} (hm : a[k]? = some m) (h : lackB b m = true) : rawAt a b (k + 1) = rawAt a b k ++ [m] := by
  unfold rawAt; rw [filter_hitFe hm h, List.append_assoc]
theorem rawAt_miss {a b : List Fe} {k : Nat} {m : Fe} (hm : a[k]? = some m) (h : lackB b m = false) : rawAt a b (k + 1) = rawAt a b k := by
  unfold rawAt; rw [filter_missFe hm h]
theorem rawAt_len {a b : List Fe} {k : Nat} : (rawAt a b k).length ≤ b.length + k := by
  unfold rawAt
  have := filter_lenFe (p := lackB b) (l := a) (k := k)
  simp; omega

set_option maxRecDepth 100000 in
set_option maxHeartbeats 4000000 in
theorem iMer_any (a b : List Fe) (A B : Option Addr) (ca cb : Nat) (w : World) (ha : RowAt 5 encFe w A a) (hb : RowAt 5 encFe w B b) (hla : a.length ≤ 2097152) (hlb : b.length ≤ 2097152) :
    Calls Try.prog 40 #[.slice A a.length ca, .slice B b.length cb] w (MkS2 25 5 (merL a b).length ((merL a b).flatMap encFe) (merOK a b) w) := by
  have hmf : ∀ (fn : Fn) (first cap : Array Value) (w : World), (Instr.makeFunc fn first cap).run Try.prog w = .ok (.func fn first cap) w := fun _ _ _ _ => rfl
  have HA := Lib.hid ha
  have HB := Lib.hid hb
  clear ha hb
  cases hga : goodFe a <;> cases hgb : goodFe b
  case true.true =>
    have H12a := goodFe_len hga
    have H12b := goodFe_len hgb
    have HGA := Lib.hid hga
    have HGB := Lib.hid hgb
    go_enter Try.func40, Try.ntmps40
    go_wp2_with (first | (go_at_call 21; first | (with_reducible refine (iAreFe_any a _ _ _ HA.out hla).mono ?_; rw [hga]; rintro e u1 ⟨rfl, hb1⟩) | (with_reducible refine (iAreFe_any b _ _ _ (HB.out.below hb1) hlb).mono ?_; rw [hgb]; rintro e u2 ⟨rfl, hb2⟩)) | (go_at_call 88; (with_reducible refine (copyFe_any b _ _ _ (HB.out.below (bstep hb1 hb2)) hlb).mono ?_); rintro e u3 ⟨g0, c0, rfl, ho0, hb3⟩))
    have b3 := bstep (bstep hb1 hb2) hb3
    have HO0 := Lib.hid (own_base ho0 (bstep hb1 hb2).size)
    clear ho0 hb1 hb2 hb3 hga hgb
    go_loopw [6, 21] (fun v i wr => ∃ (k : Nat) (D : List Fe) (g c' : Nat), k ≤ a.length ∧ i = .int .i64 k ∧ v = .slice (some ⟨g, 0, none⟩) D.length c' ∧ D.length ≤ b.length + k ∧ Hid (D = rawAt a b k) ∧ Below w.heap.size w wr ∧ wr.ownsRow w.heap.size 25 5 (.slice (some ⟨g, 0, none⟩) D.length c') D.length (D.flatMap encFe)) (fun _ i _ => a.length - (intOf i).toNat)
    case atStart => exact ⟨0, b, g0, c0, Nat.zero_le _, rfl, rfl, by omega, Lib.hid (by simp [rawAt]), b3, HO0.out⟩
    case round =>
      obtain ⟨k, D, g, c', hk, rfl, rfl, hDl, HD, hbr, hown⟩ := hrel
      have HO := Lib.hid hown
      have hsz := hbr.size
      clear hown
      by_cases hlt : k < a.length
      · obtain ⟨m, hm⟩ := some_get hlt
        have i0 := ib0 k
        have i1 := ib1 hlt
        obtain ⟨ba, oa, rfl, hba, q0, q1, q2, q3, q4⟩ := (HA.out.below hbr).fe hm
        have HM := Lib.hid hm
        clear hm
        obtain ⟨x0, x1, x2, x3, x4⟩ := box5 wr 25 (.int .i64 m.id) (.int .i64 m.x) (.int .i64 m.y) (.int .i64 m.lv) (.int .i64 m.pp)
        have HP := Lib.hid (allFe_any b B cb 89 #[.pointer (some ⟨wr.heap.size, 0, none⟩)] (fun g => g.id != m.id) (enters_of Try.func89 (by kernel_rfl) rfl) (wr.alloc (.cells #[.int .i64 m.id, .int .i64 m.x, .int .i64 m.y, .int .i64 m.lv, .int .i64 m.pp] 25)) (HB.out.below (balloc hbr _)) hlb (fun w1 hb1 y _ => mrgClos_any y m wr.heap.size w1 ((hb1.cell (p := ⟨wr.heap.size, 0, none⟩) (by simp)).trans x0)))
        have hq : (b.all fun g => g.id != m.id) = lackB b m := rfl
        cases hl : lackB b m
        · have HN := Lib.hid (rawAt_miss HM.out hl)
          rw [hl] at hq
          rw [hq] at HP
          clear hq hl x0 x1 x2 x3 x4
          go_wp2_with (go_at_call 85; (with_reducible refine (HP.out).mono ?_); rintro e w1 ⟨rfl, hb1⟩)
          go_roundw
          case rel => exact ⟨k + 1, D, g, c', by omega, by go_num, rfl, by omega, Lib.hid (by rw [HN.out]; exact HD.out), bstep (balloc hbr _) hb1, own_below (HO.out.alloc _) hb1⟩
          case measure => simp [intOf]; omega
        · have HN := Lib.hid (rawAt_hit HM.out hl)
          rw [hl] at hq
          rw [hq] at HP
          have HX := Lib.hid (And.intro x0 (And.intro x1 (And.intro x2 (And.intro x3 x4))))
          clear hq hl x0 x1 x2 x3 x4
          go_wp2_with (first | (go_at_call 85; (with_reducible refine (HP.out).mono ?_); rintro e w1 ⟨rfl, hb1⟩; obtain ⟨x0, x1, x2, x3, x4⟩ := cell5 (by simp) (HX.out) hb1; have HO1 := Lib.hid (own_below (HO.out.alloc _) hb1)) | (at_builtin; refine wpList_app rfl _ _ 31 25 5 40 _ rfl Try.underlying31 infoFe rfl (by decide) w.heap.size _ D.length _ (by rfl) (HO1.out.alloc _) _ _ (by rfl) (heap_new1 _ _) rfl (encFe_one m) (by omega) (by decide) (by have := hb1.size; simp at this ⊢; omega) ?_; intro g5 c5 w5 ho5 hg5 hl5))
          go_roundw
          case rel => exact ⟨k + 1, D ++ [m], g5, c5, by omega, by go_num, by simp, by simp; omega, Lib.hid (by rw [HN.out, ← HD.out]), bgrown (balloc (bstep (balloc hbr _) hb1) _) hg5 (fun k hk => row_mine HO.out k hk), by simpa [encFe] using ho5⟩
          case measure => simp [intOf]; omega
      · obtain rfl : k = a.length := by omega
        have HS := Lib.hid (sortFe_any D g c' w.heap.size wr HO.out (by omega))
        have HE : D = rawL a b := by rw [HD.out]; simp [rawAt, rawL]
        have HEH := Lib.hid HE
        clear HE
        go_wp2_with fail
        refine HS.out.mono ?_; rintro e w1 ⟨rfl, S, hp, hs, hSl, ho1, hg1⟩
        have HM := Lib.hid (sorted_merge (goodFe_asc HGA.out) (goodFe_asc HGB.out) (by rw [← HEH.out]; exact hp) hs)
        have b1 := bgrown hbr hg1 (fun k hk => row_mine HO.out k hk)
        have hA := iAreFe_any S _ c' w1 (RowAt.of_own ho1 encFe_len (by omega)) (by omega)
        rw [hSl] at hA
        have HAF := Lib.hid hA
        have HO1 := Lib.hid ho1
        have HSL := Lib.hid hSl
        clear ho1 hp hs HS HD HEH hmf hA hSl
        cases hgS : goodFe S
        · have hok : merOK a b = false := by simp [merOK, HGA.out, HGB.out, ← HM.out, hgS]
          have HE := Lib.hid (show merL a b = [] by simp [merL, hok])
          have HK := Lib.hid hok
          clear hok
          go_wp2_with (go_at_call 21; (with_reducible refine (HAF.out).mono ?_); rw [hgS]; rintro e w2 ⟨rfl, hb2⟩)
          go_ret2
          rw [HE.out, HK.out]
          exact ⟨none, 0, rfl, World.ownsRow_nil _ _ _ _, bstep b1 hb2⟩
        · have hok : merOK a b = true := by simp [merOK, HGA.out, HGB.out, ← HM.out, hgS]
          have HE := Lib.hid (show merL a b = S by simp [merL, hok, ← HM.out])
          have HK := Lib.hid hok
          clear hok
          go_wp2_with (go_at_call 21; (with_reducible refine (HAF.out).mono ?_); rw [hgS]; rintro e w2 ⟨rfl, hb2⟩)
          go_ret2
          rw [HE.out, HK.out]
          refine ⟨_, _, ?_, own_below HO1.out hb2, bstep b1 hb2⟩
          rw [HSL.out]
          rfl
  all_goals
    have hok : merOK a b = false := by simp [merOK, hga, hgb]
    have e : merL a b = [] := by simp [merL, hok]
    rw [e, hok]
    clear e hok
    go_enter Try.func40, Try.ntmps40
    go_wp2_with (first | (go_at_call 21; first | (with_reducible refine (iAreFe_any a _ _ _ HA.out hla).mono ?_; rw [hga]; rintro e w1 ⟨rfl, hb1⟩) | (with_reducible refine (iAreFe_any b _ _ _ (HB.out.below hb1) hlb).mono ?_; rw [hgb]; rintro e w2 ⟨rfl, hb2⟩)))
    go_ret2
    first
      | exact ⟨none, 0, rfl, World.ownsRow_nil _ _ _ _, hb1⟩
      | exact ⟨none, 0, rfl, World.ownsRow_nil _ _ _ _, bstep hb1 hb2⟩
end Go.Proofs.Ytjjinblahmcplaa
