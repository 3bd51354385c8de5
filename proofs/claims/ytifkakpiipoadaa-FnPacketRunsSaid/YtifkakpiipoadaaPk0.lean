/-
  Packets as plain data: a number and samples in a block of their own; their rows in memory, and the laws' own helpers over them.
-/
import Derived.Test.YtifkakpiipoadaaPlain0
import Derived.Test.YtifkakpiipoadaaRows
import Derived.Test.YtifkakpiipoadaaInts1
import Derived.Test.YtifkakpiipoadaaKit
namespace Go.Proofs.Ytifkakpiipoadaa
set_option linter.unusedVariables false
set_option linter.unusedSimpArgs false
set_option linter.unnecessarySimpa false
open Go.RowKit
attribute [local go_sem] ext_cell ext_frozen

/-- A packet as it lies: its number, its samples, and where they lie. -/
structure Pk where
  no : Int
  sm : List Int
  A : Option Addr
  c : Nat
def Pk.pl (p : Pk) : Int × List Int := (p.no, p.sm)
def encPk (p : Pk) : List Value := [.int .i64 p.no, .slice p.A p.sm.length p.c]
theorem encPk_len (m : Pk) : (encPk m).length = 2 := rfl
theorem encPk_one (m : Pk) : ∀ v ∈ encPk m, v.oneCell' = true := by
  intro v hv
  simp [encPk] at hv
  rcases hv with rfl | rfl <;> rfl
theorem cellsPk_one (l : List Pk) : ∀ v ∈ l.flatMap encPk, v.oneCell' = true := by
  intro v hv
  obtain ⟨m, _, h⟩ := List.mem_flatMap.1 hv
  exact encPk_one m v h
theorem infoPk : (Try.prog.info? 40).map (fun i => (i.zero, i.size, i.bytes)) = some (some (.agg #[.int .i64 0, .slice none 0 0]), 2, 32) := by kernel_rfl
/-- The slice reads as the list of packets, and each one's samples read. -/
def PkAt (w : World) (A : Option Addr) (l : List Pk) : Prop := RowAt 2 encPk w A l ∧ ∀ p ∈ l, RowAt 1 encI w p.A p.sm
theorem PkAt.below {w w' : World} {A : Option Addr} {l : List Pk} (h : PkAt w A l) (hb : Below w.heap.size w w') : PkAt w' A l := ⟨h.1.below hb, fun p hp => (h.2 p hp).below hb⟩
theorem PkAt.pk {w : World} {k : Nat} {A : Option Addr} {l : List Pk} {m : Pk} (h : PkAt w A l) (hm : l[k]? = some m) :
    ∃ b off, A = some ⟨b, off, none⟩ ∧ b < w.heap.size ∧ w.cell? ⟨b, off + k * 2, none⟩ = some (.int .i64 m.no) ∧ w.cell? ⟨b, off + k * 2 + 1, none⟩ = some (.slice m.A m.sm.length m.c) ∧ RowAt 1 encI w m.A m.sm := by
  obtain ⟨b, off, e, hb, hc⟩ := h.1.at_ hm
  exact ⟨b, off, e, hb, hc k m hm 0 _ rfl, hc k m hm 1 _ rfl, h.2 m (List.mem_of_getElem? hm)⟩
theorem RowAt.pkc {w : World} {k : Nat} {A : Option Addr} {l : List Pk} {m : Pk} (h : RowAt 2 encPk w A l) (hm : l[k]? = some m) :
    ∃ b off, A = some ⟨b, off, none⟩ ∧ b < w.heap.size ∧ w.cell? ⟨b, off + k * 2, none⟩ = some (.int .i64 m.no) ∧ w.cell? ⟨b, off + k * 2 + 1, none⟩ = some (.slice m.A m.sm.length m.c) := by
  obtain ⟨b, off, e, hb, hc⟩ := h.at_ hm
  exact ⟨b, off, e, hb, hc k m hm 0 _ rfl, hc k m hm 1 _ rfl⟩
def totS (l : List Pk) : Nat := l.foldr (fun p n => p.sm.length + n) 0
theorem totS_cons (p : Pk) (l : List Pk) : totS (p :: l) = p.sm.length + totS l := rfl
theorem totS_app (a b : List Pk) : totS (a ++ b) = totS a + totS b := by
  induction a with
  | nil => simp [totS]
  | cons p a ih => rw [List.cons_append, totS_cons, totS_cons, ih]; omega
theorem totS_take_le (l : List Pk) (k : Nat) : totS (l.take k) ≤ totS l := by
  conv => rhs; rw [← List.take_append_drop k l, totS_app]
  omega
theorem totS_succ {l : List Pk} {k : Nat} {m : Pk} (hm : l[k]? = some m) : totS (l.take (k + 1)) = totS (l.take k) + m.sm.length := by
  rw [List.take_add_one, hm, totS_app]; simp [totS]
def tot (l : List Pk) : Nat := l.length + totS l
theorem totS_mem {l : List Pk} {m : Pk} (h : m ∈ l) : m.sm.length ≤ totS l := by
  induction l with
  | nil => simp at h
  | cons p l ih =>
    rw [totS_cons]
    rcases List.mem_cons.1 h with e | e
    · subst e; omega
    · have := ih e; omega

-- sizes
set_option maxHeartbeats 400000 in
theorem szI_in (A : Option Addr) (n c : Nat) (left : Int) (w : World) (h : (n : Int) ≤ left) (h2 : left ≤ 1048576) :
    Calls Try.prog 68 #[.slice A n c, .int .i64 left] w fun e w' => e = .returned (.int .i64 (left - n)) ∧ w = w' := by
  go_enter Try.func68, Try.ntmps68
  go_wp2
  go_ret
  exact ⟨rfl, rfl⟩
set_option maxHeartbeats 400000 in
theorem szI_out (A : Option Addr) (n c : Nat) (left : Int) (w : World) (h : left < n) (hl : 0 ≤ left) (hn : n ≤ 9223372036854775807) :
    Calls Try.prog 68 #[.slice A n c, .int .i64 left] w fun e w' => e = .returned (.int .i64 (-1)) ∧ w = w' := by
  go_enter Try.func68, Try.ntmps68
  go_wp2
  go_ret
  exact ⟨rfl, rfl⟩
set_option maxHeartbeats 400000 in
theorem szPk1_in (no : Int) (A : Option Addr) (n c : Nat) (left : Int) (w : World) (h : (n : Int) ≤ left) (h2 : left ≤ 1048576) :
    Calls Try.prog 26 #[.agg #[.int .i64 no, .slice A n c], .int .i64 left] w fun e w' => e = .returned (.int .i64 (left - n)) ∧ Below w.heap.size w w' := by
  go_enter Try.func26, Try.ntmps26
  go_wp2_with (go_at_call 68; (with_reducible refine (szI_in _ _ _ _ _ h h2).mono ?_); rintro e w' ⟨rfl, rfl⟩)
  go_ret
  exact ⟨rfl, (by repeat (first | exact bref _ | (refine balloc ?_ _) | (refine bdrew ?_) | (refine bdrewN ?_ _) | (refine bstep ?_ (by assumption))))⟩
set_option maxHeartbeats 400000 in
theorem szPk1_out (no : Int) (A : Option Addr) (n c : Nat) (left : Int) (w : World) (h : left < n) (hl : 0 ≤ left) (hn : n ≤ 9223372036854775807) :
    Calls Try.prog 26 #[.agg #[.int .i64 no, .slice A n c], .int .i64 left] w fun e w' => e = .returned (.int .i64 (-1)) ∧ Below w.heap.size w w' := by
  go_enter Try.func26, Try.ntmps26
  go_wp2_with (go_at_call 68; (with_reducible refine (szI_out _ _ _ _ _ h hl hn).mono ?_); rintro e w' ⟨rfl, rfl⟩)
  go_ret
  exact ⟨rfl, (by repeat (first | exact bref _ | (refine balloc ?_ _) | (refine bdrew ?_) | (refine bdrewN ?_ _) | (refine bstep ?_ (by assumption))))⟩
set_option maxHeartbeats 1000000 in
theorem szPkS_in (l : List Pk) (A : Option Addr) (c : Nat) (left : Int) (w : World) (hr : PkAt w A l) (h : (tot l : Int) ≤ left) (h2 : left ≤ 1048576) :
    Calls Try.prog 15 #[.slice A l.length c, .int .i64 left] w fun e w' => e = .returned (.int .i64 (left - tot l)) ∧ Below w.heap.size w w' := by
  unfold tot at h ⊢
  have HR := Lib.hid hr
  clear hr
  go_enter Try.func15, Try.ntmps15
  go_wp2_with fail
  go_loopw [1, 5] (fun kv i wr => ∃ (k : Nat) (K : Int), k ≤ l.length ∧ i = .int .i64 k ∧ kv = .int .i64 K ∧ Hid (K = left - l.length - totS (l.take k)) ∧ Below w.heap.size w wr) (fun _ i _ => l.length - (intOf i).toNat)
  case atStart => exact ⟨0, left - l.length, Nat.zero_le _, rfl, rfl, Lib.hid (by simp [totS]), bref _⟩
  case round =>
    obtain ⟨k, K, hk, rfl, rfl, HK, hbr⟩ := hrel
    have hK := HK.out
    by_cases hlt : k < l.length
    · obtain ⟨m, hm⟩ := some_get hlt
      have i0 := ib0 k
      have i1 := ib1 hlt
      obtain ⟨b, off, rfl, hb, q0, q1, _⟩ := (HR.out.below hbr).pk hm
      have hd := totS_succ hm
      have hle := totS_take_le l (k + 1)
      have HN := Lib.hid (show K - m.sm.length = left - l.length - totS (l.take (k + 1)) by omega)
      have HG := Lib.hid (show (m.sm.length : Int) ≤ K ∧ K ≤ 1048576 by omega)
      have hnn : 0 ≤ K - m.sm.length := by omega
      clear hm hd hle hK
      go_wp2_with (go_at_call 26; (with_reducible refine (szPk1_in _ _ _ _ _ _ HG.out.1 HG.out.2).mono ?_); rintro e w1 ⟨rfl, hb1⟩)
      go_roundw
      case rel => exact ⟨k + 1, K - m.sm.length, by omega, by go_num, rfl, HN, bstep hbr hb1⟩
      case measure => simp [intOf]; omega
    · obtain rfl : k = l.length := by omega
      have HF := Lib.hid (show left - ((l.length + totS l : Nat) : Int) = K by rw [List.take_length] at hK; omega)
      clear hK
      go_wp2
      go_ret
      exact ⟨ret_int HF.out.symm, hbr⟩
set_option maxHeartbeats 1000000 in
theorem szPkS_out (l : List Pk) (A : Option Addr) (c : Nat) (left : Int) (w : World) (hr : PkAt w A l) (h : left < (tot l : Int)) (h2 : left ≤ 1048576) (hl0 : 0 ≤ left) (hl : l.length ≤ 9223372036854775807) (hs : ∀ p ∈ l, p.sm.length ≤ 9223372036854775807) :
    Calls Try.prog 15 #[.slice A l.length c, .int .i64 left] w fun e w' => e = .returned (.int .i64 (-1)) ∧ Below w.heap.size w w' := by
  unfold tot at h
  have HR := Lib.hid hr
  have HSM := Lib.hid hs
  clear hr hs
  by_cases h0 : left < l.length
  · go_enter Try.func15, Try.ntmps15
    go_wp2
    go_ret
    exact ⟨rfl, (by repeat (first | exact bref _ | (refine balloc ?_ _) | (refine bdrew ?_) | (refine bdrewN ?_ _) | (refine bstep ?_ (by assumption))))⟩
  · go_enter Try.func15, Try.ntmps15
    go_wp2_with fail
    go_loopw [1, 5] (fun kv i wr => ∃ (k : Nat) (K : Int), k ≤ l.length ∧ i = .int .i64 k ∧ kv = .int .i64 K ∧ Hid (K = left - l.length - totS (l.take k)) ∧ 0 ≤ K ∧ Below w.heap.size w wr) (fun _ i _ => l.length - (intOf i).toNat)
    case atStart => exact ⟨0, left - l.length, Nat.zero_le _, rfl, rfl, Lib.hid (by simp [totS]), by omega, bref _⟩
    case round =>
      obtain ⟨k, K, hk, rfl, rfl, HK, hK0, hbr⟩ := hrel
      have hK := HK.out
      by_cases hlt : k < l.length
      · obtain ⟨m, hm⟩ := some_get hlt
        have i0 := ib0 k
        have i1 := ib1 hlt
        obtain ⟨b, off, rfl, hb, q0, q1, _⟩ := (HR.out.below hbr).pk hm
        have hd := totS_succ hm
        have HN := Lib.hid (show K - m.sm.length = left - l.length - totS (l.take (k + 1)) by omega)
        have HB := Lib.hid (show K ≤ 1048576 by omega)
        have HM := Lib.hid (HSM.out m (List.mem_of_getElem? hm))
        clear hm hd hK
        by_cases hc : (m.sm.length : Int) ≤ K
        · have hnn : 0 ≤ K - m.sm.length := by omega
          go_wp2_with (go_at_call 26; (with_reducible refine (szPk1_in _ _ _ _ _ _ hc HB.out).mono ?_); rintro e w1 ⟨rfl, hb1⟩)
          go_roundw
          case rel => exact ⟨k + 1, K - m.sm.length, by omega, by go_num, rfl, HN, hnn, bstep hbr hb1⟩
          case measure => simp [intOf]; omega
        · go_wp2_with (go_at_call 26; (with_reducible refine (szPk1_out _ _ _ _ _ _ (by omega) hK0 HM.out).mono ?_); rintro e w1 ⟨rfl, hb1⟩)
          go_ret
          exact ⟨rfl, bstep hbr hb1⟩
      · obtain rfl : k = l.length := by omega
        rw [List.take_length] at hK
        omega

-- copies
set_option maxHeartbeats 1000000 in
theorem toIS_any (l : List Int) (A : Option Addr) (c : Nat) (w : World) (hr : RowAt 1 encI w A l) (hlen : l.length ≤ 1048576) :
    Calls Try.prog 70 #[.slice A l.length c] w fun e w' => ∃ g, e = .returned (.slice (some ⟨g, 0, none⟩) l.length l.length) ∧ w'.ownsRow w.heap.size 3 1 (.slice (some ⟨g, 0, none⟩) l.length l.length) l.length (l.flatMap encI) ∧ Below w.heap.size w w' := by
  obtain ⟨i0, hi0, hz0, hz1, hz2⟩ := info_parts infoI
  have hmk := fun W => run_make_rowN (P := Try.prog) 29 3 i0 _ Try.underlying29 hi0 hz0 .i64 .i64 l.length l.length (Nat.le_refl _) (by rw [hz2]; omega) (by omega) W
  rw [hz1] at hmk
  have hz := size_madeCells (Value.int .i64 0).cells (l.length * 1)
  generalize hcur : madeCells (Value.int .i64 0).cells (l.length * 1) = cur at hmk hz
  clear hcur hi0 hz0 hz1 hz2 i0
  have HZ := Lib.hid hz
  clear hz
  go_enter Try.func70, Try.ntmps70
  go_wp2_with fail
  clear hmk
  go_loopw [4] (fun i wr => ∃ k : Nat, k ≤ l.length ∧ i = .int .i64 k ∧ Below w.heap.size w wr ∧ wr.ownsRow w.heap.size 3 1 (.slice (some ⟨w.heap.size, 0, none⟩) l.length l.length) l.length (fillS encI 1 l cur.toList k)) (fun i _ => l.length - (intOf i).toNat)
  case atStart => exact ⟨0, Nat.zero_le _, rfl, balloc (bref _) _, own_made (by rw [HZ.out]) (by unfold maxLen; omega)⟩
  case round =>
    obtain ⟨k, hk, rfl, hbr, hown⟩ := hrel
    by_cases hlt : k < l.length
    · obtain ⟨m, hm⟩ := some_get hlt
      obtain ⟨b, off, rfl, hb, q0⟩ := (hr.below hbr).i hm
      have i0 := ib0 k
      have i1 := ib1 hlt
      have hgw : w.heap.size < wr.heap.size := (hown.lt _ rfl).2
      obtain ⟨o0, r0⟩ := own_cell hown (j := k) (by omega)
      have z0 := hown.frozenAt k
      have HM := Lib.hid hm
      have HO := Lib.hid hown
      clear hr hm hown
      go_wp2_with fail
      go_roundw
      case rel => 
        refine ⟨k + 1, by omega, by go_num, (by repeat (first | exact hbr | (refine bset ?_ (by simp) _))), ?_⟩
        have hs := fillS_step HM.out (by rw [Array.length_toList, HZ.out]) hlt (encI_len) HO.out
        simpa [World.setCells, encI] using hs
      case measure => simp [intOf]; omega
    · obtain rfl : k = l.length := by omega
      have HO := Lib.hid hown
      clear hr hown
      go_wp2
      go_ret
      exact ⟨_, rfl, fillS_end (by rw [Array.length_toList, HZ.out]) HO.out, hbr⟩

set_option maxHeartbeats 1000000 in
theorem toPk1_any (no : Int) (sm : List Int) (A : Option Addr) (c : Nat) (w : World) (hr : RowAt 1 encI w A sm) (hlen : sm.length ≤ 1048576) :
    Calls Try.prog 28 #[.agg #[.int .i64 no, .slice A sm.length c]] w fun e w' => ∃ g, e = .returned (.agg #[.int .i64 no, .slice (some ⟨g, 0, none⟩) sm.length sm.length]) ∧ w'.ownsRow w.heap.size 3 1 (.slice (some ⟨g, 0, none⟩) sm.length sm.length) sm.length (sm.flatMap encI) ∧ Below w.heap.size w w' := by
  have HR := Lib.hid hr
  clear hr
  go_enter Try.func28, Try.ntmps28
  go_wp2_with (go_at_call 70; (with_reducible refine (toIS_any sm _ _ _ (HR.out.below (by repeat (first | exact bref _ | (refine balloc ?_ _) | (refine bset ?_ (by simp <;> omega) _)))) hlen).mono ?_); rintro e w1 ⟨g, rfl, ho1, hb1⟩; obtain ⟨hc1, hf1, hz1⟩ := bcell (B := w.heap.size + 1 + 1 + 1) (by simp) hb1)
  have hlt := ho1.lt g rfl
  simp only [World.size_alloc] at hlt
  have hbs : ∀ r : Nat, r < g → (Value.slice (some ⟨g, 0, none⟩) sm.length sm.length).ownBlock ≠ some r := fun r hr e => by simp [Value.ownBlock] at e; omega
  have x0 : w1.cell? ⟨w.heap.size + 1, 0, none⟩ = some (.int .i64 0) := (hc1 _ _ (by omega)).trans (by simp [go_sem])
  have x1 : w1.cell? ⟨w.heap.size + 1, 1, none⟩ = some (.slice none 0 0) := (hc1 _ _ (by omega)).trans (by simp [go_sem])
  refine bodyPost_ret (v := .agg #[.int .i64 no, .slice (some ⟨g, 0, none⟩) sm.length sm.length]) (by simp [results, Try.results28, go_sem, x0, x1]) rfl ⟨g, rfl, own_base (base' := w.heap.size) (World.ownsRow.kept (World.ownsRow.kept (World.ownsRow.kept ho1 (only_setCell (World.grownBy.refl w1 (some (w.heap.size + 1 + 1))) (.inl rfl) _) (.inr (hbs _ (by omega)))) (only_setCell (World.grownBy.refl _ (some (w.heap.size + 1))) (.inl rfl) _) (.inr (hbs _ (by omega)))) (only_setCell (World.grownBy.refl _ (some (w.heap.size + 1))) (.inl rfl) _) (.inr (hbs _ (by omega)))) (by simp <;> omega), ?_⟩
  exact bset (bset (bset (bstep (by repeat (first | exact bref _ | (refine balloc ?_ _) | (refine bset ?_ (by simp <;> omega) _))) hb1) (by simp <;> omega) _) (by simp <;> omega) _) (by simp <;> omega) _

/-- Packets in blocks of the call's own: no two share one. -/
structure PkOwn (base g : Nat) (w : World) (l : List Pk) : Prop where
  out : w.ownsRow base 40 2 (.slice (some ⟨g, 0, none⟩) l.length l.length) l.length (l.flatMap encPk)
  ins : ∀ p ∈ l, ∃ h, p.A = some ⟨h, 0, none⟩ ∧ p.c = p.sm.length ∧ g < h ∧ w.ownsRow base 3 1 (.slice (some ⟨h, 0, none⟩) p.sm.length p.sm.length) p.sm.length (p.sm.flatMap encI)
  far : l.Pairwise fun p q => p.A ≠ q.A
theorem PkOwn.at_ {base g : Nat} {w : World} {l : List Pk} (h : PkOwn base g w l) : PkAt w (some ⟨g, 0, none⟩) l :=
  ⟨RowAt.of_own h.out encPk_len (by omega), fun p hp => by
    obtain ⟨b, e, _, _, ho⟩ := h.ins p hp
    rw [e]
    exact RowAt.of_own ho encI_len (by omega)⟩
theorem PkOwn.below {base g : Nat} {w w' : World} {l : List Pk} (h : PkOwn base g w l) (hb : Below w.heap.size w w') : PkOwn base g w' l :=
  ⟨own_below h.out hb, fun p hp => by
    obtain ⟨b, e, e2, e3, ho⟩ := h.ins p hp
    exact ⟨b, e, e2, e3, own_below ho hb⟩, h.far⟩
theorem fill_eq {L M : List Pk} {zs : List Value} {k : Nat} (h : L.take k = M.take k) : fillS encPk 2 L zs k = fillS encPk 2 M zs k := by unfold fillS; rw [h]

set_option maxHeartbeats 2000000 in
theorem toPkS_any (l : List Pk) (A : Option Addr) (c : Nat) (w : World) (hr : PkAt w A l) (htot : tot l ≤ 1048576) :
    Calls Try.prog 17 #[.slice A l.length c] w fun e w' => ∃ (l' : List Pk) (g : Nat), e = .returned (.slice (some ⟨g, 0, none⟩) l.length l.length) ∧ l'.map Pk.pl = l.map Pk.pl ∧ l'.length = l.length ∧ PkOwn w.heap.size g w' l' ∧ Below w.heap.size w w' := by
  have hlen : l.length ≤ 1048576 := by unfold tot at htot; omega
  obtain ⟨i0, hi0, hz0, hz1, hz2⟩ := info_parts infoPk
  have hmk := fun W => run_make_rowN (P := Try.prog) 25 40 i0 _ Try.underlying25 hi0 hz0 .i64 .i64 l.length l.length (Nat.le_refl _) (by rw [hz2]; omega) (by omega) W
  rw [hz1] at hmk
  have hz := size_madeCells (Value.agg #[.int .i64 0, .slice none 0 0]).cells (l.length * 2)
  generalize hcur : madeCells (Value.agg #[.int .i64 0, .slice none 0 0]).cells (l.length * 2) = cur at hmk hz
  clear hcur hi0 hz0 hz1 hz2 i0
  have HZ := Lib.hid hz
  have HR := Lib.hid hr
  have HT := Lib.hid htot
  clear hz hr htot
  go_enter Try.func17, Try.ntmps17
  go_wp2_with fail
  clear hmk
  go_loopw [4] (fun i wr => ∃ (k : Nat) (L : List Pk), k ≤ l.length ∧ i = .int .i64 k ∧ L.length = k ∧ Hid (L.map Pk.pl = (l.take k).map Pk.pl) ∧ Below w.heap.size w wr ∧ wr.ownsRow w.heap.size 40 2 (.slice (some ⟨w.heap.size, 0, none⟩) l.length l.length) l.length (fillS encPk 2 L cur.toList k) ∧
    Hid (∀ p ∈ L, ∃ h, p.A = some ⟨h, 0, none⟩ ∧ p.c = p.sm.length ∧ w.heap.size < h ∧ wr.ownsRow w.heap.size 3 1 (.slice (some ⟨h, 0, none⟩) p.sm.length p.sm.length) p.sm.length (p.sm.flatMap encI)) ∧ Hid (L.Pairwise fun p q => p.A ≠ q.A)) (fun i _ => l.length - (intOf i).toNat)
  case atStart => exact ⟨0, [], Nat.zero_le _, rfl, rfl, rfl, balloc (bref _) _, own_made (by rw [HZ.out]) (by unfold maxLen; omega), Lib.hid (fun p hp => by simp at hp), Lib.hid List.Pairwise.nil⟩
  case round =>
    obtain ⟨k, L, hk, rfl, hLk, HL, hbr, hown, HI, HF⟩ := hrel
    by_cases hlt : k < l.length
    · obtain ⟨m, hm⟩ := some_get hlt
      obtain ⟨b, off, rfl, hb, q0, q1, hrm⟩ := (HR.out.below hbr).pk hm
      have i0 := ib0 k
      have i1 := ib1 hlt
      have hgw : w.heap.size < wr.heap.size := (hown.lt _ rfl).2
      obtain ⟨o0, r0⟩ := own_cell hown (j := k * 2) (by omega)
      obtain ⟨o1, r1⟩ := own_cell hown (j := k * 2 + 1) (by omega)
      have z0 := hown.frozenAt (k * 2)
      have z1 := hown.frozenAt (k * 2 + 1)
      have HM := Lib.hid hm
      have HO := Lib.hid hown
      have HS := Lib.hid (show m.sm.length ≤ 1048576 by have := totS_mem (List.mem_of_getElem? hm); have := HT.out; unfold tot at this; omega)
      have HRM := Lib.hid hrm
      clear hm hown hrm
      go_wp2_with (go_at_call 28; (with_reducible refine (toPk1_any _ m.sm _ _ _ HRM.out HS.out).mono ?_); rintro e w1 ⟨g, rfl, ho1, hb1⟩; obtain ⟨hc1, hf1, hz1⟩ := bcell (B := wr.heap.size) (Nat.le_refl _) hb1)
      have hg1 := ho1.lt g rfl
      have hO1 := own_below HO.out hb1
      go_roundw
      case rel =>
        refine ⟨k + 1, L ++ [⟨m.no, m.sm, some ⟨g, 0, none⟩, m.sm.length⟩], by omega, by go_num, by simp [hLk], Lib.hid ?_, ?_, ?_, Lib.hid ?_, Lib.hid ?_⟩
        · rw [List.map_append, HL.out, List.take_add_one, HM.out, List.map_append]; rfl
        · exact bset (bset (bstep hbr hb1) (by simp) _) (by simp) _
        · have e1 : (L ++ [(⟨m.no, m.sm, some ⟨g, 0, none⟩, m.sm.length⟩ : Pk)] ++ l.drop (k + 1))[k]? = some ⟨m.no, m.sm, some ⟨g, 0, none⟩, m.sm.length⟩ := by
            rw [List.append_assoc, List.getElem?_append_right (by omega), hLk]; simp
          have e2 : (L ++ [(⟨m.no, m.sm, some ⟨g, 0, none⟩, m.sm.length⟩ : Pk)] ++ l.drop (k + 1)).length = l.length := by simp; omega
          have hO2 := hO1
          rw [fill_eq (M := L ++ [⟨m.no, m.sm, some ⟨g, 0, none⟩, m.sm.length⟩] ++ l.drop (k + 1)) (by rw [List.append_assoc, List.take_append_of_le_length (by omega)])] at hO2
          have hs := fillS_step e1 (by rw [Array.length_toList, HZ.out, e2]) (by rw [e2]; exact hlt) encPk_len hO2
          rw [fill_eq (M := L ++ [⟨m.no, m.sm, some ⟨g, 0, none⟩, m.sm.length⟩]) (by rw [List.take_append_of_le_length (by simp; omega)])] at hs
          exact hs
        · intro p hp
          have far : ∀ h xs n, w.heap.size < h → w1.ownsRow w.heap.size 3 1 (.slice (some ⟨h, 0, none⟩) n n) n xs → ((w1.setCell ⟨w.heap.size, k * 2, none⟩ (.int .i64 m.no)).setCell ⟨w.heap.size, k * 2 + 1, none⟩ (.slice (some ⟨g, 0, none⟩) m.sm.length m.sm.length)).ownsRow w.heap.size 3 1 (.slice (some ⟨h, 0, none⟩) n n) n xs := fun h xs n hh ho =>
            World.ownsRow.kept (World.ownsRow.kept ho (only_setCell (World.grownBy.refl w1 (some w.heap.size)) (.inl rfl) _) (.inr (fun e => by simp [Value.ownBlock] at e; omega))) (only_setCell (World.grownBy.refl _ (some w.heap.size)) (.inl rfl) _) (.inr (fun e => by simp [Value.ownBlock] at e; omega))
          rcases List.mem_append.1 hp with hp | hp
          · obtain ⟨h, e1, e2, e3, ho⟩ := HI.out p hp
            exact ⟨h, e1, e2, e3, far h _ _ e3 (own_below ho hb1)⟩
          · obtain rfl := List.mem_singleton.1 hp
            exact ⟨g, rfl, rfl, by show w.heap.size < g; omega, far g _ _ (by omega) (own_base ho1 (by omega))⟩
        · rw [List.pairwise_append]
          refine ⟨HF.out, by simp, fun p hp q hq => ?_⟩
          obtain rfl := List.mem_singleton.1 hq
          obtain ⟨h, e1, _, _, ho⟩ := HI.out p hp
          have := (ho.lt h rfl).2
          rw [e1]
          intro e
          simp only [Option.some.injEq, Addr.mk.injEq, and_true] at e
          omega
      case measure => simp [intOf]; omega
    · obtain rfl : k = l.length := by omega
      have HO := Lib.hid hown
      clear hown
      go_wp2
      go_ret
      refine ⟨L, w.heap.size, rfl, by rw [HL.out, List.take_length], hLk, ⟨?_, HI.out, HF.out⟩, hbr⟩
      rw [hLk]
      have h := HO.out
      rw [show fillS encPk 2 L cur.toList l.length = fillS encPk 2 L cur.toList L.length by rw [hLk]] at h
      exact fillS_end (by rw [Array.length_toList, HZ.out, hLk]) h

-- comparison
set_option maxHeartbeats 1000000 in
theorem eqPk1_same (no : Int) (sm : List Int) (A A' : Option Addr) (c c' : Nat) (w : World) (hr : RowAt 1 encI w A sm) (hr' : RowAt 1 encI w A' sm) (hlen : sm.length ≤ 2097152) :
    Calls Try.prog 30 #[.agg #[.int .i64 no, .slice A sm.length c], .agg #[.int .i64 no, .slice A' sm.length c']] w fun e w' => e = .returned (.bool true) ∧ Below w.heap.size w w' := by
  have HR := Lib.hid hr
  have HR' := Lib.hid hr'
  clear hr hr'
  go_enter Try.func30, Try.ntmps30
  go_wp2_with (go_at_call 22; (with_reducible refine (eqIS_same sm _ _ _ _ _ (HR.out.below (balloc (balloc (bref _) _) _)) (HR'.out.below (balloc (balloc (bref _) _) _)) hlen).mono ?_); rintro e w1 ⟨rfl, hb1⟩)
  go_ret
  exact ⟨rfl, bstep (balloc (balloc (bref _) _) _) hb1⟩
theorem pl_get {l l' : List Pk} (h : l'.map Pk.pl = l.map Pk.pl) {k : Nat} {m : Pk} (hm : l[k]? = some m) : ∃ m', l'[k]? = some m' ∧ m'.no = m.no ∧ m'.sm = m.sm := by
  have h1 : (l'.map Pk.pl)[k]? = some m.pl := by rw [h, List.getElem?_map, hm]; rfl
  rw [List.getElem?_map] at h1
  cases h2 : l'[k]? with
  | none => rw [h2] at h1; cases h1
  | some m' =>
    rw [h2] at h1
    simp [Pk.pl] at h1
    exact ⟨m', rfl, h1.1, h1.2⟩
set_option maxHeartbeats 1000000 in
theorem eqPkS_same (l l' : List Pk) (A A' : Option Addr) (c c' : Nat) (w : World) (hp : l'.map Pk.pl = l.map Pk.pl) (hr : PkAt w A l) (hr' : PkAt w A' l') (hlen : tot l ≤ 2097152) :
    Calls Try.prog 19 #[.slice A l.length c, .slice A' l.length c'] w fun e w' => e = .returned (.bool true) ∧ Below w.heap.size w w' := by
  have hl : l.length ≤ 2097152 := by unfold tot at hlen; omega
  have HR := Lib.hid hr
  have HR' := Lib.hid hr'
  have HP := Lib.hid hp
  have HT := Lib.hid hlen
  clear hr hr' hp hlen
  go_enter Try.func19, Try.ntmps19
  go_wp2_with fail
  go_loopw [5] (fun i wr => ∃ k : Nat, k ≤ l.length ∧ i = .int .i64 k ∧ Below w.heap.size w wr) (fun i _ => l.length - (intOf i).toNat)
  case atStart => exact ⟨0, Nat.zero_le _, rfl, bref _⟩
  case round =>
    obtain ⟨k, hk, rfl, hbr⟩ := hrel
    by_cases hlt : k < l.length
    · obtain ⟨m, hm⟩ := some_get hlt
      have i0 := ib0 k
      have i1 := ib1 hlt
      obtain ⟨m', hm', e1, e2⟩ := pl_get HP.out hm
      obtain ⟨b, off, rfl, hb, q0, q1, hs⟩ := (HR.out.below hbr).pk hm
      obtain ⟨b', off', rfl, hb', r0, r1, hs'⟩ := (HR'.out.below hbr).pk hm'
      rw [e1] at r0
      rw [e2] at r1 hs'
      have hl2 : m.sm.length ≤ 2097152 := by have := totS_mem (List.mem_of_getElem? hm); have := HT.out; unfold tot at this; omega
      have HC := Lib.hid (fun (X : Ext wr) => eqPk1_same m.no m.sm m.A m'.A m.c m'.c X.w (hs.below X.is) (hs'.below X.is) hl2)
      clear hm hm' hs hs' hl2 e1 e2
      go_wp2_with fail
      (refine wp_region_calm (by kernel_rfl) (by kernel_rfl) ?_; (repeat (go_big_quiet_step (((go_at_call 30; exact calm_of (HC.out _)))))); refine wpQuiet_nil ?_; intro xw; have hb1 := xw.is; generalize xw.w = w1 at hb1 ⊢; clear xw)
      go_wp2
      go_roundw
      case rel => exact ⟨k + 1, by omega, by go_num, bstep hbr hb1⟩
      case measure => simp [intOf]; omega
    · obtain rfl : k = l.length := by omega
      go_wp2
      go_ret
      exact ⟨rfl, hbr⟩
end Go.Proofs.Ytifkakpiipoadaa
