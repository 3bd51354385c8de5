/-
  Motions turned and flipped: impl and spec compute one list, in new memory.
-/
import Derived.Test.YtefofllkeghfnaaMoGood
import Derived.Test.YtefofllkeghfnaaMoQuad
namespace Go.Proofs.Ytefofllkeghfnaa
open Go.RowKit

theorem map_take {α β : Type} {f : α → β} {l : List α} {k : Nat} {m : α} (hm : l[k]? = some m) : (l.take (k + 1)).map f = (l.take k).map f ++ [f m] := by
  rw [List.take_add_one, hm]; simp
theorem flat_one {α : Type} {enc : α → List Value} {xs : List α} {x : α} : (xs ++ [x]).flatMap enc = xs.flatMap enc ++ enc x := by simp

def flipMo (m : Mo) : Mo := ⟨m.st, m.x, m.y, -m.sg⟩
def flipL (l : List Mo) : List Mo := if goodMo l then l.map flipMo else []

set_option maxHeartbeats 1000000 in
theorem iflip_any (l : List Mo) (A : Option Addr) (c : Nat) (w : World) (hr : RowAt 4 encMo w A l) (hlen : l.length ≤ 2097152) :
    Calls Try.prog 23 #[.slice A l.length c] w (MkS2 33 4 (flipL l).length ((flipL l).flatMap encMo) (goodMo l) w) := by
  cases hg : goodMo l
  · have e : flipL l = [] := by simp [flipL, hg]
    rw [e]
    clear e
    go_enter Try.func23, Try.ntmps23
    go_wp2_with (go_at_call 17; (with_reducible refine (iAreMo_any l _ _ _ hr hlen).mono ?_); rintro e w1 ⟨rfl, hb1⟩; obtain ⟨hc_hb1, hf_hb1, hz_hb1⟩ := bcell (B := w.heap.size) (by first | omega | (simp; done) | (simp; omega)) hb1)
    go_ret2
    exact ⟨none, 0, rfl, World.ownsRow_nil _ _ _ _, hb1⟩
  · have e : flipL l = l.map flipMo := by simp [flipL, hg]
    rw [e]
    clear e
    go_enter Try.func23, Try.ntmps23
    go_wp2_with (go_at_call 17; (with_reducible refine (iAreMo_any l _ _ _ hr hlen).mono ?_); rintro e w1 ⟨rfl, hb1⟩; obtain ⟨hc_hb1, hf_hb1, hz_hb1⟩ := bcell (B := w.heap.size) (by first | omega | (simp; done) | (simp; omega)) hb1)
    have hr1 := Lib.hid hr
    have HG := Lib.hid hg
    clear hr hg hc_hb1 hf_hb1
    go_loopw [4, 13] (fun v i wr => ∃ (k : Nat) (A' : Option Addr) (c' : Nat), k ≤ l.length ∧ i = .int .i64 k ∧ v = .slice A' k c' ∧ Below w.heap.size w wr ∧ wr.ownsRow w.heap.size 33 4 (.slice A' k c') k (((l.take k).map flipMo).flatMap encMo)) (fun _ i _ => l.length - (intOf i).toNat)
    case atStart => exact ⟨0, some ⟨w1.heap.size, 0, none⟩, 0, Nat.zero_le _, rfl, rfl, balloc hb1 _, own_base (own_made (cur := #[]) rfl (Nat.zero_le _)) hb1.size⟩
    case round =>
      obtain ⟨k, A', c', hk, rfl, rfl, hbr, hown⟩ := hrel
      by_cases hlt : k < l.length
      · obtain ⟨m, hm⟩ := some_get hlt
        have i0 := ib0 k
        have i1 := ib1 hlt
        obtain ⟨b, off, rfl, hb, q0, q1, q2, q3⟩ := (hr1.out.below hbr).mo hm
        have hs : -1 ≤ m.sg ∧ m.sg ≤ 1 := by have := oneMo_sign (goodMo_one HG.out hm); omega
        have HM := Lib.hid hm
        have HO := Lib.hid hown
        have hsz := hbr.size
        clear hm hown
        go_wp2_with (at_builtin; refine wpList_app rfl _ _ 25 33 4 32 _ rfl Try.underlying25 infoMo rfl (by decide) w.heap.size _ k _ (by rfl) ((HO.out.alloc _).alloc _) _ _ (by rfl) (heap_new2 _ _ _) rfl (encMo_one (flipMo m)) (by omega) (by decide) (by simp; omega) ?_; intro g2 c2 w2 ho2 hg2 hl2)
        go_roundw
        case rel => exact ⟨k + 1, _, c2, by omega, by go_num, rfl, bgrown (balloc (balloc hbr _) _) hg2 (fun k hk => by have := row_mine HO.out k hk; omega), by rw [map_take HM.out, flat_one]; exact ho2⟩
        case measure => simp [intOf]; omega
      · obtain rfl : k = l.length := by omega
        have HO := Lib.hid hown
        clear hown
        go_wp2
        go_ret2
        exact ⟨A', c', by simp, by simpa using HO.out, hbr⟩

set_option maxHeartbeats 1000000 in
theorem sflip_any (l : List Mo) (A : Option Addr) (c : Nat) (w : World) (hr : RowAt 4 encMo w A l) (hlen : l.length ≤ 2097152) :
    Calls Try.prog 22 #[.slice A l.length c] w (MkS2 33 4 (flipL l).length ((flipL l).flatMap encMo) (goodMo l) w) := by
  cases hg : goodMo l
  · have e : flipL l = [] := by simp [flipL, hg]
    rw [e]
    clear e
    go_enter Try.func22, Try.ntmps22
    go_wp2_with (go_at_call 53; (with_reducible refine (sgoodMo_any l _ _ _ (hr.below (balloc (bref _) _)) hlen).mono ?_); rintro e w1 ⟨rfl, hb1⟩; obtain ⟨hc_hb1, hf_hb1, hz_hb1⟩ := bcell (B := w.heap.size) (by first | omega | (simp; done) | (simp; omega)) hb1)
    go_ret2
    exact ⟨some ⟨w.heap.size, 0, none⟩, 0, rfl, own_below (own_made (cur := #[]) rfl (Nat.zero_le _)) hb1, (by repeat (first | exact bref _ | (refine balloc ?_ _) | (refine bdrew ?_) | (refine bdrewN ?_ _) | (refine bstep ?_ (by assumption))))⟩
  · have e : flipL l = l.map flipMo := by simp [flipL, hg]
    rw [e]
    clear e
    go_enter Try.func22, Try.ntmps22
    go_wp2_with (go_at_call 53; (with_reducible refine (sgoodMo_any l _ _ _ (hr.below (balloc (bref _) _)) hlen).mono ?_); rintro e w1 ⟨rfl, hb1⟩; obtain ⟨hc_hb1, hf_hb1, hz_hb1⟩ := bcell (B := w.heap.size) (by first | omega | (simp; done) | (simp; omega)) hb1)
    have hr1 := Lib.hid hr
    have HG := Lib.hid hg
    clear hr hg hc_hb1 hf_hb1
    go_loopw [4, 5] (fun v i wr => ∃ (k : Nat) (A' : Option Addr) (c' : Nat), k ≤ l.length ∧ i = .int .i64 k ∧ v = .slice A' k c' ∧ Below w.heap.size w wr ∧ wr.ownsRow w.heap.size 33 4 (.slice A' k c') k (((l.take k).map flipMo).flatMap encMo)) (fun _ i _ => l.length - (intOf i).toNat)
    case atStart => exact ⟨0, some ⟨w.heap.size, 0, none⟩, 0, Nat.zero_le _, rfl, rfl, bstep (balloc (bref _) _) hb1, own_below (own_made (cur := #[]) rfl (Nat.zero_le _)) hb1⟩
    case round =>
      obtain ⟨k, A', c', hk, rfl, rfl, hbr, hown⟩ := hrel
      by_cases hlt : k < l.length
      · obtain ⟨m, hm⟩ := some_get hlt
        have i0 := ib0 k
        have i1 := ib1 hlt
        obtain ⟨b, off, rfl, hb, q0, q1, q2, q3⟩ := (hr1.out.below hbr).mo hm
        have hs : -1 ≤ m.sg ∧ m.sg ≤ 1 := by have := oneMo_sign (goodMo_one HG.out hm); omega
        have HM := Lib.hid hm
        have HO := Lib.hid hown
        have hsz := hbr.size
        clear hm hown
        go_wp2_with (at_builtin; refine wpList_app rfl _ _ 25 33 4 32 _ rfl Try.underlying25 infoMo rfl (by decide) w.heap.size _ k _ (by rfl) ((HO.out.alloc _).alloc _) _ _ (by rfl) (heap_new2 _ _ _) rfl (encMo_one (flipMo m)) (by omega) (by decide) (by simp; omega) ?_; intro g2 c2 w2 ho2 hg2 hl2)
        go_roundw
        case rel => exact ⟨k + 1, _, c2, by omega, by go_num, rfl, bgrown (balloc (balloc hbr _) _) hg2 (fun k hk => by have := row_mine HO.out k hk; omega), by rw [map_take HM.out, flat_one]; exact ho2⟩
        case measure => simp [intOf]; omega
      · obtain rfl : k = l.length := by omega
        have HO := Lib.hid hown
        clear hown
        go_wp2
        go_ret2
        exact ⟨A', c', by simp, by simpa using HO.out, hbr⟩

def turnMo (m : Mo) : Mo := ⟨m.st, -m.y, m.x, m.sg⟩
def turnL (l : List Mo) : List Mo := if goodMo l then l.map turnMo else []

set_option maxHeartbeats 1000000 in
theorem iturn_any (l : List Mo) (A : Option Addr) (c : Nat) (w : World) (hr : RowAt 4 encMo w A l) (hlen : l.length ≤ 2097152) :
    Calls Try.prog 27 #[.slice A l.length c] w (MkS2 33 4 (turnL l).length ((turnL l).flatMap encMo) (goodMo l) w) := by
  cases hg : goodMo l
  · have e : turnL l = [] := by simp [turnL, hg]
    rw [e]
    clear e
    go_enter Try.func27, Try.ntmps27
    go_wp2_with (go_at_call 17; (with_reducible refine (iAreMo_any l _ _ _ hr hlen).mono ?_); rintro e w1 ⟨rfl, hb1⟩; obtain ⟨hc_hb1, hf_hb1, hz_hb1⟩ := bcell (B := w.heap.size) (by first | omega | (simp; done) | (simp; omega)) hb1)
    go_ret2
    exact ⟨none, 0, rfl, World.ownsRow_nil _ _ _ _, hb1⟩
  · have e : turnL l = l.map turnMo := by simp [turnL, hg]
    rw [e]
    clear e
    go_enter Try.func27, Try.ntmps27
    go_wp2_with (go_at_call 17; (with_reducible refine (iAreMo_any l _ _ _ hr hlen).mono ?_); rintro e w1 ⟨rfl, hb1⟩; obtain ⟨hc_hb1, hf_hb1, hz_hb1⟩ := bcell (B := w.heap.size) (by first | omega | (simp; done) | (simp; omega)) hb1)
    have hr1 := Lib.hid hr
    have HG := Lib.hid hg
    clear hr hg hc_hb1 hf_hb1
    go_loopw [4, 13] (fun v i wr => ∃ (k : Nat) (A' : Option Addr) (c' : Nat), k ≤ l.length ∧ i = .int .i64 k ∧ v = .slice A' k c' ∧ Below w.heap.size w wr ∧ wr.ownsRow w.heap.size 33 4 (.slice A' k c') k (((l.take k).map turnMo).flatMap encMo)) (fun _ i _ => l.length - (intOf i).toNat)
    case atStart => exact ⟨0, some ⟨w1.heap.size, 0, none⟩, 0, Nat.zero_le _, rfl, rfl, balloc hb1 _, own_base (own_made (cur := #[]) rfl (Nat.zero_le _)) hb1.size⟩
    case round =>
      obtain ⟨k, A', c', hk, rfl, rfl, hbr, hown⟩ := hrel
      by_cases hlt : k < l.length
      · obtain ⟨m, hm⟩ := some_get hlt
        have i0 := ib0 k
        have i1 := ib1 hlt
        obtain ⟨b, off, rfl, hb, q0, q1, q2, q3⟩ := (hr1.out.below hbr).mo hm
        have hs := (oneMo_bounds (goodMo_one HG.out hm)).2
        have HM := Lib.hid hm
        have HO := Lib.hid hown
        have hsz := hbr.size
        clear hm hown
        go_wp2_with (at_builtin; refine wpList_app rfl _ _ 25 33 4 32 _ rfl Try.underlying25 infoMo rfl (by decide) w.heap.size _ k _ (by rfl) ((HO.out.alloc _).alloc _) _ _ (by rfl) (heap_new2 _ _ _) rfl (encMo_one (turnMo m)) (by omega) (by decide) (by simp; omega) ?_; intro g2 c2 w2 ho2 hg2 hl2)
        go_roundw
        case rel => exact ⟨k + 1, _, c2, by omega, by go_num, rfl, bgrown (balloc (balloc hbr _) _) hg2 (fun k hk => by have := row_mine HO.out k hk; omega), by rw [map_take HM.out, flat_one]; exact ho2⟩
        case measure => simp [intOf]; omega
      · obtain rfl : k = l.length := by omega
        have HO := Lib.hid hown
        clear hown
        go_wp2
        go_ret2
        exact ⟨A', c', by simp, by simpa using HO.out, hbr⟩

set_option maxHeartbeats 1000000 in
theorem sturn_any (l : List Mo) (A : Option Addr) (c : Nat) (w : World) (hr : RowAt 4 encMo w A l) (hlen : l.length ≤ 2097152) :
    Calls Try.prog 26 #[.slice A l.length c] w (MkS2 33 4 (turnL l).length ((turnL l).flatMap encMo) (goodMo l) w) := by
  cases hg : goodMo l
  · have e : turnL l = [] := by simp [turnL, hg]
    rw [e]
    clear e
    go_enter Try.func26, Try.ntmps26
    go_wp2_with (go_at_call 53; (with_reducible refine (sgoodMo_any l _ _ _ (hr.below (balloc (bref _) _)) hlen).mono ?_); rintro e w1 ⟨rfl, hb1⟩; obtain ⟨hc_hb1, hf_hb1, hz_hb1⟩ := bcell (B := w.heap.size) (by first | omega | (simp; done) | (simp; omega)) hb1)
    go_ret2
    exact ⟨some ⟨w.heap.size, 0, none⟩, 0, rfl, own_below (own_made (cur := #[]) rfl (Nat.zero_le _)) hb1, (by repeat (first | exact bref _ | (refine balloc ?_ _) | (refine bdrew ?_) | (refine bdrewN ?_ _) | (refine bstep ?_ (by assumption))))⟩
  · have e : turnL l = l.map turnMo := by simp [turnL, hg]
    rw [e]
    clear e
    go_enter Try.func26, Try.ntmps26
    go_wp2_with (go_at_call 53; (with_reducible refine (sgoodMo_any l _ _ _ (hr.below (balloc (bref _) _)) hlen).mono ?_); rintro e w1 ⟨rfl, hb1⟩; obtain ⟨hc_hb1, hf_hb1, hz_hb1⟩ := bcell (B := w.heap.size) (by first | omega | (simp; done) | (simp; omega)) hb1)
    have hr1 := Lib.hid hr
    have HG := Lib.hid hg
    clear hr hg hc_hb1 hf_hb1
    go_loopw [4, 5] (fun v i wr => ∃ (k : Nat) (A' : Option Addr) (c' : Nat), k ≤ l.length ∧ i = .int .i64 k ∧ v = .slice A' k c' ∧ Below w.heap.size w wr ∧ wr.ownsRow w.heap.size 33 4 (.slice A' k c') k (((l.take k).map turnMo).flatMap encMo)) (fun _ i _ => l.length - (intOf i).toNat)
    case atStart => exact ⟨0, some ⟨w.heap.size, 0, none⟩, 0, Nat.zero_le _, rfl, rfl, bstep (balloc (bref _) _) hb1, own_below (own_made (cur := #[]) rfl (Nat.zero_le _)) hb1⟩
    case round =>
      obtain ⟨k, A', c', hk, rfl, rfl, hbr, hown⟩ := hrel
      by_cases hlt : k < l.length
      · obtain ⟨m, hm⟩ := some_get hlt
        have i0 := ib0 k
        have i1 := ib1 hlt
        obtain ⟨b, off, rfl, hb, q0, q1, q2, q3⟩ := (hr1.out.below hbr).mo hm
        have hs := (oneMo_bounds (goodMo_one HG.out hm)).2
        have HM := Lib.hid hm
        have HO := Lib.hid hown
        have hsz := hbr.size
        clear hm hown
        go_wp2_with (at_builtin; refine wpList_app rfl _ _ 25 33 4 32 _ rfl Try.underlying25 infoMo rfl (by decide) w.heap.size _ k _ (by rfl) ((HO.out.alloc _).alloc _) _ _ (by rfl) (heap_new2 _ _ _) rfl (encMo_one (turnMo m)) (by omega) (by decide) (by simp; omega) ?_; intro g2 c2 w2 ho2 hg2 hl2)
        go_roundw
        case rel => exact ⟨k + 1, _, c2, by omega, by go_num, rfl, bgrown (balloc (balloc hbr _) _) hg2 (fun k hk => by have := row_mine HO.out k hk; omega), by rw [map_take HM.out, flat_one]; exact ho2⟩
        case measure => simp [intOf]; omega
      · obtain rfl : k = l.length := by omega
        have HO := Lib.hid hown
        clear hown
        go_wp2
        go_ret2
        exact ⟨A', c', by simp, by simpa using HO.out, hbr⟩
end Go.Proofs.Ytefofllkeghfnaa
