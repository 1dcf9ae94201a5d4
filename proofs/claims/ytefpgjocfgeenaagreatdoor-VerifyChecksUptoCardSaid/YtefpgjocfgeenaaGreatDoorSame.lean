/- capstanbook.SameInts, SameNums, SameImage, asked of the same twice. -/
import Derived.Test.YtefpgjocfgeenaaGreatDoorCopy
namespace Go.Proofs.YtefpgjocfgeenaaGreatDoor
open Go.RowKit Cap
set_option maxRecDepth 100000

set_option maxHeartbeats 2000000 in
theorem sameInts_c (xs : List Int) (v1 v2 : Value) (w : World) (h1 : Sl encI 1 w v1 xs) (h2 : Sl encI 1 w v2 xs) :
    Calls Tryz.prog 37 #[v1, v2] w fun e w' => e = .returned (.bool true) ∧ Below w.heap.size w w' := by
  obtain ⟨A1, c1, rfl, l1, m1, hc1⟩ := h1
  obtain ⟨A2, c2, rfl, l2, m2, hc2⟩ := h2
  have HC1 := Lib.hid hc1
  have HC2 := Lib.hid hc2
  clear hc1 hc2
  go_enter Tryz.func37, Tryz.ntmps37
  go_wp2
  go_loopg [5] xs.length (fun gg s5 wr => ∃ k : Nat, s5 = .int .i64 k ∧ k ≤ xs.length ∧ xs.length - k ≤ gg ∧ Aside (Below w.heap.size w wr))
  case atStart => exact ⟨0, rfl, Nat.zero_le _, by omega, (show Aside _ from Below.refl _ _)⟩
  case round =>
    obtain ⟨k, rfl, hk, hg, HB⟩ := hrel
    have hB := HB.out
    by_cases hlt : k < xs.length
    · obtain ⟨a, ha⟩ : ∃ a, xs[k]? = some a := ⟨xs[k], List.getElem?_eq_getElem hlt⟩
      obtain ⟨b1, o1, rfl, hb1, hcx⟩ := HC1.out k a ha
      obtain ⟨b2, o2, rfl, hb2, hcy⟩ := HC2.out k a ha
      have e1 : wr.cell? ⟨b1, o1 + k, none⟩ = some (.int .i64 a) := (hB.cell (p := ⟨b1, o1 + k, none⟩) hb1).trans (by simpa using hcx 0 _ rfl)
      have e2 : wr.cell? ⟨b2, o2 + k, none⟩ = some (.int .i64 a) := (hB.cell (p := ⟨b2, o2 + k, none⟩) hb2).trans (by simpa using hcy 0 _ rfl)
      have hltz : (k : Int) < (xs.length : Int) := by omega
      have hk0 : (0 : Int) ≤ (k : Int) := Int.natCast_nonneg _
      clear hcx hcy ha
      go_upto_region 6 with fail
      go_quiet (fail)
      go_wp2
      go_roundg (xs.length - (k + 1))
      case measure => omega
      case rel => exact ⟨k + 1, by go_num, by omega, by omega, below_drewN hB⟩
    · obtain rfl : k = xs.length := by omega
      have hltz : ¬ (xs.length : Int) < (xs.length : Int) := by omega
      go_wp2
      go_ret
      exact ⟨rfl, by (repeat' (first | (with_reducible exact Below.refl _ _) | (with_reducible refine below_alloc ?_) | (with_reducible refine below_drew ?_) | (with_reducible refine below_drewN ?_) | (with_reducible refine below_set (by simp; omega) ?_) | (with_reducible refine below_call (by with_reducible assumption) ?_)))⟩
set_option maxHeartbeats 2000000 in
theorem sameNums_c (xs : List Int) (v1 v2 : Value) (w : World) (h1 : Sl encI 1 w v1 xs) (h2 : Sl encI 1 w v2 xs) :
    Calls Tryz.prog 38 #[v1, v2] w fun e w' => e = .returned (.bool true) ∧ Below w.heap.size w w' := by
  obtain ⟨A1, c1, rfl, l1, m1, hc1⟩ := h1
  obtain ⟨A2, c2, rfl, l2, m2, hc2⟩ := h2
  have HC1 := Lib.hid hc1
  have HC2 := Lib.hid hc2
  clear hc1 hc2
  go_enter Tryz.func38, Tryz.ntmps38
  go_wp2
  go_loopg [5] xs.length (fun gg s5 wr => ∃ k : Nat, s5 = .int .i64 k ∧ k ≤ xs.length ∧ xs.length - k ≤ gg ∧ Aside (Below w.heap.size w wr))
  case atStart => exact ⟨0, rfl, Nat.zero_le _, by omega, (show Aside _ from Below.refl _ _)⟩
  case round =>
    obtain ⟨k, rfl, hk, hg, HB⟩ := hrel
    have hB := HB.out
    by_cases hlt : k < xs.length
    · obtain ⟨a, ha⟩ : ∃ a, xs[k]? = some a := ⟨xs[k], List.getElem?_eq_getElem hlt⟩
      obtain ⟨b1, o1, rfl, hb1, hcx⟩ := HC1.out k a ha
      obtain ⟨b2, o2, rfl, hb2, hcy⟩ := HC2.out k a ha
      have e1 : wr.cell? ⟨b1, o1 + k, none⟩ = some (.int .i64 a) := (hB.cell (p := ⟨b1, o1 + k, none⟩) hb1).trans (by simpa using hcx 0 _ rfl)
      have e2 : wr.cell? ⟨b2, o2 + k, none⟩ = some (.int .i64 a) := (hB.cell (p := ⟨b2, o2 + k, none⟩) hb2).trans (by simpa using hcy 0 _ rfl)
      have hltz : (k : Int) < (xs.length : Int) := by omega
      have hk0 : (0 : Int) ≤ (k : Int) := Int.natCast_nonneg _
      clear hcx hcy ha
      go_upto_region 6 with fail
      go_quiet (fail)
      go_wp2
      go_roundg (xs.length - (k + 1))
      case measure => omega
      case rel => exact ⟨k + 1, by go_num, by omega, by omega, below_drewN hB⟩
    · obtain rfl : k = xs.length := by omega
      have hltz : ¬ (xs.length : Int) < (xs.length : Int) := by omega
      go_wp2
      go_ret
      exact ⟨rfl, by (repeat' (first | (with_reducible exact Below.refl _ _) | (with_reducible refine below_alloc ?_) | (with_reducible refine below_drew ?_) | (with_reducible refine below_drewN ?_) | (with_reducible refine below_set (by simp; omega) ?_) | (with_reducible refine below_call (by with_reducible assumption) ?_)))⟩
set_option maxHeartbeats 4000000 in
theorem sameImage_c (x : Img) (v1 v2 : Value) (w : World) (h1 : ImgV w v1 x) (h2 : ImgV w v2 x) :
    Calls Tryz.prog 17 #[v1, v2] w fun e w' => e = .returned (.bool true) ∧ Below w.heap.size w w' := by
  obtain ⟨t1, f1, i1, o1, c1, rfl, a1, a2, a3, a4, a5⟩ := h1
  obtain ⟨t2, f2, i2, o2, c2, rfl, b1, b2, b3, b4, b5⟩ := h2
  have H1 := Lib.hid (fun W (hW : Below w.heap.size w W) => sameInts_c x.types t1 t2 W (a1.below hW) (b1.below hW))
  have H2 := Lib.hid (fun W (hW : Below w.heap.size w W) => sameNums_c x.first f1 f2 W (a2.below hW) (b2.below hW))
  have H3 := Lib.hid (fun W (hW : Below w.heap.size w W) => sameInts_c x.ins i1 i2 W (a3.below hW) (b3.below hW))
  have H4 := Lib.hid (fun W (hW : Below w.heap.size w W) => sameInts_c x.outs o1 o2 W (a4.below hW) (b4.below hW))
  obtain ⟨A1, n1, rfl, l1, m1, hc1⟩ := a5
  obtain ⟨A2, n2, rfl, l2, m2, hc2⟩ := b5
  have HC1 := Lib.hid hc1
  have HC2 := Lib.hid hc2
  clear a1 a2 a3 a4 b1 b2 b3 b4 hc1 hc2
  go_enter Tryz.func17, Tryz.ntmps17
  go_wp2_with (first
    | (go_at_call 37; first
        | (refine (H1.out _ (by (repeat' (first | (with_reducible exact Below.refl _ _) | (with_reducible refine below_alloc ?_) | (with_reducible refine below_drew ?_) | (with_reducible refine below_drewN ?_) | (with_reducible refine below_set (by simp; omega) ?_) | (with_reducible refine below_call (by with_reducible assumption) ?_))))).mono ?_; clear H1; rintro e w1 ⟨rfl, hb1⟩; obtain ⟨hc1, hf1⟩ := bcell hb1; have hz1 := hb1.size; (try simp at hz1); (try have hw01 : w.heap.size < w1.heap.size := by omega); (try have hw11 : w.heap.size + 1 < w1.heap.size := by omega); (try have hw21 : w.heap.size + 1 + 1 < w1.heap.size := by omega))
        | (refine (H3.out _ (by (repeat' (first | (with_reducible exact Below.refl _ _) | (with_reducible refine below_alloc ?_) | (with_reducible refine below_drew ?_) | (with_reducible refine below_drewN ?_) | (with_reducible refine below_set (by simp; omega) ?_) | (with_reducible refine below_call (by with_reducible assumption) ?_))))).mono ?_; clear H3; rintro e w3 ⟨rfl, hb3⟩; obtain ⟨hc3, hf3⟩ := bcell hb3; have hz3 := hb3.size; (try simp at hz3); (try have hw03 : w.heap.size < w3.heap.size := by omega); (try have hw13 : w.heap.size + 1 < w3.heap.size := by omega); (try have hw23 : w.heap.size + 1 + 1 < w3.heap.size := by omega))
        | (refine (H4.out _ (by (repeat' (first | (with_reducible exact Below.refl _ _) | (with_reducible refine below_alloc ?_) | (with_reducible refine below_drew ?_) | (with_reducible refine below_drewN ?_) | (with_reducible refine below_set (by simp; omega) ?_) | (with_reducible refine below_call (by with_reducible assumption) ?_))))).mono ?_; clear H4; rintro e w4 ⟨rfl, hb4⟩; obtain ⟨hc4, hf4⟩ := bcell hb4; have hz4 := hb4.size; (try simp at hz4); (try have hw04 : w.heap.size < w4.heap.size := by omega); (try have hw14 : w.heap.size + 1 < w4.heap.size := by omega); (try have hw24 : w.heap.size + 1 + 1 < w4.heap.size := by omega)))
    | (go_at_call 38; refine (H2.out _ (by (repeat' (first | (with_reducible exact Below.refl _ _) | (with_reducible refine below_alloc ?_) | (with_reducible refine below_drew ?_) | (with_reducible refine below_drewN ?_) | (with_reducible refine below_set (by simp; omega) ?_) | (with_reducible refine below_call (by with_reducible assumption) ?_))))).mono ?_; rintro e w2 ⟨rfl, hb2⟩; obtain ⟨hc2, hf2⟩ := bcell hb2; have hz2 := hb2.size; (try simp at hz2); (try have hw02 : w.heap.size < w2.heap.size := by omega); (try have hw12 : w.heap.size + 1 < w2.heap.size := by omega); (try have hw22 : w.heap.size + 1 + 1 < w2.heap.size := by omega)))
  have hB4 := below_call hb4 (below_call hb3 (below_call hb2 hb1))
  have r1 : ((w.alloc (.cells #[.string x.name, t1, f1, i1, o1, .slice A1 x.code.length n1] 26)).alloc (.cells #[.string x.name, t2, f2, i2, o2, .slice A2 x.code.length n2] 26)).heap[w.heap.size]? = some (.cells #[.string x.name, t1, f1, i1, o1, .slice A1 x.code.length n1] 26 (0, 0)) := (heap_alloc_old _ _ (by simp)).trans (heap_alloc_new _ _)
  have r2 : ((w.alloc (.cells #[.string x.name, t1, f1, i1, o1, .slice A1 x.code.length n1] 26)).alloc (.cells #[.string x.name, t2, f2, i2, o2, .slice A2 x.code.length n2] 26)).heap[w.heap.size + 1]? = some (.cells #[.string x.name, t2, f2, i2, o2, .slice A2 x.code.length n2] 26 (0, 0)) := by
    have h := heap_alloc_new (w.alloc (.cells #[.string x.name, t1, f1, i1, o1, .slice A1 x.code.length n1] 26)) (.cells #[.string x.name, t2, f2, i2, o2, .slice A2 x.code.length n2] 26)
    simpa using h
  have y1 := cell_of_row _ _ 5 _ _ _ ((hB4.block _ (by simp; omega)).trans r1)
  have y2 := cell_of_row _ _ 5 _ _ _ ((hB4.block _ (by simp)).trans r2)
  simp at y1 y2
  have hBW : Below w.heap.size w w4 := by (repeat' (first | (with_reducible exact Below.refl _ _) | (with_reducible refine below_alloc ?_) | (with_reducible refine below_drew ?_) | (with_reducible refine below_drewN ?_) | (with_reducible refine below_set (by simp; omega) ?_) | (with_reducible refine below_call (by with_reducible assumption) ?_)))
  have HBW := Lib.hid hBW
  have hs4 := hBW.size
  have hl1 : w.heap.size < w4.heap.size := hw04
  clear hB4 r1 r2 hb1 hb2 hb3 hb4 hBW
  go_loopg [5] x.code.length (fun gg s5 wr => ∃ k : Nat, s5 = .int .i64 k ∧ k ≤ x.code.length ∧ x.code.length - k ≤ gg ∧ Aside (Below w4.heap.size w4 wr))
  case atStart => exact ⟨0, rfl, Nat.zero_le _, by omega, (show Aside _ from Below.refl _ _)⟩
  case round =>
    obtain ⟨k, rfl, hk, hg, HB⟩ := hrel
    have hB := HB.out
    have d1 : wr.cell? ⟨w.heap.size, 5, none⟩ = some (.slice A1 x.code.length n1) := (hB.cell (p := ⟨w.heap.size, 5, none⟩) hw04).trans y1
    have d2 : wr.cell? ⟨w.heap.size + 1, 5, none⟩ = some (.slice A2 x.code.length n2) := (hB.cell (p := ⟨w.heap.size + 1, 5, none⟩) hw14).trans y2
    have hBr := below_call hB HBW.out
    by_cases hlt : k < x.code.length
    · obtain ⟨i, hi⟩ : ∃ i, x.code[k]? = some i := ⟨x.code[k], List.getElem?_eq_getElem hlt⟩
      obtain ⟨b1, p1, rfl, hb1, hcx⟩ := HC1.out k i hi
      obtain ⟨b2, p2, rfl, hb2, hcy⟩ := HC2.out k i hi
      have c0 : wr.cell? ⟨b1, p1 + k * 4, none⟩ = some (.int .i64 i.op) := (hBr.cell (p := ⟨b1, p1 + k * 4, none⟩) hb1).trans (by simpa using hcx 0 _ rfl)
      have c1 : wr.cell? ⟨b1, p1 + k * 4 + 1, none⟩ = some (.int .i64 i.a) := (hBr.cell (p := ⟨b1, p1 + k * 4 + 1, none⟩) hb1).trans (by simpa using hcx 1 _ rfl)
      have c2 : wr.cell? ⟨b1, p1 + k * 4 + 2, none⟩ = some (.int .i64 i.b) := (hBr.cell (p := ⟨b1, p1 + k * 4 + 2, none⟩) hb1).trans (by simpa using hcx 2 _ rfl)
      have c3 : wr.cell? ⟨b1, p1 + k * 4 + 3, none⟩ = some (.int .i64 i.n) := (hBr.cell (p := ⟨b1, p1 + k * 4 + 3, none⟩) hb1).trans (by simpa using hcx 3 _ rfl)
      have g0 : wr.cell? ⟨b2, p2 + k * 4, none⟩ = some (.int .i64 i.op) := (hBr.cell (p := ⟨b2, p2 + k * 4, none⟩) hb2).trans (by simpa using hcy 0 _ rfl)
      have g1 : wr.cell? ⟨b2, p2 + k * 4 + 1, none⟩ = some (.int .i64 i.a) := (hBr.cell (p := ⟨b2, p2 + k * 4 + 1, none⟩) hb2).trans (by simpa using hcy 1 _ rfl)
      have g2 : wr.cell? ⟨b2, p2 + k * 4 + 2, none⟩ = some (.int .i64 i.b) := (hBr.cell (p := ⟨b2, p2 + k * 4 + 2, none⟩) hb2).trans (by simpa using hcy 2 _ rfl)
      have g3 : wr.cell? ⟨b2, p2 + k * 4 + 3, none⟩ = some (.int .i64 i.n) := (hBr.cell (p := ⟨b2, p2 + k * 4 + 3, none⟩) hb2).trans (by simpa using hcy 3 _ rfl)
      have hltz : (k : Int) < (x.code.length : Int) := by omega
      have hk0 : (0 : Int) ≤ (k : Int) := Int.natCast_nonneg _
      clear hcx hcy hi hBr
      go_upto_region 6 with fail
      go_quiet (fail)
      go_wp2
      go_roundg (x.code.length - (k + 1))
      case measure => omega
      case rel => exact ⟨k + 1, by go_num, by omega, by omega, below_drewN hB⟩
    · obtain rfl : k = x.code.length := by omega
      have hltz : ¬ (x.code.length : Int) < (x.code.length : Int) := by omega
      go_wp2
      go_ret
      exact ⟨rfl, hBr⟩
end Go.Proofs.YtefpgjocfgeenaaGreatDoor
