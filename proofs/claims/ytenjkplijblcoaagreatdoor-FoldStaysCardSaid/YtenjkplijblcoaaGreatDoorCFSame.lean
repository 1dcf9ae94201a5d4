/- capstanbook.SameParts, of the same parts. -/
import Derived.Test.YtenjkplijblcoaaGreatDoorCFNamesC
set_option linter.unusedSimpArgs false
set_option linter.unusedVariables false
namespace Go.Proofs.YtenjkplijblcoaaGreatDoor
open Go.RowKit Cap
set_option maxRecDepth 100000

set_option maxHeartbeats 4000000 in
theorem same_c (x : List Prt) (v v' : Value) (w : World) (h : Sl encPrt 5 w v x) (h' : Sl encPrt 5 w v' x) :
    Calls Tryz.prog 13 #[v, v'] w fun e w' => e = .returned (.bool true) ∧ Below w.heap.size w w' := by
  obtain ⟨A, c, rfl, h1, h2, h3⟩ := h
  obtain ⟨A', c', rfl, h1', h2', h3'⟩ := h'
  have HC := Lib.hid h3
  have HC' := Lib.hid h3'
  have HL := Lib.hid (show ∀ k, k < x.length → ∃ s, x[k]? = some s from fun k hk => ⟨x[k], List.getElem?_eq_getElem hk⟩)
  obtain ⟨L, hL⟩ : ∃ L, x.length = L := ⟨_, rfl⟩
  have hmax : L ≤ 9223372036854775807 := by omega
  rw [hL] at HL ⊢
  clear h1 h2 h3 h1' h2' h3' hL
  go_enter Tryz.func13, Tryz.ntmps13
  go_wp2
  go_loopg [5] L (fun gg s5 wr => ∃ k : Nat, s5 = .int .i64 k ∧ k ≤ L ∧ L - k ≤ gg ∧ Aside (Below w.heap.size w wr))
  case atStart => exact ⟨0, rfl, Nat.zero_le _, by omega, (show Below w.heap.size w _ from by (repeat' (first | (with_reducible exact Below.refl _ _) | (with_reducible refine below_alloc ?_) | (with_reducible refine below_drew ?_) | (with_reducible refine below_drewN ?_) | (with_reducible refine below_set (by first | (simp; done) | (simp; omega)) ?_) | (with_reducible refine below_call (by with_reducible assumption) ?_))))⟩
  case round =>
    obtain ⟨k, rfl, hk, hg, HB⟩ := hrel
    by_cases hlt : k < L
    · obtain ⟨p, hp⟩ := HL.out k hlt
      obtain ⟨b, o, rfl, hb, hx⟩ := HC.out k p hp
      obtain ⟨b', o', rfl, hd, hy⟩ := HC'.out k p hp
      have hB := HB.out
      have a0 : wr.cell? ⟨b, o + k * 5, none⟩ = some (.int .i64 p.k) := (hB.cell (p := ⟨b, o + k * 5, none⟩) hb).trans (by simpa using hx 0 _ rfl)
      have a1 : wr.cell? ⟨b, o + k * 5 + 1, none⟩ = some (.int .i64 p.n) := (hB.cell (p := ⟨b, o + k * 5 + 1, none⟩) hb).trans (by simpa using hx 1 _ rfl)
      have a2 : wr.cell? ⟨b, o + k * 5 + 2, none⟩ = some (.int .i64 p.t) := (hB.cell (p := ⟨b, o + k * 5 + 2, none⟩) hb).trans (by simpa using hx 2 _ rfl)
      have a3 : wr.cell? ⟨b, o + k * 5 + 3, none⟩ = some (.string p.s) := (hB.cell (p := ⟨b, o + k * 5 + 3, none⟩) hb).trans (by simpa using hx 3 _ rfl)
      have a4 : wr.cell? ⟨b, o + k * 5 + 4, none⟩ = some (.string p.f) := (hB.cell (p := ⟨b, o + k * 5 + 4, none⟩) hb).trans (by simpa using hx 4 _ rfl)
      have d0 : wr.cell? ⟨b', o' + k * 5, none⟩ = some (.int .i64 p.k) := (hB.cell (p := ⟨b', o' + k * 5, none⟩) hd).trans (by simpa using hy 0 _ rfl)
      have d1 : wr.cell? ⟨b', o' + k * 5 + 1, none⟩ = some (.int .i64 p.n) := (hB.cell (p := ⟨b', o' + k * 5 + 1, none⟩) hd).trans (by simpa using hy 1 _ rfl)
      have d2 : wr.cell? ⟨b', o' + k * 5 + 2, none⟩ = some (.int .i64 p.t) := (hB.cell (p := ⟨b', o' + k * 5 + 2, none⟩) hd).trans (by simpa using hy 2 _ rfl)
      have d3 : wr.cell? ⟨b', o' + k * 5 + 3, none⟩ = some (.string p.s) := (hB.cell (p := ⟨b', o' + k * 5 + 3, none⟩) hd).trans (by simpa using hy 3 _ rfl)
      have d4 : wr.cell? ⟨b', o' + k * 5 + 4, none⟩ = some (.string p.f) := (hB.cell (p := ⟨b', o' + k * 5 + 4, none⟩) hd).trans (by simpa using hy 4 _ rfl)
      have hltz : (k : Int) < (L : Int) := by omega
      have hk0 : (0 : Int) ≤ (k : Int) := Int.natCast_nonneg _
      clear hx hy hp hB HC HC'
      go_upto_region 6 with fail
      go_region_held3 (fun W => W.cell? ⟨b, o + k * 5, none⟩ = some (.int .i64 p.k) ∧ W.cell? ⟨b, o + k * 5 + 1, none⟩ = some (.int .i64 p.n) ∧ W.cell? ⟨b, o + k * 5 + 2, none⟩ = some (.int .i64 p.t) ∧ W.cell? ⟨b, o + k * 5 + 3, none⟩ = some (.string p.s) ∧ W.cell? ⟨b, o + k * 5 + 4, none⟩ = some (.string p.f) ∧ W.cell? ⟨b', o' + k * 5, none⟩ = some (.int .i64 p.k) ∧ W.cell? ⟨b', o' + k * 5 + 1, none⟩ = some (.int .i64 p.n) ∧ W.cell? ⟨b', o' + k * 5 + 2, none⟩ = some (.int .i64 p.t) ∧ W.cell? ⟨b', o' + k * 5 + 3, none⟩ = some (.string p.s) ∧ W.cell? ⟨b', o' + k * 5 + 4, none⟩ = some (.string p.f)) (first | exact ⟨a0, a1, a2, a3, a4, d0, d1, d2, d3, d4⟩) (first | fail)
      go_wp2
      go_roundg (L - (k + 1))
      case measure => omega
      case rel =>
        exact ⟨k + 1, by go_num, by omega, by omega, (show Below w.heap.size w _ from below_call (by (repeat' (first | (with_reducible exact Below.refl _ _) | (with_reducible refine below_alloc ?_) | (with_reducible refine below_drew ?_) | (with_reducible refine below_drewN ?_) | (with_reducible refine below_set (by first | (simp; done) | (simp; omega)) ?_) | (with_reducible refine below_call (by with_reducible assumption) ?_)))) HB.out)⟩
    · obtain rfl : k = L := by omega
      have hltz : ¬ (k : Int) < (k : Int) := by omega
      go_wp2
      go_ret
      exact ⟨rfl, below_call (by (repeat' (first | (with_reducible exact Below.refl _ _) | (with_reducible refine below_alloc ?_) | (with_reducible refine below_drew ?_) | (with_reducible refine below_drewN ?_) | (with_reducible refine below_set (by first | (simp; done) | (simp; omega)) ?_) | (with_reducible refine below_call (by with_reducible assumption) ?_)))) HB.out⟩
end Go.Proofs.YtenjkplijblcoaaGreatDoor
