/- capstanbook.SameParts: are parts the same? -/
import Derived.Test.YtbnelgniekcjdaaGreatDoorCEPLaw
import Derived.Test.YtbnelgniekcjdaaGreatDoorCFBase
import Derived.Test.YtbnelgniekcjdaaGreatDoorCKit
import Derived.Test.YtbnelgniekcjdaaGreatDoorCGenP
set_option linter.unusedSimpArgs false
set_option linter.unusedVariables false
namespace Cap
open Go Go.RowKit
def prtEq (p q : Prt) : Bool := p.k == q.k && (p.n == q.n && (p.t == q.t && (eqB p.s q.s && eqB p.f q.f)))
/-- Are parts the same? -/
def sameP : List Prt → List Prt → Bool
  | [], [] => true
  | p :: x, q :: y => prtEq p q && sameP x y
  | _, _ => false
theorem eqB_refl (s : ByteArray) : eqB s s = true := by unfold eqB; simp
theorem eqB_eq {a b : ByteArray} (h : eqB a b = true) : a = b := by
  unfold eqB at h
  rw [beq_iff_eq, Lib.toList_data, Lib.toList_data] at h
  cases a
  cases b
  congr 1
  exact Array.toList_inj.1 h
theorem prtEq_iff {p q : Prt} : prtEq p q = true ↔ p = q := by
  constructor
  · intro h
    unfold prtEq at h
    simp only [Bool.and_eq_true, beq_iff_eq] at h
    obtain ⟨h1, h2, h3, h4, h5⟩ := h
    cases p; cases q
    simp only at h1 h2 h3 h4 h5
    rw [h1, h2, h3, eqB_eq h4, eqB_eq h5]
  · rintro rfl
    unfold prtEq
    simp [eqB_refl]
theorem sameP_iff : ∀ {x y : List Prt}, sameP x y = true ↔ x = y
  | [], [] => by simp [sameP]
  | [], _ :: _ => by simp [sameP]
  | _ :: _, [] => by simp [sameP]
  | p :: x, q :: y => by
    rw [sameP, Bool.and_eq_true, prtEq_iff, sameP_iff, List.cons.injEq]
theorem sameP_refl (x : List Prt) : sameP x x = true := sameP_iff.2 rfl
theorem sameP_len {x y : List Prt} (h : x.length ≠ y.length) : sameP x y = false := by
  cases hs : sameP x y with
  | false => rfl
  | true => exact absurd (congrArg List.length (sameP_iff.1 hs)) h
end Cap
namespace Go.Proofs.YtbnelgniekcjdaaGreatDoor
open Go.RowKit Cap
set_option maxRecDepth 100000

set_option maxHeartbeats 4000000 in
theorem samep_c (x y : List Prt) (v v' : Value) (w : World) (h : Sl encPrt 5 w v x) (h' : Sl encPrt 5 w v' y) :
    Calls Tryz.prog 9 #[v, v'] w fun e w' => e = .returned (.bool (sameP x y)) ∧ Below w.heap.size w w' := by
  obtain ⟨A, c, rfl, h1, h2, h3⟩ := h
  obtain ⟨A', c', rfl, h1', h2', h3'⟩ := h'
  by_cases hlen : x.length = y.length
  rotate_left
  · have hR := sameP_len hlen
    rw [hR]
    have hne : ((x.length : Int) != (y.length : Int)) = true := by
      rw [bne_iff_ne]
      omega
    clear h3 h3'
    go_enter Tryz.func9, Tryz.ntmps9
    go_wp2
    go_ret
    exact ⟨rfl, by (repeat' (first | (with_reducible exact Below.refl _ _) | (with_reducible refine below_alloc ?_) | (with_reducible refine below_drew ?_) | (with_reducible refine below_drewN ?_) | (with_reducible refine below_set (by first | (simp; done) | (simp; omega)) ?_) | (with_reducible refine below_call (by with_reducible assumption) ?_)))⟩
  have HC := Lib.hid h3
  have HC' := Lib.hid h3'
  have HL := Lib.hid (show ∀ k, k < x.length → ∃ p q, x[k]? = some p ∧ y[k]? = some q ∧ sameP (x.drop k) (y.drop k) = (prtEq p q && sameP (x.drop (k + 1)) (y.drop (k + 1))) from fun k hk =>
    ⟨x[k], y[k]'(by omega), List.getElem?_eq_getElem hk, List.getElem?_eq_getElem (by omega), by rw [drop_cons (List.getElem?_eq_getElem hk), drop_cons (List.getElem?_eq_getElem (show k < y.length by omega)), sameP]⟩)
  have HEND := Lib.hid (show sameP (x.drop x.length) (y.drop x.length) = true by rw [List.drop_length, hlen, List.drop_length]; rfl)
  have HZ := Lib.hid (show sameP (x.drop 0) (y.drop 0) = sameP x y from rfl)
  obtain ⟨L, hL⟩ : ∃ L, x.length = L := ⟨_, rfl⟩
  have hmax : L ≤ 9223372036854775807 := by omega
  rw [← hlen]
  rw [hL] at HL HEND ⊢
  generalize sameP x y = Z at HZ ⊢
  clear h1 h2 h3 h1' h2' h3' hL hlen
  go_enter Tryz.func9, Tryz.ntmps9
  go_wp2
  go_loopg [5] L (fun gg s5 wr => ∃ k : Nat, s5 = .int .i64 k ∧ k ≤ L ∧ L - k ≤ gg ∧ Aside (Below w.heap.size w wr) ∧ Aside (sameP (x.drop k) (y.drop k) = Z))
  case atStart => exact ⟨0, rfl, Nat.zero_le _, by omega, (show Below w.heap.size w _ from by (repeat' (first | (with_reducible exact Below.refl _ _) | (with_reducible refine below_alloc ?_) | (with_reducible refine below_drew ?_) | (with_reducible refine below_drewN ?_) | (with_reducible refine below_set (by first | (simp; done) | (simp; omega)) ?_) | (with_reducible refine below_call (by with_reducible assumption) ?_)))), HZ.out⟩
  case round =>
    obtain ⟨k, rfl, hk, hg, HB, HS⟩ := hrel
    by_cases hlt : k < L
    · obtain ⟨p, q, hp, hq, hst⟩ := HL.out k hlt
      obtain ⟨b, o, rfl, hb, hx⟩ := HC.out k p hp
      obtain ⟨b', o', rfl, hd, hy⟩ := HC'.out k q hq
      have hB := HB.out
      have a0 : wr.cell? ⟨b, o + k * 5, none⟩ = some (.int .i64 p.k) := (hB.cell (p := ⟨b, o + k * 5, none⟩) hb).trans (by simpa using hx 0 _ rfl)
      have a1 : wr.cell? ⟨b, o + k * 5 + 1, none⟩ = some (.int .i64 p.n) := (hB.cell (p := ⟨b, o + k * 5 + 1, none⟩) hb).trans (by simpa using hx 1 _ rfl)
      have a2 : wr.cell? ⟨b, o + k * 5 + 2, none⟩ = some (.int .i64 p.t) := (hB.cell (p := ⟨b, o + k * 5 + 2, none⟩) hb).trans (by simpa using hx 2 _ rfl)
      have a3 : wr.cell? ⟨b, o + k * 5 + 3, none⟩ = some (.string p.s) := (hB.cell (p := ⟨b, o + k * 5 + 3, none⟩) hb).trans (by simpa using hx 3 _ rfl)
      have a4 : wr.cell? ⟨b, o + k * 5 + 4, none⟩ = some (.string p.f) := (hB.cell (p := ⟨b, o + k * 5 + 4, none⟩) hb).trans (by simpa using hx 4 _ rfl)
      have d0 : wr.cell? ⟨b', o' + k * 5, none⟩ = some (.int .i64 q.k) := (hB.cell (p := ⟨b', o' + k * 5, none⟩) hd).trans (by simpa using hy 0 _ rfl)
      have d1 : wr.cell? ⟨b', o' + k * 5 + 1, none⟩ = some (.int .i64 q.n) := (hB.cell (p := ⟨b', o' + k * 5 + 1, none⟩) hd).trans (by simpa using hy 1 _ rfl)
      have d2 : wr.cell? ⟨b', o' + k * 5 + 2, none⟩ = some (.int .i64 q.t) := (hB.cell (p := ⟨b', o' + k * 5 + 2, none⟩) hd).trans (by simpa using hy 2 _ rfl)
      have d3 : wr.cell? ⟨b', o' + k * 5 + 3, none⟩ = some (.string q.s) := (hB.cell (p := ⟨b', o' + k * 5 + 3, none⟩) hd).trans (by simpa using hy 3 _ rfl)
      have d4 : wr.cell? ⟨b', o' + k * 5 + 4, none⟩ = some (.string q.f) := (hB.cell (p := ⟨b', o' + k * 5 + 4, none⟩) hd).trans (by simpa using hy 4 _ rfl)
      have hltz : (k : Int) < (L : Int) := by omega
      have hk0 : (0 : Int) ≤ (k : Int) := Int.natCast_nonneg _
      have HST := Lib.hid (show (prtEq p q && sameP (x.drop (k + 1)) (y.drop (k + 1))) = Z from hst ▸ HS.out)
      have hdef : prtEq p q = (p.k == q.k && (p.n == q.n && (p.t == q.t && ((p.s.toList == q.s.toList) && (p.f.toList == q.f.toList))))) := rfl
      have HDF := Lib.hid hdef
      clear hx hy hp hq hB HC HC' hst hdef
      cases hpq : prtEq p q with
      | true =>
        obtain rfl := prtEq_iff.1 hpq
        have HN := Lib.hid (show sameP (x.drop (k + 1)) (y.drop (k + 1)) = Z from by rw [← HST.out, hpq]; rfl)
        clear hpq
        go_upto_region 6 with fail
        go_region_held3 (fun W => W.cell? ⟨b, o + k * 5, none⟩ = some (.int .i64 p.k) ∧ W.cell? ⟨b, o + k * 5 + 1, none⟩ = some (.int .i64 p.n) ∧ W.cell? ⟨b, o + k * 5 + 2, none⟩ = some (.int .i64 p.t) ∧ W.cell? ⟨b, o + k * 5 + 3, none⟩ = some (.string p.s) ∧ W.cell? ⟨b, o + k * 5 + 4, none⟩ = some (.string p.f) ∧ W.cell? ⟨b', o' + k * 5, none⟩ = some (.int .i64 p.k) ∧ W.cell? ⟨b', o' + k * 5 + 1, none⟩ = some (.int .i64 p.n) ∧ W.cell? ⟨b', o' + k * 5 + 2, none⟩ = some (.int .i64 p.t) ∧ W.cell? ⟨b', o' + k * 5 + 3, none⟩ = some (.string p.s) ∧ W.cell? ⟨b', o' + k * 5 + 4, none⟩ = some (.string p.f)) (first | exact ⟨a0, a1, a2, a3, a4, d0, d1, d2, d3, d4⟩) (first | fail)
        go_wp2
        go_roundg (L - (k + 1))
        case measure => omega
        case rel =>
          exact ⟨k + 1, by go_num, by omega, by omega, (show Below w.heap.size w _ from below_call (by (repeat' (first | (with_reducible exact Below.refl _ _) | (with_reducible refine below_alloc ?_) | (with_reducible refine below_drew ?_) | (with_reducible refine below_drewN ?_) | (with_reducible refine below_set (by first | (simp; done) | (simp; omega)) ?_) | (with_reducible refine below_call (by with_reducible assumption) ?_)))) HB.out), HN.out⟩
      | false =>
        have HN := Lib.hid (show Z = false from by rw [← HST.out, hpq]; rfl)
        rw [HDF.out] at hpq
        have hor : (p.k == q.k) = false ∨ ((p.k == q.k) = true ∧ ((p.n == q.n) = false ∨ ((p.n == q.n) = true ∧ ((p.t == q.t) = false ∨ ((p.t == q.t) = true ∧ ((p.s.toList == q.s.toList) = false ∨ ((p.s.toList == q.s.toList) = true ∧ (p.f.toList == q.f.toList) = false))))))) := by
          simp only [Bool.and_eq_false_iff] at hpq
          cases h1 : (p.k == q.k) <;> cases h2 : (p.n == q.n) <;> cases h3 : (p.t == q.t) <;> cases h4 : (p.s.toList == q.s.toList) <;> cases h5 : (p.f.toList == q.f.toList) <;> simp_all
        clear hpq
        rcases hor with h1 | ⟨h1, h2 | ⟨h2, h3 | ⟨h3, h4 | ⟨h4, h5⟩⟩⟩⟩
        all_goals
          go_upto_region 6 with fail
          go_region_held3 (fun W => W.cell? ⟨b, o + k * 5, none⟩ = some (.int .i64 p.k) ∧ W.cell? ⟨b, o + k * 5 + 1, none⟩ = some (.int .i64 p.n) ∧ W.cell? ⟨b, o + k * 5 + 2, none⟩ = some (.int .i64 p.t) ∧ W.cell? ⟨b, o + k * 5 + 3, none⟩ = some (.string p.s) ∧ W.cell? ⟨b, o + k * 5 + 4, none⟩ = some (.string p.f) ∧ W.cell? ⟨b', o' + k * 5, none⟩ = some (.int .i64 q.k) ∧ W.cell? ⟨b', o' + k * 5 + 1, none⟩ = some (.int .i64 q.n) ∧ W.cell? ⟨b', o' + k * 5 + 2, none⟩ = some (.int .i64 q.t) ∧ W.cell? ⟨b', o' + k * 5 + 3, none⟩ = some (.string q.s) ∧ W.cell? ⟨b', o' + k * 5 + 4, none⟩ = some (.string q.f)) (first | exact ⟨a0, a1, a2, a3, a4, d0, d1, d2, d3, d4⟩) (first | fail)
          go_wp2
          go_ret
          exact ⟨by rw [HN.out]; rfl, below_call (by (repeat' (first | (with_reducible exact Below.refl _ _) | (with_reducible refine below_alloc ?_) | (with_reducible refine below_drew ?_) | (with_reducible refine below_drewN ?_) | (with_reducible refine below_set (by first | (simp; done) | (simp; omega)) ?_) | (with_reducible refine below_call (by with_reducible assumption) ?_)))) HB.out⟩
    · obtain rfl : k = L := by omega
      have hltz : ¬ (k : Int) < (k : Int) := by omega
      have HN := Lib.hid (show Z = true from by rw [← HS.out]; exact HEND.out)
      go_wp2
      go_ret
      exact ⟨by rw [HN.out]; rfl, below_call (by (repeat' (first | (with_reducible exact Below.refl _ _) | (with_reducible refine below_alloc ?_) | (with_reducible refine below_drew ?_) | (with_reducible refine below_drewN ?_) | (with_reducible refine below_set (by first | (simp; done) | (simp; omega)) ?_) | (with_reducible refine below_call (by with_reducible assumption) ?_)))) HB.out⟩
end Go.Proofs.YtbnelgniekcjdaaGreatDoor
