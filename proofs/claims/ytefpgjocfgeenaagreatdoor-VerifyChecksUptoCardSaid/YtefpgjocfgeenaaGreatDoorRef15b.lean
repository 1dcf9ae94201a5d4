/- capstanref15.same: two stacks compared. -/
import Derived.Test.YtefpgjocfgeenaaGreatDoorRef15a
namespace Go.Proofs.YtefpgjocfgeenaaGreatDoor
open Go.RowKit Cap
set_option maxRecDepth 100000

theorem take_snoc_eq {xs ys : List Int} {k : Nat} {a b : Int} (h : xs.take k = ys.take k) (ha : xs[k]? = some a) (hb : ys[k]? = some b) (e : a = b) : xs.take (k + 1) = ys.take (k + 1) := by
  obtain ⟨h1, rfl⟩ := List.getElem?_eq_some_iff.1 ha
  obtain ⟨h2, rfl⟩ := List.getElem?_eq_some_iff.1 hb
  rw [List.take_succ_eq_append_getElem h1, List.take_succ_eq_append_getElem h2, h, e]
set_option maxHeartbeats 2000000 in
theorem rsame15_c (xs ys : List Int) (v1 v2 : Value) (w : World) (h1 : Sl encI 1 w v1 xs) (h2 : Sl encI 1 w v2 ys) :
    Calls Tryz.prog 120 #[v1, v2] w fun e w' => e = .returned (.bool (decide (xs = ys))) ∧ Below w.heap.size w w' := by
  obtain ⟨A1, c1, rfl, l1, m1, hc1⟩ := h1
  obtain ⟨A2, c2, rfl, l2, m2, hc2⟩ := h2
  have HC1 := Lib.hid hc1
  have HC2 := Lib.hid hc2
  clear hc1 hc2
  by_cases hl : xs.length = ys.length
  case neg =>
    have HD := Lib.hid (show decide (xs = ys) = false by rw [decide_eq_false_iff_not]; exact fun e => hl (by rw [e]))
    have hlz : ((xs.length : Int) != (ys.length : Int)) = true := by rw [bne_iff_ne]; omega
    clear hl
    go_enter Tryz.func120, Tryz.ntmps120
    go_wp2
    go_ret
    exact ⟨by rw [HD.out]; rfl, Below.refl _ _⟩
  have hlz : ((xs.length : Int) != (ys.length : Int)) = false := by rw [bne_eq_false_iff_eq]; omega
  have HL := Lib.hid hl
  clear hl
  go_enter Tryz.func120, Tryz.ntmps120
  go_wp2
  go_loopg [5] xs.length (fun gg s5 wr => ∃ k : Nat, s5 = .int .i64 k ∧ k ≤ xs.length ∧ xs.length - k ≤ gg ∧ Aside (Below w.heap.size w wr) ∧ Aside (xs.take k = ys.take k))
  case atStart => exact ⟨0, rfl, Nat.zero_le _, by omega, (show Aside _ from Below.refl _ _), rfl⟩
  case round =>
    obtain ⟨k, rfl, hk, hg, HB, HA⟩ := hrel
    have hB := HB.out
    by_cases hlt : k < xs.length
    · have hlen := HL.out
      obtain ⟨a, ha⟩ : ∃ a, xs[k]? = some a := ⟨xs[k], List.getElem?_eq_getElem hlt⟩
      obtain ⟨b, hb⟩ : ∃ b, ys[k]? = some b := ⟨ys[k]'(by omega), List.getElem?_eq_getElem _⟩
      obtain ⟨b1, o1, rfl, hb1, hcx⟩ := HC1.out k a ha
      obtain ⟨b2, o2, rfl, hb2, hcy⟩ := HC2.out k b hb
      have e1 : wr.cell? ⟨b1, o1 + k, none⟩ = some (.int .i64 a) := (hB.cell (p := ⟨b1, o1 + k, none⟩) hb1).trans (by simpa using hcx 0 _ rfl)
      have e2 : wr.cell? ⟨b2, o2 + k, none⟩ = some (.int .i64 b) := (hB.cell (p := ⟨b2, o2 + k, none⟩) hb2).trans (by simpa using hcy 0 _ rfl)
      have hltz : (k : Int) < (xs.length : Int) := by omega
      have hltz2 : (k : Int) < (ys.length : Int) := by omega
      have hk0 : (0 : Int) ≤ (k : Int) := Int.natCast_nonneg _
      have HAK := Lib.hid ha
      have HBK := Lib.hid hb
      clear hcx hcy ha hb hlen
      cases hq : (a != b) with
      | true =>
        have HD := Lib.hid (show decide (xs = ys) = false by
          rw [decide_eq_false_iff_not]
          intro e
          have h1 := HAK.out
          rw [e, HBK.out] at h1
          injection h1 with h1
          rw [h1] at hq
          simp at hq)
        go_upto_region 6 with fail
        go_quiet (fail)
        go_wp2
        go_ret
        exact ⟨by rw [HD.out]; rfl, by (repeat' (first | (with_reducible exact Below.refl _ _) | (with_reducible refine below_alloc ?_) | (with_reducible refine below_drew ?_) | (with_reducible refine below_drewN ?_) | (with_reducible refine below_set (by simp; omega) ?_) | (with_reducible refine below_call (by with_reducible assumption) ?_)))⟩
      | false =>
        have HN := Lib.hid (take_snoc_eq HA.out HAK.out HBK.out (by simpa using hq))
        go_upto_region 6 with fail
        go_quiet (fail)
        go_wp2
        go_roundg (xs.length - (k + 1))
        case measure => omega
        case rel => exact ⟨k + 1, by go_num, by omega, by omega, below_drewN hB, HN.out⟩
    · obtain rfl : k = xs.length := by omega
      have hltz : ¬ (xs.length : Int) < (xs.length : Int) := by omega
      have HD := Lib.hid (show decide (xs = ys) = true by
        rw [decide_eq_true_eq]
        have h1 := HA.out
        have h2 := HL.out
        rw [List.take_length, h2, List.take_length] at h1
        exact h1)
      go_wp2
      go_ret
      exact ⟨by rw [HD.out]; rfl, by (repeat' (first | (with_reducible exact Below.refl _ _) | (with_reducible refine below_alloc ?_) | (with_reducible refine below_drew ?_) | (with_reducible refine below_drewN ?_) | (with_reducible refine below_set (by simp; omega) ?_) | (with_reducible refine below_call (by with_reducible assumption) ?_)))⟩
end Go.Proofs.YtefpgjocfgeenaaGreatDoor
