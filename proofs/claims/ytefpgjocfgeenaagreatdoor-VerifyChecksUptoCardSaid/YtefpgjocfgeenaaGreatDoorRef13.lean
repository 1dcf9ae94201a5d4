/- The functions of package capstanref13 (and Fields of capstanref09): what each call answers. -/
import Derived.Test.YtefpgjocfgeenaaGreatDoorRef6
import Derived.Test.YtefpgjocfgeenaaGreatDoorCopy
namespace Go.Proofs.YtefpgjocfgeenaaGreatDoor
open Go.RowKit Cap
set_option maxRecDepth 100000

theorem take_all_succ {p : Int → Bool} {l : List Int} {k : Nat} {t : Int} (h : l[k]? = some t) : (l.take (k + 1)).all p = ((l.take k).all p && p t) := by
  obtain ⟨hk, rfl⟩ := List.getElem?_eq_some_iff.1 h
  rw [List.take_succ_eq_append_getElem hk, List.all_append]
  simp
theorem take_all_no {p : Int → Bool} {l : List Int} {k q : Nat} {t : Int} (h : l[k]? = some t) (hp : p t = false) (hk : k < q) : (l.take q).all p = false := by
  rw [List.all_eq_false]
  refine ⟨t, ?_, by rw [hp]; simp⟩
  have : (l.take q)[k]? = some t := by rw [List.getElem?_take_of_lt hk]; exact h
  exact List.mem_of_getElem? this
theorem hx1_drew {w : World} {a : Addr} {v : Value} {n : Nat} (h : w.cell? a = some v) : (w.drewN n).cell? a = some v := by simpa using h
set_option maxHeartbeats 2000000 in
theorem rsame_c (x : Img) (vx : Value) (a m : Int) (w : World) (hx : ImgV w vx x) (hm : 1 ≤ m) (ha : a < 9223372036854775808) (hm2 : m < 9223372036854775808) :
    Calls Tryz.prog 198 #[vx, .int .i64 a, .int .i64 m] w fun e w' => e = .returned (.bool (sameR x a m)) ∧ Below w.heap.size w w' := by
  obtain ⟨vt, vf, vi, vo, vc, rfl, h1, h2, h3, h4, h5⟩ := hx
  obtain ⟨A, c, rfl, hlc, hc, hcell⟩ := h1
  clear h2 h3 h4 h5
  have hbig : (x.types.length : Int) ≤ 9223372036854775807 := by omega
  cases ho : cellsOk x a m with
  | false =>
    have HR := Lib.hid (show sameR x a m = false by unfold sameR; rw [ho]; rfl)
    clear hcell
    simp only [cellsOk, Bool.and_eq_false_iff, decide_eq_false_iff_not, Int.not_le, Int.not_lt] at ho
    by_cases k1 : a < 0
    · go_enter Tryz.func198, Tryz.ntmps198
      go_wp2
      go_ret
      exact ⟨by rw [HR.out]; rfl, by (repeat' (first | (with_reducible exact Below.refl _ _) | (with_reducible refine below_alloc ?_) | (with_reducible refine below_drew ?_) | (with_reducible refine below_drewN ?_) | (with_reducible refine below_set (by simp; omega) ?_) | (with_reducible refine below_call (by with_reducible assumption) ?_)))⟩
    by_cases k2 : (x.types.length : Int) ≤ a
    · go_enter Tryz.func198, Tryz.ntmps198
      go_wp2
      go_ret
      exact ⟨by rw [HR.out]; rfl, by (repeat' (first | (with_reducible exact Below.refl _ _) | (with_reducible refine below_alloc ?_) | (with_reducible refine below_drew ?_) | (with_reducible refine below_drewN ?_) | (with_reducible refine below_set (by simp; omega) ?_) | (with_reducible refine below_call (by with_reducible assumption) ?_)))⟩
    have k3 : (x.types.length : Int) - a < m := by omega
    clear ho
    go_enter Tryz.func198, Tryz.ntmps198
    go_wp2
    go_ret
    exact ⟨by rw [HR.out]; rfl, by (repeat' (first | (with_reducible exact Below.refl _ _) | (with_reducible refine below_alloc ?_) | (with_reducible refine below_drew ?_) | (with_reducible refine below_drewN ?_) | (with_reducible refine below_set (by simp; omega) ?_) | (with_reducible refine below_call (by with_reducible assumption) ?_)))⟩
  | true =>
    have HR0 := Lib.hid (show sameR x a m = ((x.types.drop a.toNat).take m.toNat).all (· == tyAt x a) by unfold sameR; rw [ho]; rfl)
    simp only [cellsOk, Bool.and_eq_true, decide_eq_true_eq] at ho
    obtain ⟨⟨k1, k2⟩, k3⟩ := ho
    obtain ⟨n, rfl⟩ : ∃ n : Nat, a = n := ⟨a.toNat, by omega⟩
    obtain ⟨q, rfl⟩ : ∃ q : Nat, m = q := ⟨m.toNat, by omega⟩
    obtain ⟨tn, htn⟩ : ∃ t, x.types[n]? = some t := ⟨x.types[n]'(by omega), List.getElem?_eq_getElem (by omega)⟩
    have HTY := Lib.hid (show tyAt x n = tn by unfold tyAt; rw [List.getD_eq_getElem?_getD, Int.toNat_natCast, htn]; rfl)
    obtain ⟨b, off, rfl, hb, hcn⟩ := hcell n tn htn
    have HR := Lib.hid (show sameR x n q = ((x.types.drop n).take q).all (· == tn) by rw [HR0.out, HTY.out, Int.toNat_natCast, Int.toNat_natCast])
    have d0 : w.cell? ⟨b, off + n, none⟩ = some (.int .i64 tn) := by simpa using hcn 0 _ rfl
    have HC := Lib.hid hcell
    have k0 : (0 : Int) ≤ (n : Int) := Int.natCast_nonneg _
    have k2n : decide (x.types.length ≤ n) = false := by rw [decide_eq_false_iff_not]; omega
    have k3n : decide ((x.types.length : Int) - (n : Int) < (q : Int)) = false := by rw [decide_eq_false_iff_not]; omega
    have k0n : decide ((n : Int) < 0) = false := by rw [decide_eq_false_iff_not]; omega
    clear hcell hcn htn HR0 HTY hm k1 ha hm2
    go_enter Tryz.func198, Tryz.ntmps198
    go_wp2
    go_loopg [7] q (fun gg s7 wr => ∃ k : Nat, s7 = .int .i64 ((n + k : Nat) : Int) ∧ k ≤ q ∧ q - k ≤ gg ∧ Aside (Below w.heap.size w wr) ∧ Aside (wr.cell? ⟨w.heap.size, 1, none⟩ = some (.slice (some ⟨b, off, none⟩) x.types.length c)) ∧ Aside (((x.types.drop n).take k).all (· == tn) = true))
    case atStart => exact ⟨0, rfl, Nat.zero_le _, by omega, (show Aside _ from below_alloc (Below.refl _ _)), (show Aside _ from cell_of_row _ _ 1 _ _ _ (heap_alloc_new w _)), rfl⟩
    case round =>
      obtain ⟨k, rfl, hk, hg, HB, HX, HA⟩ := hrel
      have hB := HB.out
      have hx1 := HX.out
      have e0 : wr.cell? ⟨b, off + n, none⟩ = some (.int .i64 tn) := (hB.cell (p := ⟨b, off + n, none⟩) hb).trans d0
      have hbw := hB.size
      by_cases hlt : k < q
      · have hltz : ((n + k : Nat) : Int) < (n : Int) + (q : Int) := by omega
        have hltx : ((n + k : Nat) : Int) < (x.types.length : Int) := by omega
        have hk0 : (0 : Int) ≤ ((n + k : Nat) : Int) := Int.natCast_nonneg _
        obtain ⟨t, ht⟩ : ∃ t, x.types[n + k]? = some t := ⟨x.types[n + k]'(by omega), List.getElem?_eq_getElem (by omega)⟩
        obtain ⟨b', off', e', hb', hct⟩ := HC.out (n + k) t ht
        injection e' with e'
        injection e' with eb eo
        subst eb eo
        have e1 : wr.cell? ⟨b, off + (n + k), none⟩ = some (.int .i64 t) := (hB.cell (p := ⟨b, off + (n + k), none⟩) hb).trans (by simpa using hct 0 _ rfl)
        have htd : (x.types.drop n)[k]? = some t := by rw [List.getElem?_drop]; exact ht
        have HTD := Lib.hid htd
        clear hct ht htd
        cases hq : (t != tn) with
        | true =>
          go_upto_region 6 with fail
          go_quiet (fail)
          go_wp2
          go_ret
          refine ⟨?_, by (repeat' (first | (with_reducible exact Below.refl _ _) | (with_reducible refine below_alloc ?_) | (with_reducible refine below_drew ?_) | (with_reducible refine below_drewN ?_) | (with_reducible refine below_set (by simp; omega) ?_) | (with_reducible refine below_call (by with_reducible assumption) ?_)))⟩
          rw [HR.out, take_all_no HTD.out (by simpa using hq) hlt]
          rfl
        | false =>
          go_upto_region 6 with fail
          go_quiet (fail)
          go_wp2
          go_roundg (q - (k + 1))
          case measure => omega
          case rel =>
            refine ⟨k + 1, by go_num, by omega, by omega, (show Aside _ from below_drewN hB), hx1_drew hx1, ?_⟩
            have h9 : ((x.types.drop n).take (k + 1)).all (· == tn) = true := by
              rw [take_all_succ HTD.out, HA.out]
              simpa using hq
            exact h9
      · obtain rfl : k = q := by omega
        have hltz : ¬ ((n + k : Nat) : Int) < (n : Int) + (k : Int) := by omega
        go_wp2
        go_ret
        exact ⟨by rw [HR.out, HA.out]; rfl, by (repeat' (first | (with_reducible exact Below.refl _ _) | (with_reducible refine below_alloc ?_) | (with_reducible refine below_drew ?_) | (with_reducible refine below_drewN ?_) | (with_reducible refine below_set (by simp; omega) ?_) | (with_reducible refine below_call (by with_reducible assumption) ?_)))⟩
end Go.Proofs.YtefpgjocfgeenaaGreatDoor
