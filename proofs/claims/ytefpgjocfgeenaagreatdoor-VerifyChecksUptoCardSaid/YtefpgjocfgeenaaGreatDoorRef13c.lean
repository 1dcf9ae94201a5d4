/- capstanref13.block: what each call answers. -/
import Derived.Test.YtefpgjocfgeenaaGreatDoorRef13b
namespace Go.Proofs.YtefpgjocfgeenaaGreatDoor
open Go.RowKit Cap
set_option maxRecDepth 100000

/-- Are a block's cells there, of their types? -/
def blockR (x : Img) (kind a : Int) : Bool := isBlock kind && eqP (fun t (f : Fld) => t == f.ty) (cellsOf x a (fieldsOf kind).length) (fieldsOf kind)
set_option maxHeartbeats 4000000 in
theorem rblock_c (x : Img) (vx : Value) (kind a : Int) (w : World) (hx : ImgV w vx x) (ha : a < 9223372036854775808) :
    Calls Tryz.prog 200 #[vx, .int .i64 kind, .int .i64 a] w fun e w' => e = .returned (.bool (blockR x kind a)) ∧ Below w.heap.size w w' := by
  obtain ⟨vt, vf, vi, vo, vc, rfl, h1, h2, h3, h4, h5⟩ := hx
  obtain ⟨A, c, rfl, hlc, hc, hcell⟩ := h1
  clear h2 h3 h4 h5
  have hbig : (x.types.length : Int) ≤ 9223372036854775807 := by omega
  cases hb : isBlock kind with
  | false =>
    have HR := Lib.hid (show blockR x kind a = false by unfold blockR; rw [hb]; rfl)
    have HE := Lib.hid (show fieldsErr kind = 92 by simp [fieldsErr, hb])
    clear hcell hb
    go_enter Tryz.func200, Tryz.ntmps200
    go_wp2_with (go_at_call 242; refine (rfields_c _ _).mono ?_; rintro e w1 ⟨v, rfl, hS, hbw⟩; rw [HE.out]; obtain ⟨A2, c2, rfl, -⟩ := hS; obtain ⟨hcw, hfw⟩ := bcell hbw; have hzw := hbw.size; simp at hzw)
    go_ret
    exact ⟨by rw [HR.out]; rfl, by (repeat' (first | (with_reducible exact Below.refl _ _) | (with_reducible refine below_alloc ?_) | (with_reducible refine below_drew ?_) | (with_reducible refine below_drewN ?_) | (with_reducible refine below_set (by simp; omega) ?_) | (with_reducible refine below_call (by with_reducible assumption) ?_)))⟩
  | true =>
    obtain ⟨hL1, hL6⟩ := fieldsOf_len hb
    have HE := Lib.hid (show fieldsErr kind = 0 by simp [fieldsErr, hb])
    have HR0 := Lib.hid (show blockR x kind a = eqP (fun t (f : Fld) => t == f.ty) (cellsOf x a (fieldsOf kind).length) (fieldsOf kind) by unfold blockR; rw [hb]; rfl)
    clear hb
    have hL : ∃ L, L = fieldsOf kind := ⟨_, rfl⟩
    obtain ⟨L, hLe⟩ := hL
    rw [← hLe] at hL1 hL6
    have HLE := Lib.hid hLe
    clear hLe
    cases ho : cellsOk x a L.length with
    | false =>
      have HR := Lib.hid (show blockR x kind a = false by
        rw [HR0.out, ← HLE.out]
        unfold cellsOf
        rw [ho]
        cases L with
        | nil => simp at hL1
        | cons f L => rfl)
      clear hcell
      simp only [cellsOk, Bool.and_eq_false_iff, decide_eq_false_iff_not, Int.not_le, Int.not_lt] at ho
      have hcase : a < 0 ∨ (0 ≤ a ∧ (x.types.length : Int) ≤ a) ∨ (0 ≤ a ∧ a < (x.types.length : Int) ∧ (x.types.length : Int) - a < (L.length : Int)) := by omega
      rcases hcase with k1 | ⟨k1, k2⟩ | ⟨k1, k2, k3⟩
      all_goals clear ho
      all_goals go_enter Tryz.func200, Tryz.ntmps200
      all_goals go_wp2_with (go_at_call 242; refine (rfields_c _ _).mono ?_; rintro e w1 ⟨v, rfl, hS, hbw⟩; rw [HE.out]; rw [← HLE.out] at hS; obtain ⟨A2, c2, rfl, -⟩ := hS; obtain ⟨hcw, hfw⟩ := bcell hbw; have hzw := hbw.size; simp at hzw; have hzw' : w.heap.size < w1.heap.size := by omega)
      all_goals go_ret
      all_goals exact ⟨by rw [HR.out]; rfl, by (repeat' (first | (with_reducible exact Below.refl _ _) | (with_reducible refine below_alloc ?_) | (with_reducible refine below_drew ?_) | (with_reducible refine below_drewN ?_) | (with_reducible refine below_set (by simp; omega) ?_) | (with_reducible refine below_call (by with_reducible assumption) ?_)))⟩
    | true =>
      simp only [cellsOk, Bool.and_eq_true, decide_eq_true_eq] at ho
      have HCO := Lib.hid (show cellsOf x a L.length = (x.types.drop a.toNat).take L.length by
        unfold cellsOf
        rw [if_pos (by simp only [cellsOk, Bool.and_eq_true, decide_eq_true_eq]; exact ho)]
        rfl)
      obtain ⟨⟨k1, k2⟩, k3⟩ := ho
      obtain ⟨n, rfl⟩ : ∃ n : Nat, a = n := ⟨a.toNat, by omega⟩
      obtain ⟨tn, htn⟩ : ∃ t, x.types[n]? = some t := ⟨x.types[n]'(by omega), List.getElem?_eq_getElem (by omega)⟩
      obtain ⟨b, off, rfl, hb, -⟩ := hcell n tn htn
      have HR := Lib.hid (show blockR x kind n = eqP (fun t (f : Fld) => t == f.ty) ((x.types.drop n).take L.length) L by rw [HR0.out, ← HLE.out, HCO.out, Int.toNat_natCast])
      have HC := Lib.hid hcell
      have k2n : decide (x.types.length ≤ n) = false := by rw [decide_eq_false_iff_not]; omega
      have k3n : decide ((x.types.length : Int) - (n : Int) < (L.length : Int)) = false := by rw [decide_eq_false_iff_not]; omega
      have k0n : decide ((n : Int) < 0) = false := by rw [decide_eq_false_iff_not]; omega
      clear hcell htn HR0 HCO ha
      go_enter Tryz.func200, Tryz.ntmps200
      go_wp2_with (go_at_call 242; refine (rfields_c _ _).mono ?_; rintro e w1 ⟨v, rfl, hS, hbw⟩; rw [HE.out]; rw [← HLE.out] at hS; obtain ⟨A2, c2, rfl, hl2, hl3, hcell2⟩ := hS; have HC2 := Lib.hid hcell2; clear hcell2; obtain ⟨hcw, hfw⟩ := bcell hbw; have hzw := hbw.size; simp at hzw; have hzw' : w.heap.size < w1.heap.size := by omega)
      have hW1 : Below w.heap.size w w1 := by (repeat' (first | (with_reducible exact Below.refl _ _) | (with_reducible refine below_alloc ?_) | (with_reducible refine below_drew ?_) | (with_reducible refine below_drewN ?_) | (with_reducible refine below_set (by simp; omega) ?_) | (with_reducible refine below_call (by with_reducible assumption) ?_)))
      have hx1 : w1.cell? ⟨w.heap.size, 1, none⟩ = some (.slice (some ⟨b, off, none⟩) x.types.length c) := by
        rw [hcw _ _ (by simp)]
        exact cell_of_row _ _ 1 _ _ _ (heap_alloc_new w _)
      go_loopg [9] L.length (fun gg s9 wr => ∃ k : Nat, s9 = .int .i64 k ∧ k ≤ L.length ∧ L.length - k ≤ gg ∧ Aside (Below w1.heap.size w1 wr) ∧ Aside (eqP (fun t (f : Fld) => t == f.ty) (((x.types.drop n).take L.length).drop k) (L.drop k) = eqP (fun t (f : Fld) => t == f.ty) ((x.types.drop n).take L.length) L))
      case atStart => exact ⟨0, rfl, Nat.zero_le _, by omega, (show Aside _ from Below.refl _ _), rfl⟩
      case round =>
        obtain ⟨k, rfl, hk, hg, HB, HA⟩ := hrel
        have hB := HB.out
        have hbw' := hB.size
        have hx2 : wr.cell? ⟨w.heap.size, 1, none⟩ = some (.slice (some ⟨b, off, none⟩) x.types.length c) := (hB.cell (p := ⟨w.heap.size, 1, none⟩) hzw').trans hx1
        by_cases hlt : k < L.length
        · have hltz : (k : Int) < (L.length : Int) := by omega
          have hltx : (n : Int) + (k : Int) < (x.types.length : Int) := by omega
          obtain ⟨t, ht⟩ : ∃ t, x.types[n + k]? = some t := ⟨x.types[n + k]'(by omega), List.getElem?_eq_getElem (by omega)⟩
          obtain ⟨f, hf⟩ : ∃ f, L[k]? = some f := ⟨L[k], List.getElem?_eq_getElem hlt⟩
          obtain ⟨b', off', e', hb', hct⟩ := HC.out (n + k) t ht
          injection e' with e'
          injection e' with eb eo
          subst eb eo
          obtain ⟨bl, ol, rfl, hbl, hcl⟩ := HC2.out k f hf
          have e1 : wr.cell? ⟨b, off + (n + k), none⟩ = some (.int .i64 t) := (hB.cell (p := ⟨b, off + (n + k), none⟩) (Nat.lt_of_lt_of_le hb hW1.size)).trans ((hW1.cell (p := ⟨b, off + (n + k), none⟩) hb).trans (by simpa using hct 0 _ rfl))
          have e2 : wr.cell? ⟨bl, ol + k * 3 + 1, none⟩ = some (.int .i64 f.ty) := (hB.cell (p := ⟨bl, ol + k * 3 + 1, none⟩) hbl).trans (by simpa using hcl 1 _ rfl)
          have htd : ((x.types.drop n).take L.length)[k]? = some t := by rw [List.getElem?_take_of_lt hlt, List.getElem?_drop]; exact ht
          have HTD := Lib.hid (eqP_drop (p := fun t (f : Fld) => t == f.ty) htd hf)
          clear hct ht htd hcl hf
          cases hq : (t != f.ty) with
          | true =>
            have hq' : (t == f.ty) = false := by simpa using hq
            go_upto_region 7 with fail
            go_quiet (fail)
            go_wp2
            go_ret
            refine ⟨?_, by (repeat' (first | (with_reducible exact Below.refl _ _) | (with_reducible refine below_alloc ?_) | (with_reducible refine below_drew ?_) | (with_reducible refine below_drewN ?_) | (with_reducible refine below_set (by simp; omega) ?_) | (with_reducible refine below_call (by with_reducible assumption) ?_)))⟩
            rw [HR.out, ← HA.out, HTD.out, hq', Bool.false_and]
            rfl
          | false =>
            have hq' : (t == f.ty) = true := by simpa using hq
            have HN := Lib.hid (show eqP (fun t (f : Fld) => t == f.ty) (((x.types.drop n).take L.length).drop (k + 1)) (L.drop (k + 1)) = eqP (fun t (f : Fld) => t == f.ty) ((x.types.drop n).take L.length) L by
              rw [← HA.out, HTD.out, hq', Bool.true_and])
            clear hq'
            go_upto_region 7 with fail
            go_quiet (fail)
            go_wp2
            go_roundg (L.length - (k + 1))
            case measure => omega
            case rel => exact ⟨k + 1, by go_num, by omega, by omega, (show Aside _ from below_drewN hB), HN.out⟩
        · obtain rfl : k = L.length := by omega
          have hltz : ¬ (L.length : Int) < (L.length : Int) := by omega
          have HT := Lib.hid (show blockR x kind n = true by
            rw [HR.out, ← HA.out, List.drop_length, List.drop_of_length_le (by rw [List.length_take]; omega)]
            rfl)
          go_wp2
          go_ret
          exact ⟨by rw [HT.out]; rfl, by (repeat' (first | (with_reducible exact Below.refl _ _) | (with_reducible refine below_alloc ?_) | (with_reducible refine below_drew ?_) | (with_reducible refine below_drewN ?_) | (with_reducible refine below_set (by simp; omega) ?_) | (with_reducible refine below_call (by with_reducible assumption) ?_)))⟩
end Go.Proofs.YtefpgjocfgeenaaGreatDoor
