/- capstanref09.Fields and capstanref13.block: what each call answers. -/
import Derived.Test.YtefpgjocfgeenaaGreatDoorRef13
namespace Go.Proofs.YtefpgjocfgeenaaGreatDoor
open Go.RowKit Cap
set_option maxRecDepth 100000

set_option maxHeartbeats 4000000 in
theorem rfields_c (kind : Int) (w : World) : Calls Tryz.prog 242 #[.int .i64 kind] w (FieldsR kind w) := by
  cases hk : isBlock kind with
  | true =>
    simp only [isBlock, Bool.and_eq_true, decide_eq_true_eq] at hk
    have h : kind = 1 ∨ kind = 2 ∨ kind = 3 ∨ kind = 4 ∨ kind = 5 ∨ kind = 6 ∨ kind = 7 ∨ kind = 8 ∨ kind = 9 ∨ kind = 10 := by omega
    clear hk
    rcases h with rfl | rfl | rfl | rfl | rfl | rfl | rfl | rfl | rfl | rfl
    all_goals go_enter Tryz.func242, Tryz.ntmps242
    all_goals go_wp2
    all_goals go_ret2
    all_goals exact ⟨_, rfl, Sl.lit encFld_len _ _ _ _ _ rfl rfl (by decide), by (repeat' (first | (with_reducible exact Below.refl _ _) | (with_reducible refine below_alloc ?_) | (with_reducible refine below_drew ?_) | (with_reducible refine below_drewN ?_) | (with_reducible refine below_set (by simp; omega) ?_) | (with_reducible refine below_call (by with_reducible assumption) ?_)))⟩
  | false =>
    have hk' := hk
    simp only [isBlock, Bool.and_eq_false_iff, decide_eq_false_iff_not, Int.not_le] at hk
    have n1 : ¬ kind = 1 := by omega
    have m1 : (kind == 1) = false := beq_eq_false_iff_ne.2 n1
    have n2 : ¬ kind = 2 := by omega
    have m2 : (kind == 2) = false := beq_eq_false_iff_ne.2 n2
    have n3 : ¬ kind = 3 := by omega
    have m3 : (kind == 3) = false := beq_eq_false_iff_ne.2 n3
    have n4 : ¬ kind = 4 := by omega
    have m4 : (kind == 4) = false := beq_eq_false_iff_ne.2 n4
    have n5 : ¬ kind = 5 := by omega
    have m5 : (kind == 5) = false := beq_eq_false_iff_ne.2 n5
    have n6 : ¬ kind = 6 := by omega
    have m6 : (kind == 6) = false := beq_eq_false_iff_ne.2 n6
    have n7 : ¬ kind = 7 := by omega
    have m7 : (kind == 7) = false := beq_eq_false_iff_ne.2 n7
    have n8 : ¬ kind = 8 := by omega
    have m8 : (kind == 8) = false := beq_eq_false_iff_ne.2 n8
    have n9 : ¬ kind = 9 := by omega
    have m9 : (kind == 9) = false := beq_eq_false_iff_ne.2 n9
    have n10 : ¬ kind = 10 := by omega
    have m10 : (kind == 10) = false := beq_eq_false_iff_ne.2 n10
    have hE : fieldsErr kind = 92 := by simp [fieldsErr, hk']
    have hF : fieldsOf kind = [] := by simp [fieldsOf, *]
    have HE := Lib.hid hE
    have HF := Lib.hid hF
    clear hE hF hk hk' n1 n2 n3 n4 n5 n6 n7 n8 n9 n10
    go_enter Tryz.func242, Tryz.ntmps242
    go_wp2
    go_ret2
    exact ⟨.slice none 0 0, by rw [HE.out]; rfl, by rw [HF.out]; exact Sl.nil _ _ _, by (repeat' (first | (with_reducible exact Below.refl _ _) | (with_reducible refine below_alloc ?_) | (with_reducible refine below_drew ?_) | (with_reducible refine below_drewN ?_) | (with_reducible refine below_set (by simp; omega) ?_) | (with_reducible refine below_call (by with_reducible assumption) ?_)))⟩
theorem fieldsOf_len {kind : Int} (h : isBlock kind = true) : 1 ≤ (fieldsOf kind).length ∧ (fieldsOf kind).length ≤ 6 := by
  simp only [isBlock, Bool.and_eq_true, decide_eq_true_eq] at h
  have h : kind = 1 ∨ kind = 2 ∨ kind = 3 ∨ kind = 4 ∨ kind = 5 ∨ kind = 6 ∨ kind = 7 ∨ kind = 8 ∨ kind = 9 ∨ kind = 10 := by omega
  rcases h with rfl | rfl | rfl | rfl | rfl | rfl | rfl | rfl | rfl | rfl <;> exact ⟨by decide, by decide⟩
end Go.Proofs.YtefpgjocfgeenaaGreatDoor
