/- typed.Fields: what each call answers. -/
import Derived.Test.YtenjkplijblcoaaGreatDoorProg
import Derived.Test.YtenjkplijblcoaaGreatDoorCBase
set_option linter.unusedSimpArgs false
set_option linter.unusedVariables false
namespace Go.Proofs.YtenjkplijblcoaaGreatDoor
open Go.RowKit Cap

theorem in_c (s : ByteArray) (t : Int) (w : World) : Calls Tryz.prog 158 #[.string s, .int .i64 t] w fun e w' => e = .returned (.agg #[.string s, .int .i64 t, .bool true]) ∧ Below w.heap.size w w' := by
  go_enter Tryz.func158, Tryz.ntmps158
  go_wp2
  exact bodyPost_ret (v := .agg #[.string s, .int .i64 t, .bool true]) (by simp [results, Tryz.results158, go_sem]) rfl ⟨rfl, by (repeat' (first | (with_reducible exact Below.refl _ _) | (with_reducible refine below_alloc ?_) | (with_reducible refine below_drew ?_) | (with_reducible refine below_drewN ?_) | (with_reducible refine below_set (by simp; omega) ?_) | (with_reducible refine below_call (by with_reducible assumption) ?_)))⟩
theorem out_c (s : ByteArray) (t : Int) (w : World) : Calls Tryz.prog 159 #[.string s, .int .i64 t] w fun e w' => e = .returned (.agg #[.string s, .int .i64 t, .bool false]) ∧ Below w.heap.size w w' := by
  go_enter Tryz.func159, Tryz.ntmps159
  go_wp2
  exact bodyPost_ret (v := .agg #[.string s, .int .i64 t, .bool false]) (by simp [results, Tryz.results159, go_sem]) rfl ⟨rfl, by (repeat' (first | (with_reducible exact Below.refl _ _) | (with_reducible refine below_alloc ?_) | (with_reducible refine below_drew ?_) | (with_reducible refine below_drewN ?_) | (with_reducible refine below_set (by simp; omega) ?_) | (with_reducible refine below_call (by with_reducible assumption) ?_)))⟩
/-- The answer: fields, and an error. -/
def FieldsR (kind : Int) (w : World) (e : Ending) (w' : World) : Prop := ∃ v, e = .returned (.tuple #[v, .int .i64 (fieldsErr kind)]) ∧ Sl encFld 3 w' v (fieldsOf kind) ∧ Below w.heap.size w w'
set_option maxHeartbeats 1000000 in
theorem fields_1 (w : World) : Calls Tryz.prog 131 #[.int .i64 1] w (FieldsR 1 w) := by
  go_enter Tryz.func131, Tryz.ntmps131
  go_wp2_with (first | (go_at_call 158; refine (in_c _ _ _).mono ?_; rintro e w1 ⟨rfl, hb⟩; obtain ⟨hc, hf⟩ := bcell hb; have hz := hb.size; (try simp at hz); (try have hz1 := Nat.lt_of_succ_le hz); (try have hz2 := Nat.lt_of_succ_lt hz1); (try have hz3 := Nat.lt_of_succ_lt hz2); (try have hz4 := Nat.lt_of_succ_lt hz3)) | (go_at_call 159; refine (out_c _ _ _).mono ?_; rintro e w1 ⟨rfl, hb⟩; obtain ⟨hc, hf⟩ := bcell hb; have hz := hb.size; (try simp at hz); (try have hz1 := Nat.lt_of_succ_le hz); (try have hz2 := Nat.lt_of_succ_lt hz1); (try have hz3 := Nat.lt_of_succ_lt hz2); (try have hz4 := Nat.lt_of_succ_lt hz3)))
  go_ret2
  exact ⟨_, rfl, Sl.lit encFld_len _ _ _ _ _ rfl rfl (by decide), by (repeat' (first | (with_reducible exact Below.refl _ _) | (with_reducible refine below_alloc ?_) | (with_reducible refine below_drew ?_) | (with_reducible refine below_drewN ?_) | (with_reducible refine below_set (by simp; omega) ?_) | (with_reducible refine below_call (by with_reducible assumption) ?_)))⟩
set_option maxHeartbeats 1000000 in
theorem fields_2 (w : World) : Calls Tryz.prog 131 #[.int .i64 2] w (FieldsR 2 w) := by
  go_enter Tryz.func131, Tryz.ntmps131
  go_wp2_with (first | (go_at_call 158; refine (in_c _ _ _).mono ?_; rintro e w1 ⟨rfl, hb⟩; obtain ⟨hc, hf⟩ := bcell hb; have hz := hb.size; (try simp at hz); (try have hz1 := Nat.lt_of_succ_le hz); (try have hz2 := Nat.lt_of_succ_lt hz1); (try have hz3 := Nat.lt_of_succ_lt hz2); (try have hz4 := Nat.lt_of_succ_lt hz3)) | (go_at_call 159; refine (out_c _ _ _).mono ?_; rintro e w1 ⟨rfl, hb⟩; obtain ⟨hc, hf⟩ := bcell hb; have hz := hb.size; (try simp at hz); (try have hz1 := Nat.lt_of_succ_le hz); (try have hz2 := Nat.lt_of_succ_lt hz1); (try have hz3 := Nat.lt_of_succ_lt hz2); (try have hz4 := Nat.lt_of_succ_lt hz3)))
  go_ret2
  exact ⟨_, rfl, Sl.lit encFld_len _ _ _ _ _ rfl rfl (by decide), by (repeat' (first | (with_reducible exact Below.refl _ _) | (with_reducible refine below_alloc ?_) | (with_reducible refine below_drew ?_) | (with_reducible refine below_drewN ?_) | (with_reducible refine below_set (by simp; omega) ?_) | (with_reducible refine below_call (by with_reducible assumption) ?_)))⟩
set_option maxHeartbeats 1000000 in
theorem fields_3 (w : World) : Calls Tryz.prog 131 #[.int .i64 3] w (FieldsR 3 w) := by
  go_enter Tryz.func131, Tryz.ntmps131
  go_wp2_with (first | (go_at_call 158; refine (in_c _ _ _).mono ?_; rintro e w1 ⟨rfl, hb⟩; obtain ⟨hc, hf⟩ := bcell hb; have hz := hb.size; (try simp at hz); (try have hz1 := Nat.lt_of_succ_le hz); (try have hz2 := Nat.lt_of_succ_lt hz1); (try have hz3 := Nat.lt_of_succ_lt hz2); (try have hz4 := Nat.lt_of_succ_lt hz3)) | (go_at_call 159; refine (out_c _ _ _).mono ?_; rintro e w1 ⟨rfl, hb⟩; obtain ⟨hc, hf⟩ := bcell hb; have hz := hb.size; (try simp at hz); (try have hz1 := Nat.lt_of_succ_le hz); (try have hz2 := Nat.lt_of_succ_lt hz1); (try have hz3 := Nat.lt_of_succ_lt hz2); (try have hz4 := Nat.lt_of_succ_lt hz3)))
  go_ret2
  exact ⟨_, rfl, Sl.lit encFld_len _ _ _ _ _ rfl rfl (by decide), by (repeat' (first | (with_reducible exact Below.refl _ _) | (with_reducible refine below_alloc ?_) | (with_reducible refine below_drew ?_) | (with_reducible refine below_drewN ?_) | (with_reducible refine below_set (by simp; omega) ?_) | (with_reducible refine below_call (by with_reducible assumption) ?_)))⟩
set_option maxHeartbeats 1000000 in
theorem fields_4 (w : World) : Calls Tryz.prog 131 #[.int .i64 4] w (FieldsR 4 w) := by
  go_enter Tryz.func131, Tryz.ntmps131
  go_wp2_with (first | (go_at_call 158; refine (in_c _ _ _).mono ?_; rintro e w1 ⟨rfl, hb⟩; obtain ⟨hc, hf⟩ := bcell hb; have hz := hb.size; (try simp at hz); (try have hz1 := Nat.lt_of_succ_le hz); (try have hz2 := Nat.lt_of_succ_lt hz1); (try have hz3 := Nat.lt_of_succ_lt hz2); (try have hz4 := Nat.lt_of_succ_lt hz3)) | (go_at_call 159; refine (out_c _ _ _).mono ?_; rintro e w1 ⟨rfl, hb⟩; obtain ⟨hc, hf⟩ := bcell hb; have hz := hb.size; (try simp at hz); (try have hz1 := Nat.lt_of_succ_le hz); (try have hz2 := Nat.lt_of_succ_lt hz1); (try have hz3 := Nat.lt_of_succ_lt hz2); (try have hz4 := Nat.lt_of_succ_lt hz3)))
  go_ret2
  exact ⟨_, rfl, Sl.lit encFld_len _ _ _ _ _ rfl rfl (by decide), by (repeat' (first | (with_reducible exact Below.refl _ _) | (with_reducible refine below_alloc ?_) | (with_reducible refine below_drew ?_) | (with_reducible refine below_drewN ?_) | (with_reducible refine below_set (by simp; omega) ?_) | (with_reducible refine below_call (by with_reducible assumption) ?_)))⟩
set_option maxHeartbeats 1000000 in
theorem fields_5 (w : World) : Calls Tryz.prog 131 #[.int .i64 5] w (FieldsR 5 w) := by
  go_enter Tryz.func131, Tryz.ntmps131
  go_wp2_with (first | (go_at_call 158; refine (in_c _ _ _).mono ?_; rintro e w1 ⟨rfl, hb⟩; obtain ⟨hc, hf⟩ := bcell hb; have hz := hb.size; (try simp at hz); (try have hz1 := Nat.lt_of_succ_le hz); (try have hz2 := Nat.lt_of_succ_lt hz1); (try have hz3 := Nat.lt_of_succ_lt hz2); (try have hz4 := Nat.lt_of_succ_lt hz3)) | (go_at_call 159; refine (out_c _ _ _).mono ?_; rintro e w1 ⟨rfl, hb⟩; obtain ⟨hc, hf⟩ := bcell hb; have hz := hb.size; (try simp at hz); (try have hz1 := Nat.lt_of_succ_le hz); (try have hz2 := Nat.lt_of_succ_lt hz1); (try have hz3 := Nat.lt_of_succ_lt hz2); (try have hz4 := Nat.lt_of_succ_lt hz3)))
  go_ret2
  exact ⟨_, rfl, Sl.lit encFld_len _ _ _ _ _ rfl rfl (by decide), by (repeat' (first | (with_reducible exact Below.refl _ _) | (with_reducible refine below_alloc ?_) | (with_reducible refine below_drew ?_) | (with_reducible refine below_drewN ?_) | (with_reducible refine below_set (by simp; omega) ?_) | (with_reducible refine below_call (by with_reducible assumption) ?_)))⟩
set_option maxHeartbeats 1000000 in
theorem fields_6 (w : World) : Calls Tryz.prog 131 #[.int .i64 6] w (FieldsR 6 w) := by
  go_enter Tryz.func131, Tryz.ntmps131
  go_wp2_with (first | (go_at_call 158; refine (in_c _ _ _).mono ?_; rintro e w1 ⟨rfl, hb⟩; obtain ⟨hc, hf⟩ := bcell hb; have hz := hb.size; (try simp at hz); (try have hz1 := Nat.lt_of_succ_le hz); (try have hz2 := Nat.lt_of_succ_lt hz1); (try have hz3 := Nat.lt_of_succ_lt hz2); (try have hz4 := Nat.lt_of_succ_lt hz3)) | (go_at_call 159; refine (out_c _ _ _).mono ?_; rintro e w1 ⟨rfl, hb⟩; obtain ⟨hc, hf⟩ := bcell hb; have hz := hb.size; (try simp at hz); (try have hz1 := Nat.lt_of_succ_le hz); (try have hz2 := Nat.lt_of_succ_lt hz1); (try have hz3 := Nat.lt_of_succ_lt hz2); (try have hz4 := Nat.lt_of_succ_lt hz3)))
  go_ret2
  exact ⟨_, rfl, Sl.lit encFld_len _ _ _ _ _ rfl rfl (by decide), by (repeat' (first | (with_reducible exact Below.refl _ _) | (with_reducible refine below_alloc ?_) | (with_reducible refine below_drew ?_) | (with_reducible refine below_drewN ?_) | (with_reducible refine below_set (by simp; omega) ?_) | (with_reducible refine below_call (by with_reducible assumption) ?_)))⟩
set_option maxHeartbeats 1000000 in
theorem fields_7 (w : World) : Calls Tryz.prog 131 #[.int .i64 7] w (FieldsR 7 w) := by
  go_enter Tryz.func131, Tryz.ntmps131
  go_wp2_with (first | (go_at_call 158; refine (in_c _ _ _).mono ?_; rintro e w1 ⟨rfl, hb⟩; obtain ⟨hc, hf⟩ := bcell hb; have hz := hb.size; (try simp at hz); (try have hz1 := Nat.lt_of_succ_le hz); (try have hz2 := Nat.lt_of_succ_lt hz1); (try have hz3 := Nat.lt_of_succ_lt hz2); (try have hz4 := Nat.lt_of_succ_lt hz3)) | (go_at_call 159; refine (out_c _ _ _).mono ?_; rintro e w1 ⟨rfl, hb⟩; obtain ⟨hc, hf⟩ := bcell hb; have hz := hb.size; (try simp at hz); (try have hz1 := Nat.lt_of_succ_le hz); (try have hz2 := Nat.lt_of_succ_lt hz1); (try have hz3 := Nat.lt_of_succ_lt hz2); (try have hz4 := Nat.lt_of_succ_lt hz3)))
  go_ret2
  exact ⟨_, rfl, Sl.lit encFld_len _ _ _ _ _ rfl rfl (by decide), by (repeat' (first | (with_reducible exact Below.refl _ _) | (with_reducible refine below_alloc ?_) | (with_reducible refine below_drew ?_) | (with_reducible refine below_drewN ?_) | (with_reducible refine below_set (by simp; omega) ?_) | (with_reducible refine below_call (by with_reducible assumption) ?_)))⟩
set_option maxHeartbeats 1000000 in
theorem fields_8 (w : World) : Calls Tryz.prog 131 #[.int .i64 8] w (FieldsR 8 w) := by
  go_enter Tryz.func131, Tryz.ntmps131
  go_wp2_with (first | (go_at_call 158; refine (in_c _ _ _).mono ?_; rintro e w1 ⟨rfl, hb⟩; obtain ⟨hc, hf⟩ := bcell hb; have hz := hb.size; (try simp at hz); (try have hz1 := Nat.lt_of_succ_le hz); (try have hz2 := Nat.lt_of_succ_lt hz1); (try have hz3 := Nat.lt_of_succ_lt hz2); (try have hz4 := Nat.lt_of_succ_lt hz3)) | (go_at_call 159; refine (out_c _ _ _).mono ?_; rintro e w1 ⟨rfl, hb⟩; obtain ⟨hc, hf⟩ := bcell hb; have hz := hb.size; (try simp at hz); (try have hz1 := Nat.lt_of_succ_le hz); (try have hz2 := Nat.lt_of_succ_lt hz1); (try have hz3 := Nat.lt_of_succ_lt hz2); (try have hz4 := Nat.lt_of_succ_lt hz3)))
  go_ret2
  exact ⟨_, rfl, Sl.lit encFld_len _ _ _ _ _ rfl rfl (by decide), by (repeat' (first | (with_reducible exact Below.refl _ _) | (with_reducible refine below_alloc ?_) | (with_reducible refine below_drew ?_) | (with_reducible refine below_drewN ?_) | (with_reducible refine below_set (by simp; omega) ?_) | (with_reducible refine below_call (by with_reducible assumption) ?_)))⟩
set_option maxHeartbeats 1000000 in
theorem fields_9 (w : World) : Calls Tryz.prog 131 #[.int .i64 9] w (FieldsR 9 w) := by
  go_enter Tryz.func131, Tryz.ntmps131
  go_wp2_with (first | (go_at_call 158; refine (in_c _ _ _).mono ?_; rintro e w1 ⟨rfl, hb⟩; obtain ⟨hc, hf⟩ := bcell hb; have hz := hb.size; (try simp at hz); (try have hz1 := Nat.lt_of_succ_le hz); (try have hz2 := Nat.lt_of_succ_lt hz1); (try have hz3 := Nat.lt_of_succ_lt hz2); (try have hz4 := Nat.lt_of_succ_lt hz3)) | (go_at_call 159; refine (out_c _ _ _).mono ?_; rintro e w1 ⟨rfl, hb⟩; obtain ⟨hc, hf⟩ := bcell hb; have hz := hb.size; (try simp at hz); (try have hz1 := Nat.lt_of_succ_le hz); (try have hz2 := Nat.lt_of_succ_lt hz1); (try have hz3 := Nat.lt_of_succ_lt hz2); (try have hz4 := Nat.lt_of_succ_lt hz3)))
  go_ret2
  exact ⟨_, rfl, Sl.lit encFld_len _ _ _ _ _ rfl rfl (by decide), by (repeat' (first | (with_reducible exact Below.refl _ _) | (with_reducible refine below_alloc ?_) | (with_reducible refine below_drew ?_) | (with_reducible refine below_drewN ?_) | (with_reducible refine below_set (by simp; omega) ?_) | (with_reducible refine below_call (by with_reducible assumption) ?_)))⟩
set_option maxHeartbeats 1000000 in
theorem fields_10 (w : World) : Calls Tryz.prog 131 #[.int .i64 10] w (FieldsR 10 w) := by
  go_enter Tryz.func131, Tryz.ntmps131
  go_wp2_with (first | (go_at_call 158; refine (in_c _ _ _).mono ?_; rintro e w1 ⟨rfl, hb⟩; obtain ⟨hc, hf⟩ := bcell hb; have hz := hb.size; (try simp at hz); (try have hz1 := Nat.lt_of_succ_le hz); (try have hz2 := Nat.lt_of_succ_lt hz1); (try have hz3 := Nat.lt_of_succ_lt hz2); (try have hz4 := Nat.lt_of_succ_lt hz3)) | (go_at_call 159; refine (out_c _ _ _).mono ?_; rintro e w1 ⟨rfl, hb⟩; obtain ⟨hc, hf⟩ := bcell hb; have hz := hb.size; (try simp at hz); (try have hz1 := Nat.lt_of_succ_le hz); (try have hz2 := Nat.lt_of_succ_lt hz1); (try have hz3 := Nat.lt_of_succ_lt hz2); (try have hz4 := Nat.lt_of_succ_lt hz3)))
  go_ret2
  exact ⟨_, rfl, Sl.lit encFld_len _ _ _ _ _ rfl rfl (by decide), by (repeat' (first | (with_reducible exact Below.refl _ _) | (with_reducible refine below_alloc ?_) | (with_reducible refine below_drew ?_) | (with_reducible refine below_drewN ?_) | (with_reducible refine below_set (by simp; omega) ?_) | (with_reducible refine below_call (by with_reducible assumption) ?_)))⟩
theorem fields_c (kind : Int) (w : World) : Calls Tryz.prog 131 #[.int .i64 kind] w (FieldsR kind w) := by
  cases hk : isBlock kind with
  | true =>
    simp only [isBlock, Bool.and_eq_true, decide_eq_true_eq] at hk
    have h : kind = 1 ∨ kind = 2 ∨ kind = 3 ∨ kind = 4 ∨ kind = 5 ∨ kind = 6 ∨ kind = 7 ∨ kind = 8 ∨ kind = 9 ∨ kind = 10 := by omega
    rcases h with rfl | rfl | rfl | rfl | rfl | rfl | rfl | rfl | rfl | rfl
    · exact fields_1 w
    · exact fields_2 w
    · exact fields_3 w
    · exact fields_4 w
    · exact fields_5 w
    · exact fields_6 w
    · exact fields_7 w
    · exact fields_8 w
    · exact fields_9 w
    · exact fields_10 w
  | false =>
    have hk' := hk
    simp only [isBlock, Bool.and_eq_false_iff, decide_eq_false_iff_not, Int.not_le] at hk
    have n1 : ¬ kind = 1 := by omega
    have m1 : (kind == 1) = false := beq_eq_false_iff_ne.2 n1
    have n2 : ¬ kind = 2 := by omega
    have m2 : (kind == 2) = false := beq_eq_false_iff_ne.2 n2
    have n3 : ¬ kind = 3 := by omega
    have m3 : (kind == 3) = false := beq_eq_false_iff_ne.2 n3
    have n4 : ¬ kind = 4 := by omega
    have m4 : (kind == 4) = false := beq_eq_false_iff_ne.2 n4
    have n5 : ¬ kind = 5 := by omega
    have m5 : (kind == 5) = false := beq_eq_false_iff_ne.2 n5
    have n6 : ¬ kind = 6 := by omega
    have m6 : (kind == 6) = false := beq_eq_false_iff_ne.2 n6
    have n7 : ¬ kind = 7 := by omega
    have m7 : (kind == 7) = false := beq_eq_false_iff_ne.2 n7
    have n8 : ¬ kind = 8 := by omega
    have m8 : (kind == 8) = false := beq_eq_false_iff_ne.2 n8
    have n9 : ¬ kind = 9 := by omega
    have m9 : (kind == 9) = false := beq_eq_false_iff_ne.2 n9
    have n10 : ¬ kind = 10 := by omega
    have m10 : (kind == 10) = false := beq_eq_false_iff_ne.2 n10
    have hE : fieldsErr kind = 92 := by simp [fieldsErr, hk']
    have hF : fieldsOf kind = [] := by simp [fieldsOf, *]
    have HE := Lib.hid hE
    have HF := Lib.hid hF
    clear hE hF hk hk' n1 n2 n3 n4 n5 n6 n7 n8 n9 n10
    go_enter Tryz.func131, Tryz.ntmps131
    go_wp2
    go_ret2
    exact ⟨.slice none 0 0, by rw [HE.out]; rfl, by rw [HF.out]; exact Sl.nil _ _ _, by (repeat' (first | (with_reducible exact Below.refl _ _) | (with_reducible refine below_alloc ?_) | (with_reducible refine below_drew ?_) | (with_reducible refine below_drewN ?_) | (with_reducible refine below_set (by simp; omega) ?_) | (with_reducible refine below_call (by with_reducible assumption) ?_)))⟩
end Go.Proofs.YtenjkplijblcoaaGreatDoor
