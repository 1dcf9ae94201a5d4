/- The functions of package num: what each call answers. -/
import Derived.Test.YtefpgjocfgeenaaGreatDoorProg
import Derived.Test.YtefpgjocfgeenaaGreatDoorSpec
import Derived.Test.YtefpgjocfgeenaaGreatDoorKit
namespace Go.Proofs.YtefpgjocfgeenaaGreatDoor
open Go.RowKit Cap

set_option maxHeartbeats 400000 in
theorem known_c (t : Int) (w : World) :
    Calls Tryz.prog 51 #[.int .i64 t] w fun e w' => e = .returned (.bool (known t)) ∧ w = w' := by
  go_enter Tryz.func51, Tryz.ntmps51
  go_wp2
  · go_ret
    exact ⟨by simp [known, *], rfl⟩
  · go_ret
    have : ¬ (1 ≤ t) := by omega
    exact ⟨by simp [known, *], rfl⟩

theorem wrap_c (t n : Int) (w : World) :
    Calls Tryz.prog 52 #[.int .i64 t, .int .i64 n] w fun e w' => e = .returned (.int .i64 (wrapT t n)) ∧ w = w' := by
  go_enter Tryz.func52, Tryz.ntmps52
  go_wp2
  · go_ret
    have h1 : t = 1 := by simp_all
    exact ⟨ret_i (by rw [wrapT, if_pos h1, and_one_i64]), rfl⟩
  · go_ret
    have h1 : ¬ t = 1 := by simp_all
    have h2 : t = 2 := by simp_all
    exact ⟨ret_i (by rw [wrapT, if_neg h1, if_pos h2, wrap16_eq, wrap64_16]), rfl⟩
  · go_ret
    have h1 : ¬ t = 1 := by simp_all
    have h2 : ¬ t = 2 := by simp_all
    exact ⟨ret_i (by rw [wrapT, if_neg h1, if_neg h2, wrap64_32]), rfl⟩

theorem fits_c (t n : Int) (w : World) :
    Calls Tryz.prog 30 #[.int .i64 t, .int .i64 n] w fun e w' => e = .returned (.bool (fits t n)) ∧ w = w' := by
  cases hk : known t with
  | true =>
    go_enter Tryz.func30, Tryz.ntmps30
    go_wp2_with (first | (go_at_call 51; refine (known_c _ _).mono ?_; rintro e w' ⟨rfl, rfl⟩) | (go_at_call 52; refine (wrap_c _ _ _).mono ?_; rintro e w' ⟨rfl, rfl⟩))
    go_ret
    exact ⟨by simp [fits, hk], rfl⟩
  | false =>
    go_enter Tryz.func30, Tryz.ntmps30
    go_wp2_with (first | (go_at_call 51; refine (known_c _ _).mono ?_; rintro e w' ⟨rfl, rfl⟩) | (go_at_call 52; refine (wrap_c _ _ _).mono ?_; rintro e w' ⟨rfl, rfl⟩))
    go_ret
    exact ⟨by simp [fits, hk], rfl⟩

def doOf (n : Int) : FuncId :=
  if n = 1 then 137 else if n = 2 then 138 else if n = 3 then 139 else if n = 4 then 140 else if n = 5 then 141 else if n = 6 then 142 else if n = 7 then 143 else if n = 8 then 144 else if n = 9 then 145 else if n = 10 then 147 else if n = 11 then 148 else if n = 12 then 149 else if n = 13 then 150 else if n = 14 then 151 else if n = 15 then 152 else 153
def opCells : List Value := [.int .i64 28, .bool false, .func (.func 137) #[] #[], .bool false, .int .i64 28, .bool false, .func (.func 138) #[] #[], .bool false, .int .i64 12, .bool false, .func (.func 139) #[] #[], .bool false, .int .i64 12, .bool false, .func (.func 140) #[] #[], .bool false, .int .i64 12, .bool false, .func (.func 141) #[] #[], .bool false, .int .i64 14, .bool false, .func (.func 142) #[] #[], .bool false, .int .i64 14, .bool false, .func (.func 143) #[] #[], .bool false, .int .i64 14, .bool false, .func (.func 144) #[] #[], .bool false, .int .i64 30, .bool false, .func (.func 145) #[] #[], .bool true, .int .i64 30, .bool false, .func (.func 147) #[] #[], .bool true, .int .i64 28, .bool false, .func (.func 148) #[] #[], .bool true, .int .i64 28, .bool false, .func (.func 149) #[] #[], .bool true, .int .i64 28, .bool false, .func (.func 150) #[] #[], .bool true, .int .i64 28, .bool false, .func (.func 151) #[] #[], .bool true, .int .i64 28, .bool true, .func (.func 152) #[] #[], .bool false, .int .i64 14, .bool true, .func (.func 153) #[] #[], .bool false]
theorem op_cases {n : Int} (h : isOp n = true) : n = 1 ∨ n = 2 ∨ n = 3 ∨ n = 4 ∨ n = 5 ∨ n = 6 ∨ n = 7 ∨ n = 8 ∨ n = 9 ∨ n = 10 ∨ n = 11 ∨ n = 12 ∨ n = 13 ∨ n = 14 ∨ n = 15 ∨ n = 16 := by
  simp only [isOp, Bool.and_eq_true, decide_eq_true_eq] at h
  omega
theorem op_c0 {n : Int} (h : isOp n = true) : opCells[(n.toNat - 1) * 4]? = some (.int .i64 (kindsOf n)) := by
  rcases op_cases h with rfl | rfl | rfl | rfl | rfl | rfl | rfl | rfl | rfl | rfl | rfl | rfl | rfl | rfl | rfl | rfl <;> rfl
theorem op_c1 {n : Int} (h : isOp n = true) : opCells[(n.toNat - 1) * 4 + 1]? = some (.bool (oneOf n)) := by
  rcases op_cases h with rfl | rfl | rfl | rfl | rfl | rfl | rfl | rfl | rfl | rfl | rfl | rfl | rfl | rfl | rfl | rfl <;> rfl
theorem op_c2 {n : Int} (h : isOp n = true) : opCells[(n.toNat - 1) * 4 + 2]? = some (.func (.func (doOf n)) #[] #[]) := by
  rcases op_cases h with rfl | rfl | rfl | rfl | rfl | rfl | rfl | rfl | rfl | rfl | rfl | rfl | rfl | rfl | rfl | rfl <;> rfl
theorem op_c3 {n : Int} (h : isOp n = true) : opCells[(n.toNat - 1) * 4 + 3]? = some (.bool (truthOf n)) := by
  rcases op_cases h with rfl | rfl | rfl | rfl | rfl | rfl | rfl | rfl | rfl | rfl | rfl | rfl | rfl | rfl | rfl | rfl <;> rfl

set_option maxHeartbeats 1000000 in
theorem find_yes (n : Int) (w : World) (h : isOp n = true) :
    Calls Tryz.prog 91 #[.int .i64 n] w fun e w' => e = .returned (.tuple #[.agg #[.int .i64 (kindsOf n), .bool (oneOf n), .func (.func (doOf n)) #[] #[], .bool (truthOf n)], .bool true]) ∧ Below w.heap.size w w' := by
  have c0 := op_c0 h
  have c1 := op_c1 h
  have c2 := op_c2 h
  have c3 := op_c3 h
  unfold opCells at c0 c1 c2 c3
  simp only [isOp, Bool.and_eq_true, decide_eq_true_eq] at h
  obtain ⟨h1, h2⟩ := h
  have h3 : decide (n < 1) = false := by simp; omega
  have h4 : decide (16 < n) = false := by simp; omega
  go_enter Tryz.func91, Tryz.ntmps91
  go_wp2
  refine bodyPost_ret (v := .tuple #[.agg #[.int .i64 (kindsOf n), .bool (oneOf n), .func (.func (doOf n)) #[] #[], .bool (truthOf n)], .bool true]) (by simp [results, Tryz.results91, go_sem]) rfl ⟨rfl, ?_⟩
  exact ((Below.refl _ _).alloc (Nat.le_refl _) _).alloc (by simp) _

set_option maxHeartbeats 1000000 in
theorem find_no (n : Int) (w : World) (h : isOp n = false) :
    Calls Tryz.prog 91 #[.int .i64 n] w fun e w' => e = .returned (.tuple #[.agg #[.int .i64 0, .bool false, .nilFunc, .bool false], .bool false]) ∧ Below w.heap.size w w' := by
  simp only [isOp, Bool.and_eq_false_iff, decide_eq_false_iff_not, Int.not_le] at h
  by_cases h1 : n < 1
  · clear h
    go_enter Tryz.func91, Tryz.ntmps91
    go_wp2
    refine bodyPost_ret (v := .tuple #[.agg #[.int .i64 0, .bool false, .nilFunc, .bool false], .bool false]) (by simp [results, Tryz.results91, go_sem]) rfl ⟨rfl, ?_⟩
    exact ((Below.refl _ _).alloc (Nat.le_refl _) _).alloc (by simp) _
  · have h2 : 16 < n := by omega
    clear h
    go_enter Tryz.func91, Tryz.ntmps91
    go_wp2
    refine bodyPost_ret (v := .tuple #[.agg #[.int .i64 0, .bool false, .nilFunc, .bool false], .bool false]) (by simp [results, Tryz.results91, go_sem]) rfl ⟨rfl, ?_⟩
    exact ((Below.refl _ _).alloc (Nat.le_refl _) _).alloc (by simp) _

theorem flag_c (b : Bool) (w : World) : Calls Tryz.prog 146 #[.bool b] w fun e w' => e = .returned (.int .i64 (flag b)) ∧ w = w' := by
  cases b with
  | true =>
    go_enter Tryz.func146, Tryz.ntmps146
    go_wp2
    go_ret
    exact ⟨rfl, rfl⟩
  | false =>
    go_enter Tryz.func146, Tryz.ntmps146
    go_wp2
    go_ret
    exact ⟨rfl, rfl⟩
theorem do_1 (a b : Int) (w : World) : Calls Tryz.prog 137 #[.int .i64 a, .int .i64 b] w fun e w' => e = .returned (.int .i64 (opDo 1 a b)) ∧ w = w' := by
  go_enter Tryz.func137, Tryz.ntmps137
  go_wp2
  go_ret
  exact ⟨rfl, rfl⟩
theorem do_2 (a b : Int) (w : World) : Calls Tryz.prog 138 #[.int .i64 a, .int .i64 b] w fun e w' => e = .returned (.int .i64 (opDo 2 a b)) ∧ w = w' := by
  go_enter Tryz.func138, Tryz.ntmps138
  go_wp2
  go_ret
  exact ⟨rfl, rfl⟩
theorem do_3 (a b : Int) (w : World) : Calls Tryz.prog 139 #[.int .i64 a, .int .i64 b] w fun e w' => e = .returned (.int .i64 (opDo 3 a b)) ∧ w = w' := by
  go_enter Tryz.func139, Tryz.ntmps139
  go_wp2
  go_ret
  exact ⟨rfl, rfl⟩
theorem do_6 (a b : Int) (w : World) : Calls Tryz.prog 142 #[.int .i64 a, .int .i64 b] w fun e w' => e = .returned (.int .i64 (opDo 6 a b)) ∧ w = w' := by
  go_enter Tryz.func142, Tryz.ntmps142
  go_wp2
  go_ret
  exact ⟨rfl, rfl⟩
theorem do_7 (a b : Int) (w : World) : Calls Tryz.prog 143 #[.int .i64 a, .int .i64 b] w fun e w' => e = .returned (.int .i64 (opDo 7 a b)) ∧ w = w' := by
  go_enter Tryz.func143, Tryz.ntmps143
  go_wp2
  go_ret
  exact ⟨rfl, rfl⟩
theorem do_8 (a b : Int) (w : World) : Calls Tryz.prog 144 #[.int .i64 a, .int .i64 b] w fun e w' => e = .returned (.int .i64 (opDo 8 a b)) ∧ w = w' := by
  go_enter Tryz.func144, Tryz.ntmps144
  go_wp2
  go_ret
  exact ⟨rfl, rfl⟩
theorem do_15 (a b : Int) (w : World) : Calls Tryz.prog 152 #[.int .i64 a, .int .i64 b] w fun e w' => e = .returned (.int .i64 (opDo 15 a b)) ∧ w = w' := by
  go_enter Tryz.func152, Tryz.ntmps152
  go_wp2
  go_ret
  exact ⟨rfl, rfl⟩
theorem do_16 (a b : Int) (w : World) : Calls Tryz.prog 153 #[.int .i64 a, .int .i64 b] w fun e w' => e = .returned (.int .i64 (opDo 16 a b)) ∧ w = w' := by
  go_enter Tryz.func153, Tryz.ntmps153
  go_wp2
  go_ret
  exact ⟨rfl, rfl⟩
theorem do_4 (a b : Int) (w : World) (hb : b ≠ 0) : Calls Tryz.prog 140 #[.int .i64 a, .int .i64 b] w fun e w' => e = .returned (.int .i64 (opDo 4 a b)) ∧ w = w' := by
  go_enter Tryz.func140, Tryz.ntmps140
  go_wp2
  go_ret
  exact ⟨rfl, rfl⟩
theorem do_5 (a b : Int) (w : World) (hb : b ≠ 0) : Calls Tryz.prog 141 #[.int .i64 a, .int .i64 b] w fun e w' => e = .returned (.int .i64 (opDo 5 a b)) ∧ w = w' := by
  go_enter Tryz.func141, Tryz.ntmps141
  go_wp2
  go_ret
  exact ⟨rfl, rfl⟩
theorem do_9 (a b : Int) (w : World) : Calls Tryz.prog 145 #[.int .i64 a, .int .i64 b] w fun e w' => e = .returned (.int .i64 (opDo 9 a b)) ∧ w = w' := by
  go_enter Tryz.func145, Tryz.ntmps145
  go_wp2_with (go_at_call 146; refine (flag_c _ _).mono ?_; rintro e w' ⟨rfl, rfl⟩)
  go_ret
  exact ⟨rfl, rfl⟩
theorem do_10 (a b : Int) (w : World) : Calls Tryz.prog 147 #[.int .i64 a, .int .i64 b] w fun e w' => e = .returned (.int .i64 (opDo 10 a b)) ∧ w = w' := by
  go_enter Tryz.func147, Tryz.ntmps147
  go_wp2_with (go_at_call 146; refine (flag_c _ _).mono ?_; rintro e w' ⟨rfl, rfl⟩)
  go_ret
  exact ⟨rfl, rfl⟩
theorem do_11 (a b : Int) (w : World) : Calls Tryz.prog 148 #[.int .i64 a, .int .i64 b] w fun e w' => e = .returned (.int .i64 (opDo 11 a b)) ∧ w = w' := by
  go_enter Tryz.func148, Tryz.ntmps148
  go_wp2_with (go_at_call 146; refine (flag_c _ _).mono ?_; rintro e w' ⟨rfl, rfl⟩)
  go_ret
  exact ⟨rfl, rfl⟩
theorem do_12 (a b : Int) (w : World) : Calls Tryz.prog 149 #[.int .i64 a, .int .i64 b] w fun e w' => e = .returned (.int .i64 (opDo 12 a b)) ∧ w = w' := by
  go_enter Tryz.func149, Tryz.ntmps149
  go_wp2_with (go_at_call 146; refine (flag_c _ _).mono ?_; rintro e w' ⟨rfl, rfl⟩)
  go_ret
  exact ⟨rfl, rfl⟩
theorem do_13 (a b : Int) (w : World) : Calls Tryz.prog 150 #[.int .i64 a, .int .i64 b] w fun e w' => e = .returned (.int .i64 (opDo 13 a b)) ∧ w = w' := by
  go_enter Tryz.func150, Tryz.ntmps150
  go_wp2_with (go_at_call 146; refine (flag_c _ _).mono ?_; rintro e w' ⟨rfl, rfl⟩)
  go_ret
  exact ⟨rfl, rfl⟩
theorem do_14 (a b : Int) (w : World) : Calls Tryz.prog 151 #[.int .i64 a, .int .i64 b] w fun e w' => e = .returned (.int .i64 (opDo 14 a b)) ∧ w = w' := by
  go_enter Tryz.func151, Tryz.ntmps151
  go_wp2_with (go_at_call 146; refine (flag_c _ _).mono ?_; rintro e w' ⟨rfl, rfl⟩)
  go_ret
  exact ⟨rfl, rfl⟩

theorem do_c (n a b : Int) (w : World) (h : isOp n = true) (hb : (n = 4 ∨ n = 5) → b ≠ 0) :
    Calls Tryz.prog (doOf n) #[.int .i64 a, .int .i64 b] w fun e w' => e = .returned (.int .i64 (opDo n a b)) ∧ w = w' := by
  rcases op_cases h with rfl | rfl | rfl | rfl | rfl | rfl | rfl | rfl | rfl | rfl | rfl | rfl | rfl | rfl | rfl | rfl
  · exact do_1 a b w
  · exact do_2 a b w
  · exact do_3 a b w
  · exact do_4 a b w (hb (.inl rfl))
  · exact do_5 a b w (hb (.inr rfl))
  · exact do_6 a b w
  · exact do_7 a b w
  · exact do_8 a b w
  · exact do_9 a b w
  · exact do_10 a b w
  · exact do_11 a b w
  · exact do_12 a b w
  · exact do_13 a b w
  · exact do_14 a b w
  · exact do_15 a b w
  · exact do_16 a b w
theorem do_enters {n : Int} (h : isOp n = true) (args : Array Value) (w : World) : (callFunc (doOf n) args).run Tryz.prog w = .ok (.enter (doOf n) args) w := by
  rcases op_cases h with rfl | rfl | rfl | rfl | rfl | rfl | rfl | rfl | rfl | rfl | rfl | rfl | rfl | rfl | rfl | rfl <;> kernel_rfl

set_option maxHeartbeats 400000 in
theorem has_c (k t : Int) (o : Bool) (f : Value) (tr : Bool) (w : World) :
    Calls Tryz.prog 92 #[.agg #[.int .i64 k, .bool o, f, .bool tr], .int .i64 t] w fun e w' => e = .returned (.bool (hasK k t)) ∧ Below w.heap.size w w' := by
  cases hk : known t with
  | true =>
    have hk' := hk
    simp only [known, Bool.and_eq_true, decide_eq_true_eq] at hk'
    obtain ⟨h1, h2⟩ := hk'
    go_enter Tryz.func92, Tryz.ntmps92
    go_wp2_with (go_at_call 51; refine (known_c _ _).mono ?_; rintro e w' ⟨rfl, rfl⟩)
    go_ret
    refine ⟨ret_b ?_, (Below.refl _ _).alloc (Nat.le_refl _) _⟩
    rw [hasK, hk, Bool.true_and, and_one_i64]
  | false =>
    go_enter Tryz.func92, Tryz.ntmps92
    go_wp2_with (go_at_call 51; refine (known_c _ _).mono ?_; rintro e w' ⟨rfl, rfl⟩)
    go_ret
    refine ⟨ret_b ?_, (Below.refl _ _).alloc (Nat.le_refl _) _⟩
    rw [hasK, hk, Bool.false_and]

end Go.Proofs.YtefpgjocfgeenaaGreatDoor
