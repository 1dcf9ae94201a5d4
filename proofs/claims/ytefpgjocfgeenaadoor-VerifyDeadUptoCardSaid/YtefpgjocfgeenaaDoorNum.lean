/- The functions of package num: what each call answers. -/
import Derived.Test.YtefpgjocfgeenaaDoorProg
import Derived.Test.YtefpgjocfgeenaaDoorSpec
import Derived.Test.YtefpgjocfgeenaaDoorKit
namespace Go.Proofs.YtefpgjocfgeenaaDoor
open Go.RowKit Cap

set_option maxHeartbeats 400000 in
theorem known_c (t : Int) (w : World) :
    Calls Tryd.prog 48 #[.int .i64 t] w fun e w' => e = .returned (.bool (known t)) ∧ w = w' := by
  go_enter Tryd.func48, Tryd.ntmps48
  go_wp2
  · go_ret
    exact ⟨by simp [known, *], rfl⟩
  · go_ret
    have : ¬ (1 ≤ t) := by omega
    exact ⟨by simp [known, *], rfl⟩

theorem wrap_c (t n : Int) (w : World) :
    Calls Tryd.prog 49 #[.int .i64 t, .int .i64 n] w fun e w' => e = .returned (.int .i64 (wrapT t n)) ∧ w = w' := by
  go_enter Tryd.func49, Tryd.ntmps49
  go_wp2
  · go_ret
    have h1 : t = 1 := by simp_all
    exact ⟨ret_i (by rw [wrapT, if_pos h1, and_one_i64]), rfl⟩
  · go_ret
    have h1 : ¬ t = 1 := by simp_all
    have h2 : t = 2 := by simp_all
    exact ⟨ret_i (by rw [wrapT, if_neg h1, if_pos h2, wrap16_eq, wrap64_16]), rfl⟩
  · go_ret
    have h1 : ¬ t = 1 := by simp_all
    have h2 : ¬ t = 2 := by simp_all
    exact ⟨ret_i (by rw [wrapT, if_neg h1, if_neg h2, wrap64_32]), rfl⟩

theorem fits_c (t n : Int) (w : World) :
    Calls Tryd.prog 23 #[.int .i64 t, .int .i64 n] w fun e w' => e = .returned (.bool (fits t n)) ∧ w = w' := by
  cases hk : known t with
  | true =>
    go_enter Tryd.func23, Tryd.ntmps23
    go_wp2_with (first | (go_at_call 48; refine (known_c _ _).mono ?_; rintro e w' ⟨rfl, rfl⟩) | (go_at_call 49; refine (wrap_c _ _ _).mono ?_; rintro e w' ⟨rfl, rfl⟩))
    go_ret
    exact ⟨by simp [fits, hk], rfl⟩
  | false =>
    go_enter Tryd.func23, Tryd.ntmps23
    go_wp2_with (first | (go_at_call 48; refine (known_c _ _).mono ?_; rintro e w' ⟨rfl, rfl⟩) | (go_at_call 49; refine (wrap_c _ _ _).mono ?_; rintro e w' ⟨rfl, rfl⟩))
    go_ret
    exact ⟨by simp [fits, hk], rfl⟩

def doOf (n : Int) : FuncId :=
  if n = 1 then 58 else if n = 2 then 59 else if n = 3 then 60 else if n = 4 then 61 else if n = 5 then 62 else if n = 6 then 63 else if n = 7 then 64 else if n = 8 then 65 else if n = 9 then 66 else if n = 10 then 68 else if n = 11 then 69 else if n = 12 then 70 else if n = 13 then 71 else if n = 14 then 72 else if n = 15 then 73 else 74
def opCells : List Value := [.int .i64 28, .bool false, .func (.func 58) #[] #[], .bool false, .int .i64 28, .bool false, .func (.func 59) #[] #[], .bool false, .int .i64 12, .bool false, .func (.func 60) #[] #[], .bool false, .int .i64 12, .bool false, .func (.func 61) #[] #[], .bool false, .int .i64 12, .bool false, .func (.func 62) #[] #[], .bool false, .int .i64 14, .bool false, .func (.func 63) #[] #[], .bool false, .int .i64 14, .bool false, .func (.func 64) #[] #[], .bool false, .int .i64 14, .bool false, .func (.func 65) #[] #[], .bool false, .int .i64 30, .bool false, .func (.func 66) #[] #[], .bool true, .int .i64 30, .bool false, .func (.func 68) #[] #[], .bool true, .int .i64 28, .bool false, .func (.func 69) #[] #[], .bool true, .int .i64 28, .bool false, .func (.func 70) #[] #[], .bool true, .int .i64 28, .bool false, .func (.func 71) #[] #[], .bool true, .int .i64 28, .bool false, .func (.func 72) #[] #[], .bool true, .int .i64 28, .bool true, .func (.func 73) #[] #[], .bool false, .int .i64 14, .bool true, .func (.func 74) #[] #[], .bool false]
theorem op_cases {n : Int} (h : isOp n = true) : n = 1 ∨ n = 2 ∨ n = 3 ∨ n = 4 ∨ n = 5 ∨ n = 6 ∨ n = 7 ∨ n = 8 ∨ n = 9 ∨ n = 10 ∨ n = 11 ∨ n = 12 ∨ n = 13 ∨ n = 14 ∨ n = 15 ∨ n = 16 := by
  simp only [isOp, Bool.and_eq_true, decide_eq_true_eq] at h
  omega
theorem op_c0 {n : Int} (h : isOp n = true) : opCells[(n.toNat - 1) * 4]? = some (.int .i64 (kindsOf n)) := by
  rcases op_cases h with rfl | rfl | rfl | rfl | rfl | rfl | rfl | rfl | rfl | rfl | rfl | rfl | rfl | rfl | rfl | rfl <;> rfl
theorem op_c1 {n : Int} (h : isOp n = true) : opCells[(n.toNat - 1) * 4 + 1]? = some (.bool (oneOf n)) := by
  rcases op_cases h with rfl | rfl | rfl | rfl | rfl | rfl | rfl | rfl | rfl | rfl | rfl | rfl | rfl | rfl | rfl | rfl <;> rfl
theorem op_c2 {n : Int} (h : isOp n = true) : opCells[(n.toNat - 1) * 4 + 2]? = some (.func (.func (doOf n)) #[] #[]) := by
  rcases op_cases h with rfl | rfl | rfl | rfl | rfl | rfl | rfl | rfl | rfl | rfl | rfl | rfl | rfl | rfl | rfl | rfl <;> rfl
theorem op_c3 {n : Int} (h : isOp n = true) : opCells[(n.toNat - 1) * 4 + 3]? = some (.bool (truthOf n)) := by
  rcases op_cases h with rfl | rfl | rfl | rfl | rfl | rfl | rfl | rfl | rfl | rfl | rfl | rfl | rfl | rfl | rfl | rfl <;> rfl

set_option maxHeartbeats 1000000 in
theorem find_yes (n : Int) (w : World) (h : isOp n = true) :
    Calls Tryd.prog 54 #[.int .i64 n] w fun e w' => e = .returned (.tuple #[.agg #[.int .i64 (kindsOf n), .bool (oneOf n), .func (.func (doOf n)) #[] #[], .bool (truthOf n)], .bool true]) ∧ Below w.heap.size w w' := by
  have c0 := op_c0 h
  have c1 := op_c1 h
  have c2 := op_c2 h
  have c3 := op_c3 h
  unfold opCells at c0 c1 c2 c3
  simp only [isOp, Bool.and_eq_true, decide_eq_true_eq] at h
  obtain ⟨h1, h2⟩ := h
  have h3 : decide (n < 1) = false := by simp; omega
  have h4 : decide (16 < n) = false := by simp; omega
  go_enter Tryd.func54, Tryd.ntmps54
  go_wp2
  refine bodyPost_ret (v := .tuple #[.agg #[.int .i64 (kindsOf n), .bool (oneOf n), .func (.func (doOf n)) #[] #[], .bool (truthOf n)], .bool true]) (by simp [results, Tryd.results54, go_sem]) rfl ⟨rfl, ?_⟩
  exact ((Below.refl _ _).alloc (Nat.le_refl _) _).alloc (by simp) _

set_option maxHeartbeats 1000000 in
theorem find_no (n : Int) (w : World) (h : isOp n = false) :
    Calls Tryd.prog 54 #[.int .i64 n] w fun e w' => e = .returned (.tuple #[.agg #[.int .i64 0, .bool false, .nilFunc, .bool false], .bool false]) ∧ Below w.heap.size w w' := by
  simp only [isOp, Bool.and_eq_false_iff, decide_eq_false_iff_not, Int.not_le] at h
  by_cases h1 : n < 1
  · clear h
    go_enter Tryd.func54, Tryd.ntmps54
    go_wp2
    refine bodyPost_ret (v := .tuple #[.agg #[.int .i64 0, .bool false, .nilFunc, .bool false], .bool false]) (by simp [results, Tryd.results54, go_sem]) rfl ⟨rfl, ?_⟩
    exact ((Below.refl _ _).alloc (Nat.le_refl _) _).alloc (by simp) _
  · have h2 : 16 < n := by omega
    clear h
    go_enter Tryd.func54, Tryd.ntmps54
    go_wp2
    refine bodyPost_ret (v := .tuple #[.agg #[.int .i64 0, .bool false, .nilFunc, .bool false], .bool false]) (by simp [results, Tryd.results54, go_sem]) rfl ⟨rfl, ?_⟩
    exact ((Below.refl _ _).alloc (Nat.le_refl _) _).alloc (by simp) _

theorem flag_c (b : Bool) (w : World) : Calls Tryd.prog 67 #[.bool b] w fun e w' => e = .returned (.int .i64 (flag b)) ∧ w = w' := by
  cases b with
  | true =>
    go_enter Tryd.func67, Tryd.ntmps67
    go_wp2
    go_ret
    exact ⟨rfl, rfl⟩
  | false =>
    go_enter Tryd.func67, Tryd.ntmps67
    go_wp2
    go_ret
    exact ⟨rfl, rfl⟩
theorem do_1 (a b : Int) (w : World) : Calls Tryd.prog 58 #[.int .i64 a, .int .i64 b] w fun e w' => e = .returned (.int .i64 (opDo 1 a b)) ∧ w = w' := by
  go_enter Tryd.func58, Tryd.ntmps58
  go_wp2
  go_ret
  exact ⟨rfl, rfl⟩
theorem do_2 (a b : Int) (w : World) : Calls Tryd.prog 59 #[.int .i64 a, .int .i64 b] w fun e w' => e = .returned (.int .i64 (opDo 2 a b)) ∧ w = w' := by
  go_enter Tryd.func59, Tryd.ntmps59
  go_wp2
  go_ret
  exact ⟨rfl, rfl⟩
theorem do_3 (a b : Int) (w : World) : Calls Tryd.prog 60 #[.int .i64 a, .int .i64 b] w fun e w' => e = .returned (.int .i64 (opDo 3 a b)) ∧ w = w' := by
  go_enter Tryd.func60, Tryd.ntmps60
  go_wp2
  go_ret
  exact ⟨rfl, rfl⟩
theorem do_6 (a b : Int) (w : World) : Calls Tryd.prog 63 #[.int .i64 a, .int .i64 b] w fun e w' => e = .returned (.int .i64 (opDo 6 a b)) ∧ w = w' := by
  go_enter Tryd.func63, Tryd.ntmps63
  go_wp2
  go_ret
  exact ⟨rfl, rfl⟩
theorem do_7 (a b : Int) (w : World) : Calls Tryd.prog 64 #[.int .i64 a, .int .i64 b] w fun e w' => e = .returned (.int .i64 (opDo 7 a b)) ∧ w = w' := by
  go_enter Tryd.func64, Tryd.ntmps64
  go_wp2
  go_ret
  exact ⟨rfl, rfl⟩
theorem do_8 (a b : Int) (w : World) : Calls Tryd.prog 65 #[.int .i64 a, .int .i64 b] w fun e w' => e = .returned (.int .i64 (opDo 8 a b)) ∧ w = w' := by
  go_enter Tryd.func65, Tryd.ntmps65
  go_wp2
  go_ret
  exact ⟨rfl, rfl⟩
theorem do_15 (a b : Int) (w : World) : Calls Tryd.prog 73 #[.int .i64 a, .int .i64 b] w fun e w' => e = .returned (.int .i64 (opDo 15 a b)) ∧ w = w' := by
  go_enter Tryd.func73, Tryd.ntmps73
  go_wp2
  go_ret
  exact ⟨rfl, rfl⟩
theorem do_16 (a b : Int) (w : World) : Calls Tryd.prog 74 #[.int .i64 a, .int .i64 b] w fun e w' => e = .returned (.int .i64 (opDo 16 a b)) ∧ w = w' := by
  go_enter Tryd.func74, Tryd.ntmps74
  go_wp2
  go_ret
  exact ⟨rfl, rfl⟩
theorem do_4 (a b : Int) (w : World) (hb : b ≠ 0) : Calls Tryd.prog 61 #[.int .i64 a, .int .i64 b] w fun e w' => e = .returned (.int .i64 (opDo 4 a b)) ∧ w = w' := by
  go_enter Tryd.func61, Tryd.ntmps61
  go_wp2
  go_ret
  exact ⟨rfl, rfl⟩
theorem do_5 (a b : Int) (w : World) (hb : b ≠ 0) : Calls Tryd.prog 62 #[.int .i64 a, .int .i64 b] w fun e w' => e = .returned (.int .i64 (opDo 5 a b)) ∧ w = w' := by
  go_enter Tryd.func62, Tryd.ntmps62
  go_wp2
  go_ret
  exact ⟨rfl, rfl⟩
theorem do_9 (a b : Int) (w : World) : Calls Tryd.prog 66 #[.int .i64 a, .int .i64 b] w fun e w' => e = .returned (.int .i64 (opDo 9 a b)) ∧ w = w' := by
  go_enter Tryd.func66, Tryd.ntmps66
  go_wp2_with (go_at_call 67; refine (flag_c _ _).mono ?_; rintro e w' ⟨rfl, rfl⟩)
  go_ret
  exact ⟨rfl, rfl⟩
theorem do_10 (a b : Int) (w : World) : Calls Tryd.prog 68 #[.int .i64 a, .int .i64 b] w fun e w' => e = .returned (.int .i64 (opDo 10 a b)) ∧ w = w' := by
  go_enter Tryd.func68, Tryd.ntmps68
  go_wp2_with (go_at_call 67; refine (flag_c _ _).mono ?_; rintro e w' ⟨rfl, rfl⟩)
  go_ret
  exact ⟨rfl, rfl⟩
theorem do_11 (a b : Int) (w : World) : Calls Tryd.prog 69 #[.int .i64 a, .int .i64 b] w fun e w' => e = .returned (.int .i64 (opDo 11 a b)) ∧ w = w' := by
  go_enter Tryd.func69, Tryd.ntmps69
  go_wp2_with (go_at_call 67; refine (flag_c _ _).mono ?_; rintro e w' ⟨rfl, rfl⟩)
  go_ret
  exact ⟨rfl, rfl⟩
theorem do_12 (a b : Int) (w : World) : Calls Tryd.prog 70 #[.int .i64 a, .int .i64 b] w fun e w' => e = .returned (.int .i64 (opDo 12 a b)) ∧ w = w' := by
  go_enter Tryd.func70, Tryd.ntmps70
  go_wp2_with (go_at_call 67; refine (flag_c _ _).mono ?_; rintro e w' ⟨rfl, rfl⟩)
  go_ret
  exact ⟨rfl, rfl⟩
theorem do_13 (a b : Int) (w : World) : Calls Tryd.prog 71 #[.int .i64 a, .int .i64 b] w fun e w' => e = .returned (.int .i64 (opDo 13 a b)) ∧ w = w' := by
  go_enter Tryd.func71, Tryd.ntmps71
  go_wp2_with (go_at_call 67; refine (flag_c _ _).mono ?_; rintro e w' ⟨rfl, rfl⟩)
  go_ret
  exact ⟨rfl, rfl⟩
theorem do_14 (a b : Int) (w : World) : Calls Tryd.prog 72 #[.int .i64 a, .int .i64 b] w fun e w' => e = .returned (.int .i64 (opDo 14 a b)) ∧ w = w' := by
  go_enter Tryd.func72, Tryd.ntmps72
  go_wp2_with (go_at_call 67; refine (flag_c _ _).mono ?_; rintro e w' ⟨rfl, rfl⟩)
  go_ret
  exact ⟨rfl, rfl⟩

theorem do_c (n a b : Int) (w : World) (h : isOp n = true) (hb : (n = 4 ∨ n = 5) → b ≠ 0) :
    Calls Tryd.prog (doOf n) #[.int .i64 a, .int .i64 b] w fun e w' => e = .returned (.int .i64 (opDo n a b)) ∧ w = w' := by
  rcases op_cases h with rfl | rfl | rfl | rfl | rfl | rfl | rfl | rfl | rfl | rfl | rfl | rfl | rfl | rfl | rfl | rfl
  · exact do_1 a b w
  · exact do_2 a b w
  · exact do_3 a b w
  · exact do_4 a b w (hb (.inl rfl))
  · exact do_5 a b w (hb (.inr rfl))
  · exact do_6 a b w
  · exact do_7 a b w
  · exact do_8 a b w
  · exact do_9 a b w
  · exact do_10 a b w
  · exact do_11 a b w
  · exact do_12 a b w
  · exact do_13 a b w
  · exact do_14 a b w
  · exact do_15 a b w
  · exact do_16 a b w
theorem do_enters {n : Int} (h : isOp n = true) (args : Array Value) (w : World) : (callFunc (doOf n) args).run Tryd.prog w = .ok (.enter (doOf n) args) w := by
  rcases op_cases h with rfl | rfl | rfl | rfl | rfl | rfl | rfl | rfl | rfl | rfl | rfl | rfl | rfl | rfl | rfl | rfl <;> kernel_rfl

set_option maxHeartbeats 400000 in
theorem has_c (k t : Int) (o : Bool) (f : Value) (tr : Bool) (w : World) :
    Calls Tryd.prog 55 #[.agg #[.int .i64 k, .bool o, f, .bool tr], .int .i64 t] w fun e w' => e = .returned (.bool (hasK k t)) ∧ Below w.heap.size w w' := by
  cases hk : known t with
  | true =>
    have hk' := hk
    simp only [known, Bool.and_eq_true, decide_eq_true_eq] at hk'
    obtain ⟨h1, h2⟩ := hk'
    go_enter Tryd.func55, Tryd.ntmps55
    go_wp2_with (go_at_call 48; refine (known_c _ _).mono ?_; rintro e w' ⟨rfl, rfl⟩)
    go_ret
    refine ⟨ret_b ?_, (Below.refl _ _).alloc (Nat.le_refl _) _⟩
    rw [hasK, hk, Bool.true_and, and_one_i64]
  | false =>
    go_enter Tryd.func55, Tryd.ntmps55
    go_wp2_with (go_at_call 48; refine (known_c _ _).mono ?_; rintro e w' ⟨rfl, rfl⟩)
    go_ret
    refine ⟨ret_b ?_, (Below.refl _ _).alloc (Nat.le_refl _) _⟩
    rw [hasK, hk, Bool.false_and]

end Go.Proofs.YtefpgjocfgeenaaDoor
