/- The functions of package num: what each call answers. -/
import Derived.Test.YtenjkplijblcoaaGreatDoorProg
import Derived.Test.YtenjkplijblcoaaGreatDoorCBase
import Derived.Lib.Hide
set_option linter.unusedSimpArgs false
set_option linter.unusedVariables false
namespace Go.Proofs.YtenjkplijblcoaaGreatDoor
open Go.RowKit Cap

set_option maxHeartbeats 400000 in
theorem known_c (t : Int) (w : World) :
    Calls Tryz.prog 34 #[.int .i64 t] w fun e w' => e = .returned (.bool (known t)) ∧ w = w' := by
  go_enter Tryz.func34, Tryz.ntmps34
  go_wp2
  · go_ret
    exact ⟨by simp [known, *], rfl⟩
  · go_ret
    have : ¬ (1 ≤ t) := by omega
    exact ⟨by simp [known, *], rfl⟩

theorem wrap_c (t n : Int) (w : World) :
    Calls Tryz.prog 35 #[.int .i64 t, .int .i64 n] w fun e w' => e = .returned (.int .i64 (wrapT t n)) ∧ w = w' := by
  go_enter Tryz.func35, Tryz.ntmps35
  go_wp2
  · go_ret
    have h1 : t = 1 := by simp_all
    exact ⟨ret_i (by rw [wrapT, if_pos h1, and_one_i64]), rfl⟩
  · go_ret
    have h1 : ¬ t = 1 := by simp_all
    have h2 : t = 2 := by simp_all
    exact ⟨ret_i (by rw [wrapT, if_neg h1, if_pos h2, wrap16_eq, wrap64_16]), rfl⟩
  · go_ret
    have h1 : ¬ t = 1 := by simp_all
    have h2 : ¬ t = 2 := by simp_all
    exact ⟨ret_i (by rw [wrapT, if_neg h1, if_neg h2, wrap64_32]), rfl⟩

theorem fits_c (t n : Int) (w : World) :
    Calls Tryz.prog 19 #[.int .i64 t, .int .i64 n] w fun e w' => e = .returned (.bool (fits t n)) ∧ w = w' := by
  cases hk : known t with
  | true =>
    go_enter Tryz.func19, Tryz.ntmps19
    go_wp2_with (first | (go_at_call 34; refine (known_c _ _).mono ?_; rintro e w' ⟨rfl, rfl⟩) | (go_at_call 35; refine (wrap_c _ _ _).mono ?_; rintro e w' ⟨rfl, rfl⟩))
    go_ret
    exact ⟨by simp [fits, hk], rfl⟩
  | false =>
    go_enter Tryz.func19, Tryz.ntmps19
    go_wp2_with (first | (go_at_call 34; refine (known_c _ _).mono ?_; rintro e w' ⟨rfl, rfl⟩) | (go_at_call 35; refine (wrap_c _ _ _).mono ?_; rintro e w' ⟨rfl, rfl⟩))
    go_ret
    exact ⟨by simp [fits, hk], rfl⟩

def doOf (n : Int) : FuncId :=
  if n = 1 then 89 else if n = 2 then 90 else if n = 3 then 91 else if n = 4 then 92 else if n = 5 then 93 else if n = 6 then 94 else if n = 7 then 95 else if n = 8 then 96 else if n = 9 then 97 else if n = 10 then 99 else if n = 11 then 100 else if n = 12 then 101 else if n = 13 then 102 else if n = 14 then 103 else if n = 15 then 104 else 105
def opCells : List Value := [.int .i64 28, .bool false, .func (.func 89) #[] #[], .bool false, .int .i64 28, .bool false, .func (.func 90) #[] #[], .bool false, .int .i64 12, .bool false, .func (.func 91) #[] #[], .bool false, .int .i64 12, .bool false, .func (.func 92) #[] #[], .bool false, .int .i64 12, .bool false, .func (.func 93) #[] #[], .bool false, .int .i64 14, .bool false, .func (.func 94) #[] #[], .bool false, .int .i64 14, .bool false, .func (.func 95) #[] #[], .bool false, .int .i64 14, .bool false, .func (.func 96) #[] #[], .bool false, .int .i64 30, .bool false, .func (.func 97) #[] #[], .bool true, .int .i64 30, .bool false, .func (.func 99) #[] #[], .bool true, .int .i64 28, .bool false, .func (.func 100) #[] #[], .bool true, .int .i64 28, .bool false, .func (.func 101) #[] #[], .bool true, .int .i64 28, .bool false, .func (.func 102) #[] #[], .bool true, .int .i64 28, .bool false, .func (.func 103) #[] #[], .bool true, .int .i64 28, .bool true, .func (.func 104) #[] #[], .bool false, .int .i64 14, .bool true, .func (.func 105) #[] #[], .bool false]
theorem op_cases {n : Int} (h : isOp n = true) : n = 1 ∨ n = 2 ∨ n = 3 ∨ n = 4 ∨ n = 5 ∨ n = 6 ∨ n = 7 ∨ n = 8 ∨ n = 9 ∨ n = 10 ∨ n = 11 ∨ n = 12 ∨ n = 13 ∨ n = 14 ∨ n = 15 ∨ n = 16 := by
  simp only [isOp, Bool.and_eq_true, decide_eq_true_eq] at h
  omega
theorem op_c0 {n : Int} (h : isOp n = true) : opCells[(n.toNat - 1) * 4]? = some (.int .i64 (kindsOf n)) := by
  rcases op_cases h with rfl | rfl | rfl | rfl | rfl | rfl | rfl | rfl | rfl | rfl | rfl | rfl | rfl | rfl | rfl | rfl <;> rfl
theorem op_c1 {n : Int} (h : isOp n = true) : opCells[(n.toNat - 1) * 4 + 1]? = some (.bool (oneOf n)) := by
  rcases op_cases h with rfl | rfl | rfl | rfl | rfl | rfl | rfl | rfl | rfl | rfl | rfl | rfl | rfl | rfl | rfl | rfl <;> rfl
theorem op_c2 {n : Int} (h : isOp n = true) : opCells[(n.toNat - 1) * 4 + 2]? = some (.func (.func (doOf n)) #[] #[]) := by
  rcases op_cases h with rfl | rfl | rfl | rfl | rfl | rfl | rfl | rfl | rfl | rfl | rfl | rfl | rfl | rfl | rfl | rfl <;> rfl
theorem op_c3 {n : Int} (h : isOp n = true) : opCells[(n.toNat - 1) * 4 + 3]? = some (.bool (truthOf n)) := by
  rcases op_cases h with rfl | rfl | rfl | rfl | rfl | rfl | rfl | rfl | rfl | rfl | rfl | rfl | rfl | rfl | rfl | rfl <;> rfl

set_option maxHeartbeats 1000000 in
theorem find_yes (n : Int) (w : World) (h : isOp n = true) :
    Calls Tryz.prog 62 #[.int .i64 n] w fun e w' => e = .returned (.tuple #[.agg #[.int .i64 (kindsOf n), .bool (oneOf n), .func (.func (doOf n)) #[] #[], .bool (truthOf n)], .bool true]) ∧ Below w.heap.size w w' := by
  have c0 := op_c0 h
  have c1 := op_c1 h
  have c2 := op_c2 h
  have c3 := op_c3 h
  unfold opCells at c0 c1 c2 c3
  simp only [isOp, Bool.and_eq_true, decide_eq_true_eq] at h
  obtain ⟨h1, h2⟩ := h
  have h3 : decide (n < 1) = false := by simp; omega
  have h4 : decide (16 < n) = false := by simp; omega
  go_enter Tryz.func62, Tryz.ntmps62
  go_wp2
  refine bodyPost_ret (v := .tuple #[.agg #[.int .i64 (kindsOf n), .bool (oneOf n), .func (.func (doOf n)) #[] #[], .bool (truthOf n)], .bool true]) (by simp [results, Tryz.results62, go_sem]) rfl ⟨rfl, ?_⟩
  exact ((Below.refl _ _).alloc (Nat.le_refl _) _).alloc (by simp) _

set_option maxHeartbeats 1000000 in
theorem find_no (n : Int) (w : World) (h : isOp n = false) :
    Calls Tryz.prog 62 #[.int .i64 n] w fun e w' => e = .returned (.tuple #[.agg #[.int .i64 0, .bool false, .nilFunc, .bool false], .bool false]) ∧ Below w.heap.size w w' := by
  simp only [isOp, Bool.and_eq_false_iff, decide_eq_false_iff_not, Int.not_le] at h
  by_cases h1 : n < 1
  · clear h
    go_enter Tryz.func62, Tryz.ntmps62
    go_wp2
    refine bodyPost_ret (v := .tuple #[.agg #[.int .i64 0, .bool false, .nilFunc, .bool false], .bool false]) (by simp [results, Tryz.results62, go_sem]) rfl ⟨rfl, ?_⟩
    exact ((Below.refl _ _).alloc (Nat.le_refl _) _).alloc (by simp) _
  · have h2 : 16 < n := by omega
    clear h
    go_enter Tryz.func62, Tryz.ntmps62
    go_wp2
    refine bodyPost_ret (v := .tuple #[.agg #[.int .i64 0, .bool false, .nilFunc, .bool false], .bool false]) (by simp [results, Tryz.results62, go_sem]) rfl ⟨rfl, ?_⟩
    exact ((Below.refl _ _).alloc (Nat.le_refl _) _).alloc (by simp) _

theorem flag_c (b : Bool) (w : World) : Calls Tryz.prog 98 #[.bool b] w fun e w' => e = .returned (.int .i64 (flag b)) ∧ w = w' := by
  cases b with
  | true =>
    go_enter Tryz.func98, Tryz.ntmps98
    go_wp2
    go_ret
    exact ⟨rfl, rfl⟩
  | false =>
    go_enter Tryz.func98, Tryz.ntmps98
    go_wp2
    go_ret
    exact ⟨rfl, rfl⟩
theorem do_1 (a b : Int) (w : World) : Calls Tryz.prog 89 #[.int .i64 a, .int .i64 b] w fun e w' => e = .returned (.int .i64 (opDo 1 a b)) ∧ w = w' := by
  go_enter Tryz.func89, Tryz.ntmps89
  go_wp2
  go_ret
  exact ⟨rfl, rfl⟩
theorem do_2 (a b : Int) (w : World) : Calls Tryz.prog 90 #[.int .i64 a, .int .i64 b] w fun e w' => e = .returned (.int .i64 (opDo 2 a b)) ∧ w = w' := by
  go_enter Tryz.func90, Tryz.ntmps90
  go_wp2
  go_ret
  exact ⟨rfl, rfl⟩
theorem do_3 (a b : Int) (w : World) : Calls Tryz.prog 91 #[.int .i64 a, .int .i64 b] w fun e w' => e = .returned (.int .i64 (opDo 3 a b)) ∧ w = w' := by
  go_enter Tryz.func91, Tryz.ntmps91
  go_wp2
  go_ret
  exact ⟨rfl, rfl⟩
theorem do_6 (a b : Int) (w : World) : Calls Tryz.prog 94 #[.int .i64 a, .int .i64 b] w fun e w' => e = .returned (.int .i64 (opDo 6 a b)) ∧ w = w' := by
  go_enter Tryz.func94, Tryz.ntmps94
  go_wp2
  go_ret
  exact ⟨rfl, rfl⟩
theorem do_7 (a b : Int) (w : World) : Calls Tryz.prog 95 #[.int .i64 a, .int .i64 b] w fun e w' => e = .returned (.int .i64 (opDo 7 a b)) ∧ w = w' := by
  go_enter Tryz.func95, Tryz.ntmps95
  go_wp2
  go_ret
  exact ⟨rfl, rfl⟩
theorem do_8 (a b : Int) (w : World) : Calls Tryz.prog 96 #[.int .i64 a, .int .i64 b] w fun e w' => e = .returned (.int .i64 (opDo 8 a b)) ∧ w = w' := by
  go_enter Tryz.func96, Tryz.ntmps96
  go_wp2
  go_ret
  exact ⟨rfl, rfl⟩
theorem do_15 (a b : Int) (w : World) : Calls Tryz.prog 104 #[.int .i64 a, .int .i64 b] w fun e w' => e = .returned (.int .i64 (opDo 15 a b)) ∧ w = w' := by
  go_enter Tryz.func104, Tryz.ntmps104
  go_wp2
  go_ret
  exact ⟨rfl, rfl⟩
theorem do_16 (a b : Int) (w : World) : Calls Tryz.prog 105 #[.int .i64 a, .int .i64 b] w fun e w' => e = .returned (.int .i64 (opDo 16 a b)) ∧ w = w' := by
  go_enter Tryz.func105, Tryz.ntmps105
  go_wp2
  go_ret
  exact ⟨rfl, rfl⟩
theorem do_4 (a b : Int) (w : World) (hb : b ≠ 0) : Calls Tryz.prog 92 #[.int .i64 a, .int .i64 b] w fun e w' => e = .returned (.int .i64 (opDo 4 a b)) ∧ w = w' := by
  go_enter Tryz.func92, Tryz.ntmps92
  go_wp2
  go_ret
  exact ⟨rfl, rfl⟩
theorem do_5 (a b : Int) (w : World) (hb : b ≠ 0) : Calls Tryz.prog 93 #[.int .i64 a, .int .i64 b] w fun e w' => e = .returned (.int .i64 (opDo 5 a b)) ∧ w = w' := by
  go_enter Tryz.func93, Tryz.ntmps93
  go_wp2
  go_ret
  exact ⟨rfl, rfl⟩
theorem do_9 (a b : Int) (w : World) : Calls Tryz.prog 97 #[.int .i64 a, .int .i64 b] w fun e w' => e = .returned (.int .i64 (opDo 9 a b)) ∧ w = w' := by
  go_enter Tryz.func97, Tryz.ntmps97
  go_wp2_with (go_at_call 98; refine (flag_c _ _).mono ?_; rintro e w' ⟨rfl, rfl⟩)
  go_ret
  exact ⟨rfl, rfl⟩
theorem do_10 (a b : Int) (w : World) : Calls Tryz.prog 99 #[.int .i64 a, .int .i64 b] w fun e w' => e = .returned (.int .i64 (opDo 10 a b)) ∧ w = w' := by
  go_enter Tryz.func99, Tryz.ntmps99
  go_wp2_with (go_at_call 98; refine (flag_c _ _).mono ?_; rintro e w' ⟨rfl, rfl⟩)
  go_ret
  exact ⟨rfl, rfl⟩
theorem do_11 (a b : Int) (w : World) : Calls Tryz.prog 100 #[.int .i64 a, .int .i64 b] w fun e w' => e = .returned (.int .i64 (opDo 11 a b)) ∧ w = w' := by
  go_enter Tryz.func100, Tryz.ntmps100
  go_wp2_with (go_at_call 98; refine (flag_c _ _).mono ?_; rintro e w' ⟨rfl, rfl⟩)
  go_ret
  exact ⟨rfl, rfl⟩
theorem do_12 (a b : Int) (w : World) : Calls Tryz.prog 101 #[.int .i64 a, .int .i64 b] w fun e w' => e = .returned (.int .i64 (opDo 12 a b)) ∧ w = w' := by
  go_enter Tryz.func101, Tryz.ntmps101
  go_wp2_with (go_at_call 98; refine (flag_c _ _).mono ?_; rintro e w' ⟨rfl, rfl⟩)
  go_ret
  exact ⟨rfl, rfl⟩
theorem do_13 (a b : Int) (w : World) : Calls Tryz.prog 102 #[.int .i64 a, .int .i64 b] w fun e w' => e = .returned (.int .i64 (opDo 13 a b)) ∧ w = w' := by
  go_enter Tryz.func102, Tryz.ntmps102
  go_wp2_with (go_at_call 98; refine (flag_c _ _).mono ?_; rintro e w' ⟨rfl, rfl⟩)
  go_ret
  exact ⟨rfl, rfl⟩
theorem do_14 (a b : Int) (w : World) : Calls Tryz.prog 103 #[.int .i64 a, .int .i64 b] w fun e w' => e = .returned (.int .i64 (opDo 14 a b)) ∧ w = w' := by
  go_enter Tryz.func103, Tryz.ntmps103
  go_wp2_with (go_at_call 98; refine (flag_c _ _).mono ?_; rintro e w' ⟨rfl, rfl⟩)
  go_ret
  exact ⟨rfl, rfl⟩

theorem do_c (n a b : Int) (w : World) (h : isOp n = true) (hb : (n = 4 ∨ n = 5) → b ≠ 0) :
    Calls Tryz.prog (doOf n) #[.int .i64 a, .int .i64 b] w fun e w' => e = .returned (.int .i64 (opDo n a b)) ∧ w = w' := by
  rcases op_cases h with rfl | rfl | rfl | rfl | rfl | rfl | rfl | rfl | rfl | rfl | rfl | rfl | rfl | rfl | rfl | rfl
  · exact do_1 a b w
  · exact do_2 a b w
  · exact do_3 a b w
  · exact do_4 a b w (hb (.inl rfl))
  · exact do_5 a b w (hb (.inr rfl))
  · exact do_6 a b w
  · exact do_7 a b w
  · exact do_8 a b w
  · exact do_9 a b w
  · exact do_10 a b w
  · exact do_11 a b w
  · exact do_12 a b w
  · exact do_13 a b w
  · exact do_14 a b w
  · exact do_15 a b w
  · exact do_16 a b w
theorem do_enters {n : Int} (h : isOp n = true) (args : Array Value) (w : World) : (callFunc (doOf n) args).run Tryz.prog w = .ok (.enter (doOf n) args) w := by
  rcases op_cases h with rfl | rfl | rfl | rfl | rfl | rfl | rfl | rfl | rfl | rfl | rfl | rfl | rfl | rfl | rfl | rfl <;> kernel_rfl

set_option maxHeartbeats 400000 in
theorem has_c (k t : Int) (o : Bool) (f : Value) (tr : Bool) (w : World) :
    Calls Tryz.prog 63 #[.agg #[.int .i64 k, .bool o, f, .bool tr], .int .i64 t] w fun e w' => e = .returned (.bool (hasK k t)) ∧ Below w.heap.size w w' := by
  cases hk : known t with
  | true =>
    have hk' := hk
    simp only [known, Bool.and_eq_true, decide_eq_true_eq] at hk'
    obtain ⟨h1, h2⟩ := hk'
    go_enter Tryz.func63, Tryz.ntmps63
    go_wp2_with (go_at_call 34; refine (known_c _ _).mono ?_; rintro e w' ⟨rfl, rfl⟩)
    go_ret
    refine ⟨ret_b ?_, (Below.refl _ _).alloc (Nat.le_refl _) _⟩
    rw [hasK, hk, Bool.true_and, and_one_i64]
  | false =>
    go_enter Tryz.func63, Tryz.ntmps63
    go_wp2_with (go_at_call 34; refine (known_c _ _).mono ?_; rintro e w' ⟨rfl, rfl⟩)
    go_ret
    refine ⟨ret_b ?_, (Below.refl _ _).alloc (Nat.le_refl _) _⟩
    rw [hasK, hk, Bool.false_and]

end Go.Proofs.YtenjkplijblcoaaGreatDoor

/- The exported functions of package num: what each call answers. -/
namespace Go.Proofs.YtenjkplijblcoaaGreatDoor
open Go.RowKit Cap

set_option maxHeartbeats 400000 in
theorem result_c (n t : Int) (w : World) :
    Calls Tryz.prog 77 #[.int .i64 n, .int .i64 t] w fun e w' => e = .returned (.tuple #[.int .i64 (result n t).1, .int .i64 (result n t).2]) ∧ Below w.heap.size w w' := by
  cases ho : isOp n with
  | true =>
    cases hh : hasK (kindsOf n) t with
    | true =>
      cases htr : truthOf n with
      | true =>
        go_enter Tryz.func77, Tryz.ntmps77
        go_wp2_with (first | (go_at_call 62; refine (find_yes _ _ ho).mono ?_; rintro e w1 ⟨rfl, hb⟩; obtain ⟨hc, hf⟩ := bcell hb; have hz := hb.size; (try simp at hz); (try have hz1 := Nat.lt_of_succ_le hz); (try have hz2 := Nat.lt_of_succ_lt hz1); (try have hz3 := Nat.lt_of_succ_lt hz2); (try have hz4 := Nat.lt_of_succ_lt hz3)) | (go_at_call 63; refine (has_c _ _ _ _ _ _).mono ?_; rintro e w1 ⟨rfl, hb⟩; obtain ⟨hc, hf⟩ := bcell hb; have hz := hb.size; (try simp at hz); (try have hz1 := Nat.lt_of_succ_le hz); (try have hz2 := Nat.lt_of_succ_lt hz1); (try have hz3 := Nat.lt_of_succ_lt hz2); (try have hz4 := Nat.lt_of_succ_lt hz3)))
        go_ret2
        exact ⟨ret_ii (by simp [result, opHas, *]) (by simp [result, opHas, *]), by (repeat' (first | (with_reducible exact Below.refl _ _) | (with_reducible refine below_alloc ?_) | (with_reducible refine below_drew ?_) | (with_reducible refine below_drewN ?_) | (with_reducible refine below_set (by simp; omega) ?_) | (with_reducible refine below_call (by with_reducible assumption) ?_)))⟩
      | false =>
        go_enter Tryz.func77, Tryz.ntmps77
        go_wp2_with (first | (go_at_call 62; refine (find_yes _ _ ho).mono ?_; rintro e w1 ⟨rfl, hb⟩; obtain ⟨hc, hf⟩ := bcell hb; have hz := hb.size; (try simp at hz); (try have hz1 := Nat.lt_of_succ_le hz); (try have hz2 := Nat.lt_of_succ_lt hz1); (try have hz3 := Nat.lt_of_succ_lt hz2); (try have hz4 := Nat.lt_of_succ_lt hz3)) | (go_at_call 63; refine (has_c _ _ _ _ _ _).mono ?_; rintro e w1 ⟨rfl, hb⟩; obtain ⟨hc, hf⟩ := bcell hb; have hz := hb.size; (try simp at hz); (try have hz1 := Nat.lt_of_succ_le hz); (try have hz2 := Nat.lt_of_succ_lt hz1); (try have hz3 := Nat.lt_of_succ_lt hz2); (try have hz4 := Nat.lt_of_succ_lt hz3)))
        go_ret2
        exact ⟨ret_ii (by simp [result, opHas, *]) (by simp [result, opHas, *]), by (repeat' (first | (with_reducible exact Below.refl _ _) | (with_reducible refine below_alloc ?_) | (with_reducible refine below_drew ?_) | (with_reducible refine below_drewN ?_) | (with_reducible refine below_set (by simp; omega) ?_) | (with_reducible refine below_call (by with_reducible assumption) ?_)))⟩
    | false =>
      go_enter Tryz.func77, Tryz.ntmps77
      go_wp2_with (first | (go_at_call 62; refine (find_yes _ _ ho).mono ?_; rintro e w1 ⟨rfl, hb⟩; obtain ⟨hc, hf⟩ := bcell hb; have hz := hb.size; (try simp at hz); (try have hz1 := Nat.lt_of_succ_le hz); (try have hz2 := Nat.lt_of_succ_lt hz1); (try have hz3 := Nat.lt_of_succ_lt hz2); (try have hz4 := Nat.lt_of_succ_lt hz3)) | (go_at_call 63; refine (has_c _ _ _ _ _ _).mono ?_; rintro e w1 ⟨rfl, hb⟩; obtain ⟨hc, hf⟩ := bcell hb; have hz := hb.size; (try simp at hz); (try have hz1 := Nat.lt_of_succ_le hz); (try have hz2 := Nat.lt_of_succ_lt hz1); (try have hz3 := Nat.lt_of_succ_lt hz2); (try have hz4 := Nat.lt_of_succ_lt hz3)))
      go_ret2
      exact ⟨ret_ii (by simp [result, opHas, *]) (by simp [result, opHas, *]), by (repeat' (first | (with_reducible exact Below.refl _ _) | (with_reducible refine below_alloc ?_) | (with_reducible refine below_drew ?_) | (with_reducible refine below_drewN ?_) | (with_reducible refine below_set (by simp; omega) ?_) | (with_reducible refine below_call (by with_reducible assumption) ?_)))⟩
  | false =>
    go_enter Tryz.func77, Tryz.ntmps77
    go_wp2_with (first | (go_at_call 62; refine (find_no _ _ ho).mono ?_; rintro e w1 ⟨rfl, hb⟩; obtain ⟨hc, hf⟩ := bcell hb; have hz := hb.size; (try simp at hz); (try have hz1 := Nat.lt_of_succ_le hz); (try have hz2 := Nat.lt_of_succ_lt hz1); (try have hz3 := Nat.lt_of_succ_lt hz2); (try have hz4 := Nat.lt_of_succ_lt hz3)) | (go_at_call 63; refine (has_c _ _ _ _ _ _).mono ?_; rintro e w1 ⟨rfl, hb⟩; obtain ⟨hc, hf⟩ := bcell hb; have hz := hb.size; (try simp at hz); (try have hz1 := Nat.lt_of_succ_le hz); (try have hz2 := Nat.lt_of_succ_lt hz1); (try have hz3 := Nat.lt_of_succ_lt hz2); (try have hz4 := Nat.lt_of_succ_lt hz3)))
    go_ret2
    exact ⟨ret_ii (by simp [result, opHas, *]) (by simp [result, opHas, *]), by (repeat' (first | (with_reducible exact Below.refl _ _) | (with_reducible refine below_alloc ?_) | (with_reducible refine below_drew ?_) | (with_reducible refine below_drewN ?_) | (with_reducible refine below_set (by simp; omega) ?_) | (with_reducible refine below_call (by with_reducible assumption) ?_)))⟩

set_option maxRecDepth 100000
set_option maxHeartbeats 1000000 in
theorem does_c (n t : Int) (o : Bool) (a b : Int) (w : World) :
    Calls Tryz.prog 36 #[.int .i64 n, .int .i64 t, .bool o, .int .i64 a, .int .i64 b] w fun e w' => e = .returned (.tuple #[.int .i64 (does n t o a b).1, .int .i64 (does n t o a b).2]) ∧ Below w.heap.size w w' := by
  cases ho : isOp n
  · go_enter Tryz.func36, Tryz.ntmps36
    go_wp2_with (first | (go_at_call 62; refine (find_no _ _ ho).mono ?_; rintro e w1 ⟨rfl, hb⟩; obtain ⟨hc, hf⟩ := bcell hb; have hz := hb.size; (try simp at hz); (try have hz1 := Nat.lt_of_succ_le hz); (try have hz2 := Nat.lt_of_succ_lt hz1); (try have hz3 := Nat.lt_of_succ_lt hz2); (try have hz4 := Nat.lt_of_succ_lt hz3)))
    go_ret2
    exact ⟨ret_ii (by simp [does, *]) (by simp [does, *]), by (repeat' (first | (with_reducible exact Below.refl _ _) | (with_reducible refine below_alloc ?_) | (with_reducible refine below_drew ?_) | (with_reducible refine below_drewN ?_) | (with_reducible refine below_set (by simp; omega) ?_) | (with_reducible refine below_call (by with_reducible assumption) ?_)))⟩
  have hen := @do_enters n ho
  cases h1 : (oneOf n == o)
  · go_enter Tryz.func36, Tryz.ntmps36
    go_wp2_with (first | (go_at_call 62; refine (find_yes _ _ ho).mono ?_; rintro e w1 ⟨rfl, hb⟩; obtain ⟨hc, hf⟩ := bcell hb; have hz := hb.size; (try simp at hz); (try have hz1 := Nat.lt_of_succ_le hz); (try have hz2 := Nat.lt_of_succ_lt hz1); (try have hz3 := Nat.lt_of_succ_lt hz2); (try have hz4 := Nat.lt_of_succ_lt hz3)) | (go_at_call 62; refine (find_no _ _ ho).mono ?_; rintro e w1 ⟨rfl, hb⟩; obtain ⟨hc, hf⟩ := bcell hb; have hz := hb.size; (try simp at hz); (try have hz1 := Nat.lt_of_succ_le hz); (try have hz2 := Nat.lt_of_succ_lt hz1); (try have hz3 := Nat.lt_of_succ_lt hz2); (try have hz4 := Nat.lt_of_succ_lt hz3)) | (go_at_call 63; refine (has_c _ _ _ _ _ _).mono ?_; rintro e w1 ⟨rfl, hb⟩; obtain ⟨hc, hf⟩ := bcell hb; have hz := hb.size; (try simp at hz); (try have hz1 := Nat.lt_of_succ_le hz); (try have hz2 := Nat.lt_of_succ_lt hz1); (try have hz3 := Nat.lt_of_succ_lt hz2); (try have hz4 := Nat.lt_of_succ_lt hz3)) | (go_at_call 19; refine (fits_c _ _ _).mono ?_; rintro e w1 ⟨rfl, rfl⟩) | (go_at_call 35; refine (wrap_c _ _ _).mono ?_; rintro e w1 ⟨rfl, rfl⟩) | (refine (do_c _ _ _ _ ho (fun h => absurd h (by omega))).mono ?_; rintro e w1 ⟨rfl, rfl⟩))
    go_ret2
    exact ⟨ret_ii (by simp [does, *]) (by simp [does, *]), by (repeat' (first | (with_reducible exact Below.refl _ _) | (with_reducible refine below_alloc ?_) | (with_reducible refine below_drew ?_) | (with_reducible refine below_drewN ?_) | (with_reducible refine below_set (by simp; omega) ?_) | (with_reducible refine below_call (by with_reducible assumption) ?_)))⟩
  cases h2 : hasK (kindsOf n) t
  · go_enter Tryz.func36, Tryz.ntmps36
    go_wp2_with (first | (go_at_call 62; refine (find_yes _ _ ho).mono ?_; rintro e w1 ⟨rfl, hb⟩; obtain ⟨hc, hf⟩ := bcell hb; have hz := hb.size; (try simp at hz); (try have hz1 := Nat.lt_of_succ_le hz); (try have hz2 := Nat.lt_of_succ_lt hz1); (try have hz3 := Nat.lt_of_succ_lt hz2); (try have hz4 := Nat.lt_of_succ_lt hz3)) | (go_at_call 62; refine (find_no _ _ ho).mono ?_; rintro e w1 ⟨rfl, hb⟩; obtain ⟨hc, hf⟩ := bcell hb; have hz := hb.size; (try simp at hz); (try have hz1 := Nat.lt_of_succ_le hz); (try have hz2 := Nat.lt_of_succ_lt hz1); (try have hz3 := Nat.lt_of_succ_lt hz2); (try have hz4 := Nat.lt_of_succ_lt hz3)) | (go_at_call 63; refine (has_c _ _ _ _ _ _).mono ?_; rintro e w1 ⟨rfl, hb⟩; obtain ⟨hc, hf⟩ := bcell hb; have hz := hb.size; (try simp at hz); (try have hz1 := Nat.lt_of_succ_le hz); (try have hz2 := Nat.lt_of_succ_lt hz1); (try have hz3 := Nat.lt_of_succ_lt hz2); (try have hz4 := Nat.lt_of_succ_lt hz3)) | (go_at_call 19; refine (fits_c _ _ _).mono ?_; rintro e w1 ⟨rfl, rfl⟩) | (go_at_call 35; refine (wrap_c _ _ _).mono ?_; rintro e w1 ⟨rfl, rfl⟩) | (refine (do_c _ _ _ _ ho (fun h => absurd h (by omega))).mono ?_; rintro e w1 ⟨rfl, rfl⟩))
    go_ret2
    exact ⟨ret_ii (by simp [does, *]) (by simp [does, *]), by (repeat' (first | (with_reducible exact Below.refl _ _) | (with_reducible refine below_alloc ?_) | (with_reducible refine below_drew ?_) | (with_reducible refine below_drewN ?_) | (with_reducible refine below_set (by simp; omega) ?_) | (with_reducible refine below_call (by with_reducible assumption) ?_)))⟩
  cases h3 : fits t a
  · go_enter Tryz.func36, Tryz.ntmps36
    go_wp2_with (first | (go_at_call 62; refine (find_yes _ _ ho).mono ?_; rintro e w1 ⟨rfl, hb⟩; obtain ⟨hc, hf⟩ := bcell hb; have hz := hb.size; (try simp at hz); (try have hz1 := Nat.lt_of_succ_le hz); (try have hz2 := Nat.lt_of_succ_lt hz1); (try have hz3 := Nat.lt_of_succ_lt hz2); (try have hz4 := Nat.lt_of_succ_lt hz3)) | (go_at_call 62; refine (find_no _ _ ho).mono ?_; rintro e w1 ⟨rfl, hb⟩; obtain ⟨hc, hf⟩ := bcell hb; have hz := hb.size; (try simp at hz); (try have hz1 := Nat.lt_of_succ_le hz); (try have hz2 := Nat.lt_of_succ_lt hz1); (try have hz3 := Nat.lt_of_succ_lt hz2); (try have hz4 := Nat.lt_of_succ_lt hz3)) | (go_at_call 63; refine (has_c _ _ _ _ _ _).mono ?_; rintro e w1 ⟨rfl, hb⟩; obtain ⟨hc, hf⟩ := bcell hb; have hz := hb.size; (try simp at hz); (try have hz1 := Nat.lt_of_succ_le hz); (try have hz2 := Nat.lt_of_succ_lt hz1); (try have hz3 := Nat.lt_of_succ_lt hz2); (try have hz4 := Nat.lt_of_succ_lt hz3)) | (go_at_call 19; refine (fits_c _ _ _).mono ?_; rintro e w1 ⟨rfl, rfl⟩) | (go_at_call 35; refine (wrap_c _ _ _).mono ?_; rintro e w1 ⟨rfl, rfl⟩) | (refine (do_c _ _ _ _ ho (fun h => absurd h (by omega))).mono ?_; rintro e w1 ⟨rfl, rfl⟩))
    go_ret2
    exact ⟨ret_ii (by simp [does, *]) (by simp [does, *]), by (repeat' (first | (with_reducible exact Below.refl _ _) | (with_reducible refine below_alloc ?_) | (with_reducible refine below_drew ?_) | (with_reducible refine below_drewN ?_) | (with_reducible refine below_set (by simp; omega) ?_) | (with_reducible refine below_call (by with_reducible assumption) ?_)))⟩
  cases h4 : fits t b
  · go_enter Tryz.func36, Tryz.ntmps36
    go_wp2_with (first | (go_at_call 62; refine (find_yes _ _ ho).mono ?_; rintro e w1 ⟨rfl, hb⟩; obtain ⟨hc, hf⟩ := bcell hb; have hz := hb.size; (try simp at hz); (try have hz1 := Nat.lt_of_succ_le hz); (try have hz2 := Nat.lt_of_succ_lt hz1); (try have hz3 := Nat.lt_of_succ_lt hz2); (try have hz4 := Nat.lt_of_succ_lt hz3)) | (go_at_call 62; refine (find_no _ _ ho).mono ?_; rintro e w1 ⟨rfl, hb⟩; obtain ⟨hc, hf⟩ := bcell hb; have hz := hb.size; (try simp at hz); (try have hz1 := Nat.lt_of_succ_le hz); (try have hz2 := Nat.lt_of_succ_lt hz1); (try have hz3 := Nat.lt_of_succ_lt hz2); (try have hz4 := Nat.lt_of_succ_lt hz3)) | (go_at_call 63; refine (has_c _ _ _ _ _ _).mono ?_; rintro e w1 ⟨rfl, hb⟩; obtain ⟨hc, hf⟩ := bcell hb; have hz := hb.size; (try simp at hz); (try have hz1 := Nat.lt_of_succ_le hz); (try have hz2 := Nat.lt_of_succ_lt hz1); (try have hz3 := Nat.lt_of_succ_lt hz2); (try have hz4 := Nat.lt_of_succ_lt hz3)) | (go_at_call 19; refine (fits_c _ _ _).mono ?_; rintro e w1 ⟨rfl, rfl⟩) | (go_at_call 35; refine (wrap_c _ _ _).mono ?_; rintro e w1 ⟨rfl, rfl⟩) | (refine (do_c _ _ _ _ ho (fun h => absurd h (by omega))).mono ?_; rintro e w1 ⟨rfl, rfl⟩))
    go_ret2
    exact ⟨ret_ii (by simp [does, *]) (by simp [does, *]), by (repeat' (first | (with_reducible exact Below.refl _ _) | (with_reducible refine below_alloc ?_) | (with_reducible refine below_drew ?_) | (with_reducible refine below_drewN ?_) | (with_reducible refine below_set (by simp; omega) ?_) | (with_reducible refine below_call (by with_reducible assumption) ?_)))⟩
  by_cases hd : (n = 4 ∨ n = 5) ∧ b = 0
  · obtain ⟨hd1, rfl⟩ := hd
    rcases hd1 with rfl | rfl
    · go_enter Tryz.func36, Tryz.ntmps36
      go_wp2_with (first | (go_at_call 62; refine (find_yes _ _ ho).mono ?_; rintro e w1 ⟨rfl, hb⟩; obtain ⟨hc, hf⟩ := bcell hb; have hz := hb.size; (try simp at hz); (try have hz1 := Nat.lt_of_succ_le hz); (try have hz2 := Nat.lt_of_succ_lt hz1); (try have hz3 := Nat.lt_of_succ_lt hz2); (try have hz4 := Nat.lt_of_succ_lt hz3)) | (go_at_call 62; refine (find_no _ _ ho).mono ?_; rintro e w1 ⟨rfl, hb⟩; obtain ⟨hc, hf⟩ := bcell hb; have hz := hb.size; (try simp at hz); (try have hz1 := Nat.lt_of_succ_le hz); (try have hz2 := Nat.lt_of_succ_lt hz1); (try have hz3 := Nat.lt_of_succ_lt hz2); (try have hz4 := Nat.lt_of_succ_lt hz3)) | (go_at_call 63; refine (has_c _ _ _ _ _ _).mono ?_; rintro e w1 ⟨rfl, hb⟩; obtain ⟨hc, hf⟩ := bcell hb; have hz := hb.size; (try simp at hz); (try have hz1 := Nat.lt_of_succ_le hz); (try have hz2 := Nat.lt_of_succ_lt hz1); (try have hz3 := Nat.lt_of_succ_lt hz2); (try have hz4 := Nat.lt_of_succ_lt hz3)) | (go_at_call 19; refine (fits_c _ _ _).mono ?_; rintro e w1 ⟨rfl, rfl⟩) | (go_at_call 35; refine (wrap_c _ _ _).mono ?_; rintro e w1 ⟨rfl, rfl⟩) | (refine (do_c _ _ _ _ ho (fun h => absurd h (by omega))).mono ?_; rintro e w1 ⟨rfl, rfl⟩))
      go_ret2
      exact ⟨ret_ii (by simp [does, h1, h2, h3, h4, ho]) (by simp [does, h1, h2, h3, h4, ho]), by (repeat' (first | (with_reducible exact Below.refl _ _) | (with_reducible refine below_alloc ?_) | (with_reducible refine below_drew ?_) | (with_reducible refine below_drewN ?_) | (with_reducible refine below_set (by simp; omega) ?_) | (with_reducible refine below_call (by with_reducible assumption) ?_)))⟩
    · go_enter Tryz.func36, Tryz.ntmps36
      go_wp2_with (first | (go_at_call 62; refine (find_yes _ _ ho).mono ?_; rintro e w1 ⟨rfl, hb⟩; obtain ⟨hc, hf⟩ := bcell hb; have hz := hb.size; (try simp at hz); (try have hz1 := Nat.lt_of_succ_le hz); (try have hz2 := Nat.lt_of_succ_lt hz1); (try have hz3 := Nat.lt_of_succ_lt hz2); (try have hz4 := Nat.lt_of_succ_lt hz3)) | (go_at_call 62; refine (find_no _ _ ho).mono ?_; rintro e w1 ⟨rfl, hb⟩; obtain ⟨hc, hf⟩ := bcell hb; have hz := hb.size; (try simp at hz); (try have hz1 := Nat.lt_of_succ_le hz); (try have hz2 := Nat.lt_of_succ_lt hz1); (try have hz3 := Nat.lt_of_succ_lt hz2); (try have hz4 := Nat.lt_of_succ_lt hz3)) | (go_at_call 63; refine (has_c _ _ _ _ _ _).mono ?_; rintro e w1 ⟨rfl, hb⟩; obtain ⟨hc, hf⟩ := bcell hb; have hz := hb.size; (try simp at hz); (try have hz1 := Nat.lt_of_succ_le hz); (try have hz2 := Nat.lt_of_succ_lt hz1); (try have hz3 := Nat.lt_of_succ_lt hz2); (try have hz4 := Nat.lt_of_succ_lt hz3)) | (go_at_call 19; refine (fits_c _ _ _).mono ?_; rintro e w1 ⟨rfl, rfl⟩) | (go_at_call 35; refine (wrap_c _ _ _).mono ?_; rintro e w1 ⟨rfl, rfl⟩) | (refine (do_c _ _ _ _ ho (fun h => absurd h (by omega))).mono ?_; rintro e w1 ⟨rfl, rfl⟩))
      go_ret2
      exact ⟨ret_ii (by simp [does, h1, h2, h3, h4, ho]) (by simp [does, h1, h2, h3, h4, ho]), by (repeat' (first | (with_reducible exact Below.refl _ _) | (with_reducible refine below_alloc ?_) | (with_reducible refine below_drew ?_) | (with_reducible refine below_drewN ?_) | (with_reducible refine below_set (by simp; omega) ?_) | (with_reducible refine below_call (by with_reducible assumption) ?_)))⟩
  by_cases h45 : n = 4 ∨ n = 5
  · have hb0 : ¬ b = 0 := fun h => hd ⟨h45, h⟩
    have hb1 : (b == 0) = false := beq_eq_false_iff_ne.2 hb0
    clear hd
    rcases h45 with rfl | rfl
    · go_enter Tryz.func36, Tryz.ntmps36
      go_wp2_with (first | (go_at_call 62; refine (find_yes _ _ ho).mono ?_; rintro e w1 ⟨rfl, hb⟩; obtain ⟨hc, hf⟩ := bcell hb; have hz := hb.size; (try simp at hz); (try have hz1 := Nat.lt_of_succ_le hz); (try have hz2 := Nat.lt_of_succ_lt hz1); (try have hz3 := Nat.lt_of_succ_lt hz2); (try have hz4 := Nat.lt_of_succ_lt hz3)) | (go_at_call 62; refine (find_no _ _ ho).mono ?_; rintro e w1 ⟨rfl, hb⟩; obtain ⟨hc, hf⟩ := bcell hb; have hz := hb.size; (try simp at hz); (try have hz1 := Nat.lt_of_succ_le hz); (try have hz2 := Nat.lt_of_succ_lt hz1); (try have hz3 := Nat.lt_of_succ_lt hz2); (try have hz4 := Nat.lt_of_succ_lt hz3)) | (go_at_call 63; refine (has_c _ _ _ _ _ _).mono ?_; rintro e w1 ⟨rfl, hb⟩; obtain ⟨hc, hf⟩ := bcell hb; have hz := hb.size; (try simp at hz); (try have hz1 := Nat.lt_of_succ_le hz); (try have hz2 := Nat.lt_of_succ_lt hz1); (try have hz3 := Nat.lt_of_succ_lt hz2); (try have hz4 := Nat.lt_of_succ_lt hz3)) | (go_at_call 19; refine (fits_c _ _ _).mono ?_; rintro e w1 ⟨rfl, rfl⟩) | (go_at_call 35; refine (wrap_c _ _ _).mono ?_; rintro e w1 ⟨rfl, rfl⟩) | (refine (do_c _ _ _ _ ho (fun _ => hb0)).mono ?_; rintro e w1 ⟨rfl, rfl⟩))
      go_ret2
      exact ⟨ret_ii (by simp [does, truthOf, hb0, h1, h2, h3, h4, ho]) (by simp [does, truthOf, hb0, h1, h2, h3, h4, ho]), by (repeat' (first | (with_reducible exact Below.refl _ _) | (with_reducible refine below_alloc ?_) | (with_reducible refine below_drew ?_) | (with_reducible refine below_drewN ?_) | (with_reducible refine below_set (by simp; omega) ?_) | (with_reducible refine below_call (by with_reducible assumption) ?_)))⟩
    · go_enter Tryz.func36, Tryz.ntmps36
      go_wp2_with (first | (go_at_call 62; refine (find_yes _ _ ho).mono ?_; rintro e w1 ⟨rfl, hb⟩; obtain ⟨hc, hf⟩ := bcell hb; have hz := hb.size; (try simp at hz); (try have hz1 := Nat.lt_of_succ_le hz); (try have hz2 := Nat.lt_of_succ_lt hz1); (try have hz3 := Nat.lt_of_succ_lt hz2); (try have hz4 := Nat.lt_of_succ_lt hz3)) | (go_at_call 62; refine (find_no _ _ ho).mono ?_; rintro e w1 ⟨rfl, hb⟩; obtain ⟨hc, hf⟩ := bcell hb; have hz := hb.size; (try simp at hz); (try have hz1 := Nat.lt_of_succ_le hz); (try have hz2 := Nat.lt_of_succ_lt hz1); (try have hz3 := Nat.lt_of_succ_lt hz2); (try have hz4 := Nat.lt_of_succ_lt hz3)) | (go_at_call 63; refine (has_c _ _ _ _ _ _).mono ?_; rintro e w1 ⟨rfl, hb⟩; obtain ⟨hc, hf⟩ := bcell hb; have hz := hb.size; (try simp at hz); (try have hz1 := Nat.lt_of_succ_le hz); (try have hz2 := Nat.lt_of_succ_lt hz1); (try have hz3 := Nat.lt_of_succ_lt hz2); (try have hz4 := Nat.lt_of_succ_lt hz3)) | (go_at_call 19; refine (fits_c _ _ _).mono ?_; rintro e w1 ⟨rfl, rfl⟩) | (go_at_call 35; refine (wrap_c _ _ _).mono ?_; rintro e w1 ⟨rfl, rfl⟩) | (refine (do_c _ _ _ _ ho (fun _ => hb0)).mono ?_; rintro e w1 ⟨rfl, rfl⟩))
      go_ret2
      exact ⟨ret_ii (by simp [does, truthOf, hb0, h1, h2, h3, h4, ho]) (by simp [does, truthOf, hb0, h1, h2, h3, h4, ho]), by (repeat' (first | (with_reducible exact Below.refl _ _) | (with_reducible refine below_alloc ?_) | (with_reducible refine below_drew ?_) | (with_reducible refine below_drewN ?_) | (with_reducible refine below_set (by simp; omega) ?_) | (with_reducible refine below_call (by with_reducible assumption) ?_)))⟩
  have h45' : ¬ ((n = 4 ∨ n = 5) ∧ b = 0) := hd
  have H45 := Lib.hid h45
  have e4 : (n == 4) = false := beq_eq_false_iff_ne.2 (fun h => h45 (.inl h))
  have e5 : (n == 5) = false := beq_eq_false_iff_ne.2 (fun h => h45 (.inr h))
  have H45' := Lib.hid h45'
  clear hd h45 h45'
  cases htr : truthOf n
  · go_enter Tryz.func36, Tryz.ntmps36
    go_wp2_with (first | (go_at_call 62; refine (find_yes _ _ ho).mono ?_; rintro e w1 ⟨rfl, hb⟩; obtain ⟨hc, hf⟩ := bcell hb; have hz := hb.size; (try simp at hz); (try have hz1 := Nat.lt_of_succ_le hz); (try have hz2 := Nat.lt_of_succ_lt hz1); (try have hz3 := Nat.lt_of_succ_lt hz2); (try have hz4 := Nat.lt_of_succ_lt hz3)) | (go_at_call 62; refine (find_no _ _ ho).mono ?_; rintro e w1 ⟨rfl, hb⟩; obtain ⟨hc, hf⟩ := bcell hb; have hz := hb.size; (try simp at hz); (try have hz1 := Nat.lt_of_succ_le hz); (try have hz2 := Nat.lt_of_succ_lt hz1); (try have hz3 := Nat.lt_of_succ_lt hz2); (try have hz4 := Nat.lt_of_succ_lt hz3)) | (go_at_call 63; refine (has_c _ _ _ _ _ _).mono ?_; rintro e w1 ⟨rfl, hb⟩; obtain ⟨hc, hf⟩ := bcell hb; have hz := hb.size; (try simp at hz); (try have hz1 := Nat.lt_of_succ_le hz); (try have hz2 := Nat.lt_of_succ_lt hz1); (try have hz3 := Nat.lt_of_succ_lt hz2); (try have hz4 := Nat.lt_of_succ_lt hz3)) | (go_at_call 19; refine (fits_c _ _ _).mono ?_; rintro e w1 ⟨rfl, rfl⟩) | (go_at_call 35; refine (wrap_c _ _ _).mono ?_; rintro e w1 ⟨rfl, rfl⟩) | (refine (do_c _ _ _ _ ho (fun h => absurd h H45.out)).mono ?_; rintro e w1 ⟨rfl, rfl⟩))
    go_ret2
    exact ⟨ret_ii (by simp [does, H45'.out, H45.out, *]) (by simp [does, H45'.out, H45.out, *]), by (repeat' (first | (with_reducible exact Below.refl _ _) | (with_reducible refine below_alloc ?_) | (with_reducible refine below_drew ?_) | (with_reducible refine below_drewN ?_) | (with_reducible refine below_set (by simp; omega) ?_) | (with_reducible refine below_call (by with_reducible assumption) ?_)))⟩
  · go_enter Tryz.func36, Tryz.ntmps36
    go_wp2_with (first | (go_at_call 62; refine (find_yes _ _ ho).mono ?_; rintro e w1 ⟨rfl, hb⟩; obtain ⟨hc, hf⟩ := bcell hb; have hz := hb.size; (try simp at hz); (try have hz1 := Nat.lt_of_succ_le hz); (try have hz2 := Nat.lt_of_succ_lt hz1); (try have hz3 := Nat.lt_of_succ_lt hz2); (try have hz4 := Nat.lt_of_succ_lt hz3)) | (go_at_call 62; refine (find_no _ _ ho).mono ?_; rintro e w1 ⟨rfl, hb⟩; obtain ⟨hc, hf⟩ := bcell hb; have hz := hb.size; (try simp at hz); (try have hz1 := Nat.lt_of_succ_le hz); (try have hz2 := Nat.lt_of_succ_lt hz1); (try have hz3 := Nat.lt_of_succ_lt hz2); (try have hz4 := Nat.lt_of_succ_lt hz3)) | (go_at_call 63; refine (has_c _ _ _ _ _ _).mono ?_; rintro e w1 ⟨rfl, hb⟩; obtain ⟨hc, hf⟩ := bcell hb; have hz := hb.size; (try simp at hz); (try have hz1 := Nat.lt_of_succ_le hz); (try have hz2 := Nat.lt_of_succ_lt hz1); (try have hz3 := Nat.lt_of_succ_lt hz2); (try have hz4 := Nat.lt_of_succ_lt hz3)) | (go_at_call 19; refine (fits_c _ _ _).mono ?_; rintro e w1 ⟨rfl, rfl⟩) | (go_at_call 35; refine (wrap_c _ _ _).mono ?_; rintro e w1 ⟨rfl, rfl⟩) | (refine (do_c _ _ _ _ ho (fun h => absurd h H45.out)).mono ?_; rintro e w1 ⟨rfl, rfl⟩))
    go_ret2
    exact ⟨ret_ii (by simp [does, H45'.out, H45.out, *]) (by simp [does, H45'.out, H45.out, *]), by (repeat' (first | (with_reducible exact Below.refl _ _) | (with_reducible refine below_alloc ?_) | (with_reducible refine below_drew ?_) | (with_reducible refine below_drewN ?_) | (with_reducible refine below_set (by simp; omega) ?_) | (with_reducible refine below_call (by with_reducible assumption) ?_)))⟩

theorem two_c (n t a b : Int) (w : World) :
    Calls Tryz.prog 21 #[.int .i64 n, .int .i64 t, .int .i64 a, .int .i64 b] w fun e w' => e = .returned (.tuple #[.int .i64 (two n t a b).1, .int .i64 (two n t a b).2]) ∧ Below w.heap.size w w' := by
  go_enter Tryz.func21, Tryz.ntmps21
  go_wp2_with (go_at_call 36; refine (does_c _ _ _ _ _ _).mono ?_; rintro e w1 ⟨rfl, hb⟩; obtain ⟨hc, hf⟩ := bcell hb; have hz := hb.size; (try simp at hz); (try have hz1 := Nat.lt_of_succ_le hz); (try have hz2 := Nat.lt_of_succ_lt hz1); (try have hz3 := Nat.lt_of_succ_lt hz2); (try have hz4 := Nat.lt_of_succ_lt hz3))
  go_ret2
  exact ⟨rfl, by (repeat' (first | (with_reducible exact Below.refl _ _) | (with_reducible refine below_alloc ?_) | (with_reducible refine below_drew ?_) | (with_reducible refine below_drewN ?_) | (with_reducible refine below_set (by simp; omega) ?_) | (with_reducible refine below_call (by with_reducible assumption) ?_)))⟩
theorem one_c (n t a : Int) (w : World) :
    Calls Tryz.prog 76 #[.int .i64 n, .int .i64 t, .int .i64 a] w fun e w' => e = .returned (.tuple #[.int .i64 (one n t a).1, .int .i64 (one n t a).2]) ∧ Below w.heap.size w w' := by
  go_enter Tryz.func76, Tryz.ntmps76
  go_wp2_with (go_at_call 36; refine (does_c _ _ _ _ _ _).mono ?_; rintro e w1 ⟨rfl, hb⟩; obtain ⟨hc, hf⟩ := bcell hb; have hz := hb.size; (try simp at hz); (try have hz1 := Nat.lt_of_succ_le hz); (try have hz2 := Nat.lt_of_succ_lt hz1); (try have hz3 := Nat.lt_of_succ_lt hz2); (try have hz4 := Nat.lt_of_succ_lt hz3))
  go_ret2
  exact ⟨rfl, by (repeat' (first | (with_reducible exact Below.refl _ _) | (with_reducible refine below_alloc ?_) | (with_reducible refine below_drew ?_) | (with_reducible refine below_drewN ?_) | (with_reducible refine below_set (by simp; omega) ?_) | (with_reducible refine below_call (by with_reducible assumption) ?_)))⟩
theorem convert_c (f t n : Int) (w : World) :
    Calls Tryz.prog 75 #[.int .i64 f, .int .i64 t, .int .i64 n] w fun e w' => e = .returned (.tuple #[.int .i64 (numConvert f t n).1, .int .i64 (numConvert f t n).2]) ∧ w = w' := by
  cases h1 : known f
  · go_enter Tryz.func75, Tryz.ntmps75
    go_wp2_with (first | (go_at_call 34; refine (known_c _ _).mono ?_; rintro e w1 ⟨rfl, rfl⟩) | (go_at_call 19; refine (fits_c _ _ _).mono ?_; rintro e w1 ⟨rfl, rfl⟩) | (go_at_call 35; refine (wrap_c _ _ _).mono ?_; rintro e w1 ⟨rfl, rfl⟩))
    go_ret2
    exact ⟨ret_ii (by simp [numConvert, *]) (by simp [numConvert, *]), rfl⟩
  cases h2 : known t
  · go_enter Tryz.func75, Tryz.ntmps75
    go_wp2_with (first | (go_at_call 34; refine (known_c _ _).mono ?_; rintro e w1 ⟨rfl, rfl⟩) | (go_at_call 19; refine (fits_c _ _ _).mono ?_; rintro e w1 ⟨rfl, rfl⟩) | (go_at_call 35; refine (wrap_c _ _ _).mono ?_; rintro e w1 ⟨rfl, rfl⟩))
    go_ret2
    exact ⟨ret_ii (by simp [numConvert, *]) (by simp [numConvert, *]), rfl⟩
  cases h3 : ((f == 1) == (t == 1))
  · go_enter Tryz.func75, Tryz.ntmps75
    go_wp2_with (first | (go_at_call 34; refine (known_c _ _).mono ?_; rintro e w1 ⟨rfl, rfl⟩) | (go_at_call 19; refine (fits_c _ _ _).mono ?_; rintro e w1 ⟨rfl, rfl⟩) | (go_at_call 35; refine (wrap_c _ _ _).mono ?_; rintro e w1 ⟨rfl, rfl⟩))
    go_ret2
    exact ⟨ret_ii (by simp [numConvert, *]) (by simp [numConvert, *]), rfl⟩
  cases h4 : fits f n
  · go_enter Tryz.func75, Tryz.ntmps75
    go_wp2_with (first | (go_at_call 34; refine (known_c _ _).mono ?_; rintro e w1 ⟨rfl, rfl⟩) | (go_at_call 19; refine (fits_c _ _ _).mono ?_; rintro e w1 ⟨rfl, rfl⟩) | (go_at_call 35; refine (wrap_c _ _ _).mono ?_; rintro e w1 ⟨rfl, rfl⟩))
    go_ret2
    exact ⟨ret_ii (by simp [numConvert, *]) (by simp [numConvert, *]), rfl⟩
  · go_enter Tryz.func75, Tryz.ntmps75
    go_wp2_with (first | (go_at_call 34; refine (known_c _ _).mono ?_; rintro e w1 ⟨rfl, rfl⟩) | (go_at_call 19; refine (fits_c _ _ _).mono ?_; rintro e w1 ⟨rfl, rfl⟩) | (go_at_call 35; refine (wrap_c _ _ _).mono ?_; rintro e w1 ⟨rfl, rfl⟩))
    go_ret2
    exact ⟨ret_ii (by simp [numConvert, *]) (by simp [numConvert, *]), rfl⟩

end Go.Proofs.YtenjkplijblcoaaGreatDoor
