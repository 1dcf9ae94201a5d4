/- The document's answer for numbers (package capstanref04): plain functions, and that they are the program's. No program in sight. -/
import Derived.Test.YtenjkplijblcoaaGreatDoorCBase
import Derived.Test.YtenjkplijblcoaaGreatDoorCName
import Derived.Test.YtenjkplijblcoaaGreatDoorCTree5
set_option linter.unusedSimpArgs false
set_option linter.unusedVariables false
namespace Cap

/-! ### package capstanref04 -/
def hasR (op t many : Int) : Bool :=
  if known t = false then false
  else if many = 1 then (op == 15 && t != 1) || (op == 16 && t != 4)
  else if op = 1 ∨ op = 2 ∨ op = 11 ∨ op = 12 ∨ op = 13 ∨ op = 14 then t != 1
  else if op = 3 ∨ op = 4 ∨ op = 5 then t == 2 || t == 3
  else if op = 6 ∨ op = 7 ∨ op = 8 then t != 4
  else op == 9 || op == 10
theorem known_cases {t : Int} (h : known t = true) : ∃ j : Fin 5, t = (j.val : Int) := by
  simp only [known, Bool.and_eq_true, decide_eq_true_eq] at h
  exact ⟨⟨t.toNat, by omega⟩, by simp; omega⟩
theorem op_cases {n : Int} (h : isOp n = true) : ∃ j : Fin 17, n = (j.val : Int) := by
  simp only [isOp, Bool.and_eq_true, decide_eq_true_eq] at h
  exact ⟨⟨n.toNat, by omega⟩, by simp; omega⟩
theorem hasR_noop {op t many : Int} (h : isOp op = false) : hasR op t many = false := by
  simp only [isOp, Bool.and_eq_false_iff, decide_eq_false_iff_not] at h
  unfold hasR
  split
  · rfl
  · split
    · simp; omega
    · rw [if_neg (by omega), if_neg (by omega), if_neg (by omega)]
      simp; omega
theorem hasR_notype {op t many : Int} (h : known t = false) : hasR op t many = false := by
  unfold hasR
  rw [if_pos h]
theorem two_dec : ∀ (k : Fin 17) (j : Fin 5), hasR (k.val : Int) (j.val : Int) 2 = ((two (k.val : Int) (j.val : Int) 1 1).2 == 0) := by decide +kernel
theorem one_dec : ∀ (k : Fin 17) (j : Fin 5), hasR (k.val : Int) (j.val : Int) 1 = ((one (k.val : Int) (j.val : Int) 1).2 == 0) := by decide +kernel
theorem res_dec : ∀ (k : Fin 17) (j : Fin 5), (hasR (k.val : Int) (j.val : Int) 1 || hasR (k.val : Int) (j.val : Int) 2) = opHas (k.val : Int) (j.val : Int) := by decide +kernel
theorem does_noop {n t a b : Int} {o : Bool} (h : isOp n = false) : (does n t o a b).2 = 40 := by unfold does; rw [if_pos h]
theorem does_notype {n t a b : Int} {o : Bool} (h : known t = false) : (does n t o a b).2 = 40 := by
  have hk : hasK (kindsOf n) t = false := by unfold hasK; rw [h]; rfl
  unfold does
  split
  · rfl
  · split
    · rfl
    · first | rfl | (rw [if_pos hk])
theorem two_has (op t : Int) : ((two op t 1 1).2 == 0) = hasR op t 2 := by
  cases hn : isOp op with
  | false => rw [hasR_noop hn, two, does_noop hn]; rfl
  | true =>
    cases ht : known t with
    | false => rw [hasR_notype ht, two, does_notype ht]; rfl
    | true =>
      obtain ⟨k, rfl⟩ := op_cases hn
      obtain ⟨j, rfl⟩ := known_cases ht
      exact (two_dec k j).symm
theorem one_has (op t : Int) : ((one op t 1).2 == 0) = hasR op t 1 := by
  cases hn : isOp op with
  | false => rw [hasR_noop hn, one, does_noop hn]; rfl
  | true =>
    cases ht : known t with
    | false => rw [hasR_notype ht, one, does_notype ht]; rfl
    | true =>
      obtain ⟨k, rfl⟩ := op_cases hn
      obtain ⟨j, rfl⟩ := known_cases ht
      exact (one_dec k j).symm
theorem opHas_has (op t : Int) : opHas op t = (hasR op t 1 || hasR op t 2) := by
  cases hn : isOp op with
  | false => rw [hasR_noop hn, hasR_noop hn, opHas, hn]; rfl
  | true =>
    cases ht : known t with
    | false => rw [hasR_notype ht, hasR_notype ht, opHas, hasK, ht]; simp
    | true =>
      obtain ⟨k, rfl⟩ := op_cases hn
      obtain ⟨j, rfl⟩ := known_cases ht
      exact (res_dec k j).symm
def convR (a b : Int) : Bool := known a && known b && ((a == 1) == (b == 1))
theorem fits_zero {t : Int} (h : known t = true) : fits t 0 = true := by
  obtain ⟨j, rfl⟩ := known_cases h
  revert h
  revert j
  decide +kernel
theorem conv_eq (a b : Int) : ((numConvert a b 0).2 == 0) = convR a b := by
  unfold numConvert convR
  cases ha : known a with
  | false => simp
  | true =>
    cases hb : known b with
    | false => simp
    | true =>
      rw [fits_zero ha]
      cases hc : ((a == 1) == (b == 1)) <;> simp [hc]
end Cap

/- The functions of package capstanref04, and the names of capstanref06: what each call answers. -/
namespace Go.Proofs.YtenjkplijblcoaaGreatDoor
open Go.RowKit Cap
set_option maxRecDepth 100000

theorem rtype_c (t : Int) (w : World) :
    Calls Tryz.prog 118 #[.int .i64 t] w fun e w' => e = .returned (.bool (known t)) ∧ w = w' := by
  go_enter Tryz.func118, Tryz.ntmps118
  go_wp2
  · go_ret
    exact ⟨by simp [known, *], rfl⟩
  · go_ret
    have : ¬ (1 ≤ t) := by omega
    exact ⟨by simp [known, *], rfl⟩
theorem rsize_c (t : Int) (w : World) :
    Calls Tryz.prog 119 #[.int .i64 t] w fun e w' => e = .returned (.int .i64 (if t = 2 then 65536 else 4294967296)) ∧ w = w' := by
  by_cases h : t = 2
  · subst h
    go_enter Tryz.func119, Tryz.ntmps119
    go_wp2
    go_ret
    exact ⟨rfl, rfl⟩
  · go_enter Tryz.func119, Tryz.ntmps119
    go_wp2
    go_ret
    exact ⟨by first | rfl | rw [if_neg h], rfl⟩
theorem fits_one (n : Int) : fits 1 n = (n == 0 || n == 1) := by
  rw [Bool.eq_iff_iff]
  simp [fits, known, wrapT]
  omega
theorem fits_two (n : Int) : fits 2 n = (decide (-32768 ≤ n) && decide (n < 32768)) := by
  rw [Bool.eq_iff_iff]
  simp [fits, known, wrapT, wrap16]
  omega
theorem fits_more {t n : Int} (h : known t = true) (h1 : t ≠ 1) (h2 : t ≠ 2) : fits t n = (decide (-2147483648 ≤ n) && decide (n < 2147483648)) := by
  rw [Bool.eq_iff_iff]
  simp [fits, h, wrapT, h1, h2, wrap32]
  omega
theorem fits_no {t n : Int} (h : known t = false) : fits t n = false := by unfold fits; rw [h]; rfl
theorem rfits_c (t n : Int) (w : World) :
    Calls Tryz.prog 72 #[.int .i64 t, .int .i64 n] w fun e w' => e = .returned (.bool (fits t n)) ∧ w = w' := by
  by_cases h1 : t = 1
  · subst h1
    rw [fits_one]
    by_cases h0 : n = 0
    · subst h0
      go_enter Tryz.func72, Tryz.ntmps72
      go_wp2
      go_ret
      exact ⟨rfl, rfl⟩
    · go_enter Tryz.func72, Tryz.ntmps72
      go_wp2
      go_ret
      exact ⟨by simp [h0], rfl⟩
  cases hk : known t with
  | false =>
    rw [fits_no hk]
    go_enter Tryz.func72, Tryz.ntmps72
    go_wp2_with (first | (go_at_call 118; refine (rtype_c _ _).mono ?_; rintro e w1 ⟨rfl, rfl⟩) | (go_at_call 119; refine (rsize_c _ _).mono ?_; rintro e w1 ⟨rfl, rfl⟩))
    go_ret
    exact ⟨rfl, rfl⟩
  | true =>
    by_cases h2 : t = 2
    · subst h2
      rw [fits_two]
      by_cases ha : -32768 ≤ n
      · go_enter Tryz.func72, Tryz.ntmps72
        go_wp2_with (first | (go_at_call 118; refine (rtype_c _ _).mono ?_; rintro e w1 ⟨rfl, rfl⟩) | (go_at_call 119; refine (rsize_c _ _).mono ?_; rintro e w1 ⟨rfl, rfl⟩))
        go_ret
        exact ⟨by simp [ha] <;> (intros; omega), rfl⟩
      · go_enter Tryz.func72, Tryz.ntmps72
        go_wp2_with (first | (go_at_call 118; refine (rtype_c _ _).mono ?_; rintro e w1 ⟨rfl, rfl⟩) | (go_at_call 119; refine (rsize_c _ _).mono ?_; rintro e w1 ⟨rfl, rfl⟩))
        go_ret
        exact ⟨by simp [ha] <;> (intros; omega), rfl⟩
    · rw [fits_more hk h1 h2]
      have hs : (if t = 2 then (65536 : Int) else 4294967296) = 4294967296 := if_neg h2
      have HS := Lib.hid hs
      clear hs
      by_cases ha : -2147483648 ≤ n
      · go_enter Tryz.func72, Tryz.ntmps72
        go_wp2_with (first | (go_at_call 118; refine (rtype_c _ _).mono ?_; rintro e w1 ⟨rfl, rfl⟩) | ((go_at_call 119; refine (rsize_c _ _).mono ?_; rintro e w1 ⟨rfl, rfl⟩); rw [HS.out]))
        go_ret
        exact ⟨by simp [ha] <;> (intros; omega), rfl⟩
      · go_enter Tryz.func72, Tryz.ntmps72
        go_wp2_with (first | (go_at_call 118; refine (rtype_c _ _).mono ?_; rintro e w1 ⟨rfl, rfl⟩) | ((go_at_call 119; refine (rsize_c _ _).mono ?_; rintro e w1 ⟨rfl, rfl⟩); rw [HS.out]))
        go_ret
        exact ⟨by simp [ha] <;> (intros; omega), rfl⟩
set_option maxHeartbeats 4000000 in
theorem rhas_c (op t many : Int) (w : World) :
    Calls Tryz.prog 122 #[.int .i64 op, .int .i64 t, .int .i64 many] w fun e w' => e = .returned (.bool (hasR op t many)) ∧ w = w' := by
  cases hk : known t with
  | false =>
    rw [hasR_notype hk]
    go_enter Tryz.func122, Tryz.ntmps122
    go_wp2_with (go_at_call 118; refine (rtype_c _ _).mono ?_; rintro e w1 ⟨rfl, rfl⟩)
    go_ret
    exact ⟨rfl, rfl⟩
  | true =>
    by_cases hm : many = 1
    · subst hm
      have hR : hasR op t 1 = ((op == 15 && t != 1) || (op == 16 && t != 4)) := by unfold hasR; rw [hk]; rfl
      have HR := Lib.hid hR
      clear hR
      by_cases h15 : op = 15
      · subst h15
        by_cases h1 : t = 1
        · go_enter Tryz.func122, Tryz.ntmps122
          go_wp2_with (go_at_call 118; refine (rtype_c _ _).mono ?_; rintro e w1 ⟨rfl, rfl⟩)
          all_goals go_ret
          all_goals exact ⟨by rw [HR.out]; simp_all, rfl⟩
        · go_enter Tryz.func122, Tryz.ntmps122
          go_wp2_with (go_at_call 118; refine (rtype_c _ _).mono ?_; rintro e w1 ⟨rfl, rfl⟩)
          all_goals go_ret
          all_goals exact ⟨by rw [HR.out]; simp_all, rfl⟩
      · by_cases h16 : op = 16
        · subst h16
          go_enter Tryz.func122, Tryz.ntmps122
          go_wp2_with (go_at_call 118; refine (rtype_c _ _).mono ?_; rintro e w1 ⟨rfl, rfl⟩)
          all_goals go_ret
          all_goals exact ⟨by rw [HR.out]; simp_all, rfl⟩
        · go_enter Tryz.func122, Tryz.ntmps122
          go_wp2_with (go_at_call 118; refine (rtype_c _ _).mono ?_; rintro e w1 ⟨rfl, rfl⟩)
          all_goals go_ret
          all_goals exact ⟨by rw [HR.out]; simp_all, rfl⟩
    · have hR : hasR op t many = (if op = 1 ∨ op = 2 ∨ op = 11 ∨ op = 12 ∨ op = 13 ∨ op = 14 then t != 1
          else if op = 3 ∨ op = 4 ∨ op = 5 then t == 2 || t == 3
          else if op = 6 ∨ op = 7 ∨ op = 8 then t != 4
          else op == 9 || op == 10) := by unfold hasR; rw [hk, if_neg (by simp), if_neg hm]
      have HR := Lib.hid hR
      clear hR
      have ht : t = 2 ∨ t ≠ 2 := Classical.em _
      have hop : op = 1 ∨ op = 2 ∨ op = 3 ∨ op = 4 ∨ op = 5 ∨ op = 6 ∨ op = 7 ∨ op = 8 ∨ op = 9 ∨ op = 10 ∨ op = 11 ∨ op = 12 ∨ op = 13 ∨ op = 14 ∨ ¬ (op = 1 ∨ op = 2 ∨ op = 3 ∨ op = 4 ∨ op = 5 ∨ op = 6 ∨ op = 7 ∨ op = 8 ∨ op = 9 ∨ op = 10 ∨ op = 11 ∨ op = 12 ∨ op = 13 ∨ op = 14) := by omega
      rcases ht with ht | ht <;> rcases hop with rfl | rfl | rfl | rfl | rfl | rfl | rfl | rfl | rfl | rfl | rfl | rfl | rfl | rfl | hop
      all_goals (try simp only [not_or] at hop)
      all_goals (try obtain ⟨n1, n2, n3, n4, n5, n6, n7, n8, n9, n10, n11, n12, n13, n14⟩ := hop)
      all_goals go_enter Tryz.func122, Tryz.ntmps122
      all_goals go_wp2_with (go_at_call 118; refine (rtype_c _ _).mono ?_; rintro e w1 ⟨rfl, rfl⟩)
      all_goals go_ret
      all_goals exact ⟨by rw [HR.out]; simp_all, rfl⟩
theorem rresult_c (op t : Int) (w : World) :
    Calls Tryz.prog 79 #[.int .i64 op, .int .i64 t] w fun e w' => e = .returned (.tuple #[.int .i64 (result op t).1, .int .i64 (result op t).2]) ∧ w = w' := by
  cases h1 : hasR op t 1 with
  | true =>
    have hH : opHas op t = true := by rw [opHas_has, h1]; rfl
    by_cases h9 : 9 ≤ op
    · by_cases h14 : op ≤ 14
      · have hR := Lib.hid (show result op t = (1, 0) by simp [result, hH, truthOf, h9, h14])
        go_enter Tryz.func79, Tryz.ntmps79
        go_wp2_with ((go_at_call 122; refine (rhas_c _ _ _ _).mono ?_; rintro e w1 ⟨rfl, rfl⟩))
        go_ret2
        exact ⟨by rw [hR.out]; rfl, rfl⟩
      · have hR := Lib.hid (show result op t = (t, 0) by simp [result, hH, truthOf, h14])
        go_enter Tryz.func79, Tryz.ntmps79
        go_wp2_with ((go_at_call 122; refine (rhas_c _ _ _ _).mono ?_; rintro e w1 ⟨rfl, rfl⟩))
        go_ret2
        exact ⟨by rw [hR.out]; rfl, rfl⟩
    · have hR := Lib.hid (show result op t = (t, 0) by simp [result, hH, truthOf, h9])
      go_enter Tryz.func79, Tryz.ntmps79
      go_wp2_with ((go_at_call 122; refine (rhas_c _ _ _ _).mono ?_; rintro e w1 ⟨rfl, rfl⟩))
      go_ret2
      exact ⟨by rw [hR.out]; rfl, rfl⟩
  | false =>
    cases h2 : hasR op t 2 with
    | true =>
      have hH : opHas op t = true := by rw [opHas_has, h1, h2]; rfl
      by_cases h9 : 9 ≤ op
      · by_cases h14 : op ≤ 14
        · have hR := Lib.hid (show result op t = (1, 0) by simp [result, hH, truthOf, h9, h14])
          go_enter Tryz.func79, Tryz.ntmps79
          go_wp2_with ((go_at_call 122; refine (rhas_c _ _ _ _).mono ?_; rintro e w1 ⟨rfl, rfl⟩))
          go_ret2
          exact ⟨by rw [hR.out]; rfl, rfl⟩
        · have hR := Lib.hid (show result op t = (t, 0) by simp [result, hH, truthOf, h14])
          go_enter Tryz.func79, Tryz.ntmps79
          go_wp2_with ((go_at_call 122; refine (rhas_c _ _ _ _).mono ?_; rintro e w1 ⟨rfl, rfl⟩))
          go_ret2
          exact ⟨by rw [hR.out]; rfl, rfl⟩
      · have hR := Lib.hid (show result op t = (t, 0) by simp [result, hH, truthOf, h9])
        go_enter Tryz.func79, Tryz.ntmps79
        go_wp2_with ((go_at_call 122; refine (rhas_c _ _ _ _).mono ?_; rintro e w1 ⟨rfl, rfl⟩))
        go_ret2
        exact ⟨by rw [hR.out]; rfl, rfl⟩
    | false =>
      have hH : opHas op t = false := by rw [opHas_has, h1, h2]; rfl
      have hR := Lib.hid (show result op t = (0, 40) by simp [result, hH])
      go_enter Tryz.func79, Tryz.ntmps79
      go_wp2_with ((go_at_call 122; refine (rhas_c _ _ _ _).mono ?_; rintro e w1 ⟨rfl, rfl⟩))
      go_ret2
      exact ⟨by rw [hR.out]; rfl, rfl⟩
end Go.Proofs.YtenjkplijblcoaaGreatDoor

/- capstanref04: Wrapped, Two, One, Convert: what each call answers. -/
namespace Cap
open Go Go.RowKit
theorem wrap_mod {n m : Int} (hm : 0 < m) : (n.tmod m + m).tmod m = n % m := by
  have h1 := Int.lt_tmod_of_pos n hm
  rw [Int.tmod_eq_emod_of_nonneg (by omega)]
  rw [Int.add_emod_right]
  rcases Int.lt_or_le n 0 with h | h
  · have e : n.tmod m = -((-n) % m) := by
      have := Int.neg_tmod (-n) m
      rw [Int.neg_neg] at this
      rw [this, Int.tmod_eq_emod_of_nonneg (by omega)]
    have h2 := Int.emod_add_mul_ediv (-n) m
    have e2 : -((-n) % m) = n + m * ((-n) / m) := by omega
    rw [e, e2, Int.add_mul_emod_self_left]
  · rw [Int.tmod_eq_emod_of_nonneg h, Int.emod_emod]
theorem xor_m1 (a : Int) (h1 : -9223372036854775808 ≤ a) (h2 : a ≤ 9223372036854775807) : bits BinOp.xor IntKind.i64 (-1) a = -1 - a := by
  unfold bits
  have e : ((BitVec.ofInt IntKind.i64.bits (-1)) ^^^ (BitVec.ofInt IntKind.i64.bits a)).toNat = 18446744073709551615 - (a % 18446744073709551616).toNat := by
    show ((BitVec.ofInt 64 (-1)) ^^^ (BitVec.ofInt 64 a)).toNat = _
    rw [show BitVec.ofInt 64 (-1) = BitVec.allOnes 64 by decide, BitVec.allOnes_xor, BitVec.toNat_not, BitVec.toNat_ofInt]
    rfl
  show IntKind.wrap .i64 (((BitVec.ofInt IntKind.i64.bits (-1)) ^^^ (BitVec.ofInt IntKind.i64.bits a)).toNat : Int) = -1 - a
  rw [e, Go.IntKind.wrap_i64]
  omega
theorem has2_dec : ∀ (k : Fin 17) (j : Fin 5), hasR (k.val : Int) (j.val : Int) 2 = (isOp (k.val : Int) && (oneOf (k.val : Int) == false) && hasK (kindsOf (k.val : Int)) (j.val : Int)) := by decide +kernel
theorem has1_dec : ∀ (k : Fin 17) (j : Fin 5), hasR (k.val : Int) (j.val : Int) 1 = (isOp (k.val : Int) && (oneOf (k.val : Int) == true) && hasK (kindsOf (k.val : Int)) (j.val : Int)) := by decide +kernel
theorem has2_eq (op t : Int) : hasR op t 2 = (isOp op && (oneOf op == false) && hasK (kindsOf op) t) := by
  cases hn : isOp op with
  | false => rw [hasR_noop hn]; rfl
  | true =>
    cases ht : known t with
    | false => rw [hasR_notype ht, hasK, ht]; simp
    | true =>
      obtain ⟨k, rfl⟩ := op_cases hn
      obtain ⟨j, rfl⟩ := known_cases ht
      rw [has2_dec k j, hn]
theorem has1_eq (op t : Int) : hasR op t 1 = (isOp op && (oneOf op == true) && hasK (kindsOf op) t) := by
  cases hn : isOp op with
  | false => rw [hasR_noop hn]; rfl
  | true =>
    cases ht : known t with
    | false => rw [hasR_notype ht, hasK, ht]; simp
    | true =>
      obtain ⟨k, rfl⟩ := op_cases hn
      obtain ⟨j, rfl⟩ := known_cases ht
      rw [has1_dec k j, hn]
theorem does_has {op t a b : Int} {o : Bool} : does op t o a b = if (isOp op && (oneOf op == o) && hasK (kindsOf op) t) = false then (0, 40) else if fits t a = false then (0, 1) else if fits t b = false then (0, 1) else if (op = 4 ∨ op = 5) ∧ b = 0 then (0, 41) else if truthOf op then (opDo op a b, 0) else (wrapT t (opDo op a b), 0) := by
  unfold does
  cases isOp op <;> cases (oneOf op == o) <;> cases hasK (kindsOf op) t <;> rfl
end Cap
namespace Go.Proofs.YtenjkplijblcoaaGreatDoor
open Go.RowKit Cap
set_option maxRecDepth 100000

theorem rwrapped_c (t n : Int) (w : World) :
    Calls Tryz.prog 121 #[.int .i64 t, .int .i64 n] w fun e w' => e = .returned (.int .i64 (wrapT t n)) ∧ w = w' := by
  by_cases h1 : t = 1
  · subst h1
    go_enter Tryz.func121, Tryz.ntmps121
    go_wp2
    go_ret
    exact ⟨by rw [and_one_i64]; rfl, rfl⟩
  · have hb : (t == 1) = false := by simpa using h1
    obtain ⟨m, hm⟩ : ∃ m : Int, (if t = 2 then (65536 : Int) else 4294967296) = m := ⟨_, rfl⟩
    have hmc : m = 65536 ∨ m = 4294967296 := by
      by_cases h2 : t = 2
      · rw [if_pos h2] at hm
        exact .inl hm.symm
      · rw [if_neg h2] at hm
        exact .inr hm.symm
    have HSZ := Lib.hid (fun W => rsize_c t W)
    rw [hm] at HSZ
    have hm0 : (m == 0) = false := by rcases hmc with rfl | rfl <;> rfl
    have hm2 : (m.tdiv 2) = (if t = 2 then (32768 : Int) else 2147483648) := by
      rw [← hm]
      split <;> decide
    have hq : (wrap64 (n.tmod m + m)).tmod m = n % m := by
      have h1 := Int.lt_tmod_of_pos n (show 0 < m by omega)
      have h2 := Int.tmod_lt_of_pos n (show 0 < m by omega)
      have h3 : wrap64 (n.tmod m + m) = n.tmod m + m := by
        unfold wrap64
        omega
      rw [h3, wrap_mod (by omega)]
    have HQ := Lib.hid hq
    clear hq
    go_enter Tryz.func121, Tryz.ntmps121
    go_wp2_with (go_at_call 119; refine (HSZ.out _).mono ?_; rintro e w1 ⟨rfl, rfl⟩)
    all_goals go_ret
    all_goals refine ⟨?_, rfl⟩
    all_goals rw [HQ.out] at *
    all_goals congr 2
    all_goals unfold wrapT wrap16 wrap32
    all_goals (try unfold wrap64)
    all_goals (split at hm <;> subst hm <;> simp_all <;> omega)
set_option maxHeartbeats 1000000 in
theorem rconvert_c (f t n : Int) (w : World) :
    Calls Tryz.prog 78 #[.int .i64 f, .int .i64 t, .int .i64 n] w fun e w' => e = .returned (.tuple #[.int .i64 (numConvert f t n).1, .int .i64 (numConvert f t n).2]) ∧ w = w' := by
  obtain ⟨kf, hkf⟩ : ∃ q, known f = q := ⟨_, rfl⟩
  obtain ⟨kt, hkt⟩ : ∃ q, known t = q := ⟨_, rfl⟩
  obtain ⟨ff, hff⟩ : ∃ q, fits f n = q := ⟨_, rfl⟩
  obtain ⟨c1, hc1⟩ : ∃ q, (f == 1) = q := ⟨_, rfl⟩
  obtain ⟨c2, hc2⟩ : ∃ q, (t == 1) = q := ⟨_, rfl⟩
  have HF := Lib.hid (fun W => rtype_c f W)
  have HT := Lib.hid (fun W => rtype_c t W)
  have HFT := Lib.hid (fun W => rfits_c f n W)
  have HW := Lib.hid (fun W => rwrapped_c t n W)
  have HR := Lib.hid (show numConvert f t n = if kf = false then (0, 40) else if kt = false then (0, 40) else if (c1 == c2) = false then (0, 40) else if ff = false then (0, 1) else (wrapT t n, 0) by unfold numConvert; rw [hkf, hkt, hff, hc1, hc2])
  rw [hkf] at HF
  rw [hkt] at HT
  rw [hff] at HFT
  obtain ⟨wt, hwt⟩ : ∃ q, wrapT t n = q := ⟨_, rfl⟩
  rw [hwt] at HW HR
  clear hkf hkt hff hwt
  cases kf <;> cases kt <;> cases ff <;> cases c1 <;> cases c2
  all_goals go_enter Tryz.func78, Tryz.ntmps78
  all_goals go_wp2_with (first | (go_at_call_of 118 (Value.int IntKind.i64 f); refine (HF.out _).mono ?_; rintro e w1 ⟨rfl, rfl⟩) | (go_at_call 118; refine (HT.out _).mono ?_; rintro e w1 ⟨rfl, rfl⟩) | (go_at_call 72; refine (HFT.out _).mono ?_; rintro e w1 ⟨rfl, rfl⟩) | (go_at_call 121; refine (HW.out _).mono ?_; rintro e w1 ⟨rfl, rfl⟩))
  all_goals go_ret2
  all_goals exact ⟨by rw [HR.out]; rfl, rfl⟩
theorem rflag_c (b : Bool) (w : World) : Calls Tryz.prog 151 #[.bool b] w fun e w' => e = .returned (.int .i64 (flag b)) ∧ w = w' := by
  cases b
  all_goals go_enter Tryz.func151, Tryz.ntmps151
  all_goals go_wp2
  all_goals go_ret
  all_goals exact ⟨rfl, rfl⟩
set_option maxHeartbeats 1000000 in
theorem rpure_c (op a b : Int) (w : World) (h1 : 1 ≤ op) (h14 : op ≤ 14) (hb : op = 4 ∨ op = 5 → b ≠ 0) :
    Calls Tryz.prog 123 #[.int .i64 op, .int .i64 a, .int .i64 b] w fun e w' => e = .returned (.int .i64 (opDo op a b)) ∧ w = w' := by
  have HFL := Lib.hid (fun q W => rflag_c q W)
  have hop : op = 1 ∨ op = 2 ∨ op = 3 ∨ op = 4 ∨ op = 5 ∨ op = 6 ∨ op = 7 ∨ op = 8 ∨ op = 9 ∨ op = 10 ∨ op = 11 ∨ op = 12 ∨ op = 13 ∨ op = 14 := by omega
  have hb0 : op = 4 ∨ op = 5 → (b == 0) = false := fun h => by simpa using hb h
  clear h1 h14
  rcases hop with rfl | rfl | rfl | rfl | rfl | rfl | rfl | rfl | rfl | rfl | rfl | rfl | rfl | rfl
  all_goals (first | (have hbz := hb0 (.inl rfl)) | (have hbz := hb0 (.inr rfl)) | skip)
  all_goals (first | (have hbn := hb (.inl rfl)) | (have hbn := hb (.inr rfl)) | skip)
  all_goals clear hb0 hb
  all_goals go_enter Tryz.func123, Tryz.ntmps123
  all_goals go_wp2_with (go_at_call 151; refine (HFL.out _ _).mono ?_; rintro e w1 ⟨rfl, rfl⟩)
  all_goals go_ret
  all_goals exact ⟨by first | rfl | (simp [opDo]), rfl⟩
set_option maxHeartbeats 2000000 in
theorem rtwo_c (op t a b : Int) (w : World) :
    Calls Tryz.prog 81 #[.int .i64 op, .int .i64 t, .int .i64 a, .int .i64 b] w fun e w' => e = .returned (.tuple #[.int .i64 (two op t a b).1, .int .i64 (two op t a b).2]) ∧ w = w' := by
  have hdef : two op t a b = if hasR op t 2 = false then (0, 40) else if fits t a = false then (0, 1) else if fits t b = false then (0, 1) else if (op = 4 ∨ op = 5) ∧ b = 0 then (0, 41) else if truthOf op then (opDo op a b, 0) else (wrapT t (opDo op a b), 0) := by
    rw [two, does_has, ← has2_eq]
  have HH := Lib.hid (fun W => rhas_c op t 2 W)
  have HA := Lib.hid (fun W => rfits_c t a W)
  have HB := Lib.hid (fun W => rfits_c t b W)
  cases hh : hasR op t 2 with
  | false =>
    have HR := Lib.hid (show two op t a b = (0, 40) by rw [hdef, hh]; rfl)
    rw [hh] at HH
    clear hdef hh
    go_enter Tryz.func81, Tryz.ntmps81
    go_wp2_with (go_at_call 122; refine (HH.out _).mono ?_; rintro e w1 ⟨rfl, rfl⟩)
    go_ret2
    exact ⟨by rw [HR.out]; rfl, rfl⟩
  | true =>
    have hop : 1 ≤ op ∧ op ≤ 14 := by
      have := has2_eq op t
      rw [hh] at this
      have h2 := this.symm
      simp only [Bool.and_eq_true, beq_iff_eq, isOp, oneOf, decide_eq_true_eq, decide_eq_false_iff_not] at h2
      omega
    rw [hh] at HH
    cases ha : fits t a with
    | false =>
      have HR := Lib.hid (show two op t a b = (0, 1) by rw [hdef, hh, ha]; rfl)
      rw [ha] at HA
      clear hdef hh ha
      go_enter Tryz.func81, Tryz.ntmps81
      go_wp2_with (first | (go_at_call 122; refine (HH.out _).mono ?_; rintro e w1 ⟨rfl, rfl⟩) | (go_at_call 72; refine (HA.out _).mono ?_; rintro e w1 ⟨rfl, rfl⟩))
      go_ret2
      exact ⟨by rw [HR.out]; rfl, rfl⟩
    | true =>
      rw [ha] at HA
      cases hb : fits t b with
      | false =>
        have HR := Lib.hid (show two op t a b = (0, 1) by rw [hdef, hh, ha, hb]; rfl)
        rw [hb] at HB
        clear hdef hh ha hb
        go_enter Tryz.func81, Tryz.ntmps81
        go_wp2_with (first | (go_at_call 122; refine (HH.out _).mono ?_; rintro e w1 ⟨rfl, rfl⟩) | (go_at_call_of 72 (Value.int IntKind.i64 a); refine (HA.out _).mono ?_; clear HA; rintro e w1 ⟨rfl, rfl⟩) | (go_at_call 72; refine (HB.out _).mono ?_; rintro e w1 ⟨rfl, rfl⟩))
        go_ret2
        exact ⟨by rw [HR.out]; rfl, rfl⟩
      | true =>
        rw [hb] at HB
        by_cases hz : (op = 4 ∨ op = 5) ∧ b = 0
        · have HR := Lib.hid (show two op t a b = (0, 41) by rw [hdef, hh, ha, hb, if_neg (by simp), if_neg (by simp), if_neg (by simp), if_pos hz])
          obtain ⟨h45, rfl⟩ := hz
          clear hdef hh ha hb hop
          rcases h45 with rfl | rfl
          all_goals go_enter Tryz.func81, Tryz.ntmps81
          all_goals go_wp2_with (first | (go_at_call 122; refine (HH.out _).mono ?_; rintro e w1 ⟨rfl, rfl⟩) | (go_at_call_of 72 (Value.int IntKind.i64 a); refine (HA.out _).mono ?_; clear HA; rintro e w1 ⟨rfl, rfl⟩) | (go_at_call 72; refine (HB.out _).mono ?_; rintro e w1 ⟨rfl, rfl⟩))
          all_goals go_ret2
          all_goals exact ⟨by rw [HR.out]; rfl, rfl⟩
        · have HP := Lib.hid (fun W => rpure_c op a b W hop.1 hop.2 (fun h4 h0 => hz ⟨h4, h0⟩))
          have HR := Lib.hid (show two op t a b = if truthOf op then (opDo op a b, 0) else (wrapT t (opDo op a b), 0) by rw [hdef, hh, ha, hb, if_neg (by simp), if_neg (by simp), if_neg (by simp), if_neg hz])
          obtain ⟨v, hv⟩ : ∃ v, opDo op a b = v := ⟨_, rfl⟩
          rw [hv] at HP HR
          have HW := Lib.hid (fun W => rwrapped_c t v W)
          clear hdef hh ha hb hv
          obtain ⟨h1, h14⟩ := hop
          by_cases h45 : op = 4 ∨ op = 5
          · have hb0 : b ≠ 0 := fun h0 => hz ⟨h45, h0⟩
            have hbb : (b == 0) = false := by simpa using hb0
            clear hz
            rcases h45 with rfl | rfl
            all_goals go_enter Tryz.func81, Tryz.ntmps81
            all_goals go_wp2_with (first | (go_at_call 122; refine (HH.out _).mono ?_; rintro e w1 ⟨rfl, rfl⟩) | (go_at_call_of 72 (Value.int IntKind.i64 a); refine (HA.out _).mono ?_; clear HA; rintro e w1 ⟨rfl, rfl⟩) | (go_at_call 72; refine (HB.out _).mono ?_; rintro e w1 ⟨rfl, rfl⟩) | (go_at_call 123; refine (HP.out _).mono ?_; rintro e w1 ⟨rfl, rfl⟩) | (go_at_call 121; refine (HW.out _).mono ?_; rintro e w1 ⟨rfl, rfl⟩))
            all_goals go_ret2
            all_goals exact ⟨by rw [HR.out]; rfl, rfl⟩
          · have b4 : (op == 4) = false := by simp; omega
            have b5 : (op == 5) = false := by simp; omega
            clear hz
            by_cases h9 : 9 ≤ op
            · have HR2 := Lib.hid (show two op t a b = (v, 0) by rw [HR.out, if_pos ((truth_iff op).2 ⟨h9, h14⟩)])
              clear HR h45
              go_enter Tryz.func81, Tryz.ntmps81
              go_wp2_with (first | (go_at_call 122; refine (HH.out _).mono ?_; rintro e w1 ⟨rfl, rfl⟩) | (go_at_call_of 72 (Value.int IntKind.i64 a); refine (HA.out _).mono ?_; clear HA; rintro e w1 ⟨rfl, rfl⟩) | (go_at_call 72; refine (HB.out _).mono ?_; rintro e w1 ⟨rfl, rfl⟩) | (go_at_call 123; refine (HP.out _).mono ?_; rintro e w1 ⟨rfl, rfl⟩) | (go_at_call 121; refine (HW.out _).mono ?_; rintro e w1 ⟨rfl, rfl⟩))
              go_ret2
              exact ⟨by rw [HR2.out]; rfl, rfl⟩
            · have HR2 := Lib.hid (show two op t a b = (wrapT t v, 0) by rw [HR.out, if_neg (fun h => h9 ((truth_iff op).1 h).1)])
              clear HR h45
              go_enter Tryz.func81, Tryz.ntmps81
              go_wp2_with (first | (go_at_call 122; refine (HH.out _).mono ?_; rintro e w1 ⟨rfl, rfl⟩) | (go_at_call_of 72 (Value.int IntKind.i64 a); refine (HA.out _).mono ?_; clear HA; rintro e w1 ⟨rfl, rfl⟩) | (go_at_call 72; refine (HB.out _).mono ?_; rintro e w1 ⟨rfl, rfl⟩) | (go_at_call 123; refine (HP.out _).mono ?_; rintro e w1 ⟨rfl, rfl⟩) | (go_at_call 121; refine (HW.out _).mono ?_; rintro e w1 ⟨rfl, rfl⟩))
              go_ret2
              exact ⟨by rw [HR2.out]; rfl, rfl⟩
set_option maxHeartbeats 2000000 in
theorem rone_c (op t a : Int) (w : World) :
    Calls Tryz.prog 80 #[.int .i64 op, .int .i64 t, .int .i64 a] w fun e w' => e = .returned (.tuple #[.int .i64 (one op t a).1, .int .i64 (one op t a).2]) ∧ w = w' := by
  have hdef : one op t a = if hasR op t 1 = false then (0, 40) else if fits t a = false then (0, 1) else if fits t a = false then (0, 1) else if (op = 4 ∨ op = 5) ∧ a = 0 then (0, 41) else if truthOf op then (opDo op a a, 0) else (wrapT t (opDo op a a), 0) := by
    rw [one, does_has, ← has1_eq]
  have HH := Lib.hid (fun W => rhas_c op t 1 W)
  have HA := Lib.hid (fun W => rfits_c t a W)
  cases hh : hasR op t 1 with
  | false =>
    have HR := Lib.hid (show one op t a = (0, 40) by rw [hdef, hh]; rfl)
    rw [hh] at HH
    clear hdef hh
    go_enter Tryz.func80, Tryz.ntmps80
    go_wp2_with (go_at_call 122; refine (HH.out _).mono ?_; rintro e w1 ⟨rfl, rfl⟩)
    go_ret2
    exact ⟨by rw [HR.out]; rfl, rfl⟩
  | true =>
    have hop : (op = 15 ∧ t ≠ 1) ∨ op = 16 := by
      unfold hasR at hh
      by_cases hk : known t = false
      · rw [if_pos hk] at hh
        cases hh
      · rw [if_neg hk, if_pos rfl] at hh
        simp only [Bool.or_eq_true, Bool.and_eq_true, beq_iff_eq, bne_iff_ne] at hh
        rcases hh with h | h
        · exact .inl h
        · exact .inr h.1
    rw [hh] at HH
    cases ha : fits t a with
    | false =>
      have HR := Lib.hid (show one op t a = (0, 1) by rw [hdef, hh, ha]; rfl)
      rw [ha] at HA
      clear hdef hh ha
      go_enter Tryz.func80, Tryz.ntmps80
      go_wp2_with (first | (go_at_call 122; refine (HH.out _).mono ?_; rintro e w1 ⟨rfl, rfl⟩) | (go_at_call 72; refine (HA.out _).mono ?_; rintro e w1 ⟨rfl, rfl⟩))
      go_ret2
      exact ⟨by rw [HR.out]; rfl, rfl⟩
    | true =>
      rw [ha] at HA
      have hrg : -2147483648 ≤ a ∧ a ≤ 2147483647 ∧ (t = 1 → a = 0 ∨ a = 1) := by
        rw [fits_iff] at ha
        omega
      have hR : one op t a = (wrapT t (opDo op a a), 0) := by
        rw [hdef, hh, ha, if_neg (by simp), if_neg (by simp), if_neg (by simp), if_neg (by omega), if_neg (fun h => by have := (truth_iff op).1 h; omega)]
      clear hdef hh ha
      rcases hop with ⟨rfl, ht⟩ | rfl
      · have HR := Lib.hid (show one 15 t a = (wrapT t (wrap64 (-a)), 0) from hR)
        have HW := Lib.hid (fun W => rwrapped_c t (wrap64 (-a)) W)
        have hw : wrap64 (-a) = -a := by unfold wrap64; omega
        clear hR
        rw [hw] at HW HR
        go_enter Tryz.func80, Tryz.ntmps80
        go_wp2_with (first | (go_at_call 122; refine (HH.out _).mono ?_; rintro e w1 ⟨rfl, rfl⟩) | (go_at_call 72; refine (HA.out _).mono ?_; rintro e w1 ⟨rfl, rfl⟩) | (go_at_call 121; refine (HW.out _).mono ?_; rintro e w1 ⟨rfl, rfl⟩))
        go_ret2
        exact ⟨by rw [HR.out]; rfl, rfl⟩
      · have hx := xor_m1 a (by omega) (by omega)
        have HR := Lib.hid (show one 16 t a = (wrapT t (-1 - a), 0) by rw [hR, ← hx]; rfl)
        have HW := Lib.hid (fun W => rwrapped_c t (-1 - a) W)
        clear hR hx
        by_cases ht : t = 1
        · subst ht
          have HR2 := Lib.hid (show one 16 1 a = (1 - a, 0) by
            rw [HR.out]
            rcases hrg.2.2 rfl with rfl | rfl <;> rfl)
          clear HR
          go_enter Tryz.func80, Tryz.ntmps80
          go_wp2_with (first | (go_at_call 122; refine (HH.out _).mono ?_; rintro e w1 ⟨rfl, rfl⟩) | (go_at_call 72; refine (HA.out _).mono ?_; rintro e w1 ⟨rfl, rfl⟩))
          go_ret2
          exact ⟨by rw [HR2.out]; first | rfl | (congr 3; unfold wrap64; omega), rfl⟩
        · have hb : (t == 1) = false := by simpa using ht
          go_enter Tryz.func80, Tryz.ntmps80
          go_wp2_with (first | (go_at_call 122; refine (HH.out _).mono ?_; rintro e w1 ⟨rfl, rfl⟩) | (go_at_call 72; refine (HA.out _).mono ?_; rintro e w1 ⟨rfl, rfl⟩) | (go_at_call 121; refine (HW.out _).mono ?_; rintro e w1 ⟨rfl, rfl⟩))
          go_ret2
          exact ⟨by rw [HR.out]; rfl, rfl⟩
end Go.Proofs.YtenjkplijblcoaaGreatDoor
