/- The functions of package capstanref04, and the names of capstanref06: what each call answers. -/
import Derived.Test.YtefpgjocfgeenaaGreatDoorName
import Derived.Test.YtefpgjocfgeenaaGreatDoorRefSpec
namespace Go.Proofs.YtefpgjocfgeenaaGreatDoor
open Go.RowKit Cap
set_option maxRecDepth 100000

theorem rtype_c (t : Int) (w : World) :
    Calls Tryz.prog 196 #[.int .i64 t] w fun e w' => e = .returned (.bool (known t)) ∧ w = w' := by
  go_enter Tryz.func196, Tryz.ntmps196
  go_wp2
  · go_ret
    exact ⟨by simp [known, *], rfl⟩
  · go_ret
    have : ¬ (1 ≤ t) := by omega
    exact ⟨by simp [known, *], rfl⟩
theorem rsize_c (t : Int) (w : World) :
    Calls Tryz.prog 197 #[.int .i64 t] w fun e w' => e = .returned (.int .i64 (if t = 2 then 65536 else 4294967296)) ∧ w = w' := by
  by_cases h : t = 2
  · subst h
    go_enter Tryz.func197, Tryz.ntmps197
    go_wp2
    go_ret
    exact ⟨rfl, rfl⟩
  · go_enter Tryz.func197, Tryz.ntmps197
    go_wp2
    go_ret
    exact ⟨by first | rfl | rw [if_neg h], rfl⟩
theorem fits_one (n : Int) : fits 1 n = (n == 0 || n == 1) := by
  rw [Bool.eq_iff_iff]
  simp [fits, known, wrapT]
  omega
theorem fits_two (n : Int) : fits 2 n = (decide (-32768 ≤ n) && decide (n < 32768)) := by
  rw [Bool.eq_iff_iff]
  simp [fits, known, wrapT, wrap16]
  omega
theorem fits_more {t n : Int} (h : known t = true) (h1 : t ≠ 1) (h2 : t ≠ 2) : fits t n = (decide (-2147483648 ≤ n) && decide (n < 2147483648)) := by
  rw [Bool.eq_iff_iff]
  simp [fits, h, wrapT, h1, h2, wrap32]
  omega
theorem fits_no {t n : Int} (h : known t = false) : fits t n = false := by unfold fits; rw [h]; rfl
theorem rfits_c (t n : Int) (w : World) :
    Calls Tryz.prog 115 #[.int .i64 t, .int .i64 n] w fun e w' => e = .returned (.bool (fits t n)) ∧ w = w' := by
  by_cases h1 : t = 1
  · subst h1
    rw [fits_one]
    by_cases h0 : n = 0
    · subst h0
      go_enter Tryz.func115, Tryz.ntmps115
      go_wp2
      go_ret
      exact ⟨rfl, rfl⟩
    · go_enter Tryz.func115, Tryz.ntmps115
      go_wp2
      go_ret
      exact ⟨by simp [h0], rfl⟩
  cases hk : known t with
  | false =>
    rw [fits_no hk]
    go_enter Tryz.func115, Tryz.ntmps115
    go_wp2_with (first | (go_at_call 196; refine (rtype_c _ _).mono ?_; rintro e w1 ⟨rfl, rfl⟩) | (go_at_call 197; refine (rsize_c _ _).mono ?_; rintro e w1 ⟨rfl, rfl⟩))
    go_ret
    exact ⟨rfl, rfl⟩
  | true =>
    by_cases h2 : t = 2
    · subst h2
      rw [fits_two]
      by_cases ha : -32768 ≤ n
      · go_enter Tryz.func115, Tryz.ntmps115
        go_wp2_with (first | (go_at_call 196; refine (rtype_c _ _).mono ?_; rintro e w1 ⟨rfl, rfl⟩) | (go_at_call 197; refine (rsize_c _ _).mono ?_; rintro e w1 ⟨rfl, rfl⟩))
        go_ret
        exact ⟨by simp [ha] <;> (intros; omega), rfl⟩
      · go_enter Tryz.func115, Tryz.ntmps115
        go_wp2_with (first | (go_at_call 196; refine (rtype_c _ _).mono ?_; rintro e w1 ⟨rfl, rfl⟩) | (go_at_call 197; refine (rsize_c _ _).mono ?_; rintro e w1 ⟨rfl, rfl⟩))
        go_ret
        exact ⟨by simp [ha] <;> (intros; omega), rfl⟩
    · rw [fits_more hk h1 h2]
      have hs : (if t = 2 then (65536 : Int) else 4294967296) = 4294967296 := if_neg h2
      have HS := Lib.hid hs
      clear hs
      by_cases ha : -2147483648 ≤ n
      · go_enter Tryz.func115, Tryz.ntmps115
        go_wp2_with (first | (go_at_call 196; refine (rtype_c _ _).mono ?_; rintro e w1 ⟨rfl, rfl⟩) | ((go_at_call 197; refine (rsize_c _ _).mono ?_; rintro e w1 ⟨rfl, rfl⟩); rw [HS.out]))
        go_ret
        exact ⟨by simp [ha] <;> (intros; omega), rfl⟩
      · go_enter Tryz.func115, Tryz.ntmps115
        go_wp2_with (first | (go_at_call 196; refine (rtype_c _ _).mono ?_; rintro e w1 ⟨rfl, rfl⟩) | ((go_at_call 197; refine (rsize_c _ _).mono ?_; rintro e w1 ⟨rfl, rfl⟩); rw [HS.out]))
        go_ret
        exact ⟨by simp [ha] <;> (intros; omega), rfl⟩
set_option maxHeartbeats 4000000 in
theorem rhas_c (op t many : Int) (w : World) :
    Calls Tryz.prog 199 #[.int .i64 op, .int .i64 t, .int .i64 many] w fun e w' => e = .returned (.bool (hasR op t many)) ∧ w = w' := by
  cases hk : known t with
  | false =>
    rw [hasR_notype hk]
    go_enter Tryz.func199, Tryz.ntmps199
    go_wp2_with (go_at_call 196; refine (rtype_c _ _).mono ?_; rintro e w1 ⟨rfl, rfl⟩)
    go_ret
    exact ⟨rfl, rfl⟩
  | true =>
    by_cases hm : many = 1
    · subst hm
      have hR : hasR op t 1 = ((op == 15 && t != 1) || (op == 16 && t != 4)) := by unfold hasR; rw [hk]; rfl
      have HR := Lib.hid hR
      clear hR
      by_cases h15 : op = 15
      · subst h15
        by_cases h1 : t = 1
        · go_enter Tryz.func199, Tryz.ntmps199
          go_wp2_with (go_at_call 196; refine (rtype_c _ _).mono ?_; rintro e w1 ⟨rfl, rfl⟩)
          all_goals go_ret
          all_goals exact ⟨by rw [HR.out]; simp_all, rfl⟩
        · go_enter Tryz.func199, Tryz.ntmps199
          go_wp2_with (go_at_call 196; refine (rtype_c _ _).mono ?_; rintro e w1 ⟨rfl, rfl⟩)
          all_goals go_ret
          all_goals exact ⟨by rw [HR.out]; simp_all, rfl⟩
      · by_cases h16 : op = 16
        · subst h16
          go_enter Tryz.func199, Tryz.ntmps199
          go_wp2_with (go_at_call 196; refine (rtype_c _ _).mono ?_; rintro e w1 ⟨rfl, rfl⟩)
          all_goals go_ret
          all_goals exact ⟨by rw [HR.out]; simp_all, rfl⟩
        · go_enter Tryz.func199, Tryz.ntmps199
          go_wp2_with (go_at_call 196; refine (rtype_c _ _).mono ?_; rintro e w1 ⟨rfl, rfl⟩)
          all_goals go_ret
          all_goals exact ⟨by rw [HR.out]; simp_all, rfl⟩
    · have hR : hasR op t many = (if op = 1 ∨ op = 2 ∨ op = 11 ∨ op = 12 ∨ op = 13 ∨ op = 14 then t != 1
          else if op = 3 ∨ op = 4 ∨ op = 5 then t == 2 || t == 3
          else if op = 6 ∨ op = 7 ∨ op = 8 then t != 4
          else op == 9 || op == 10) := by unfold hasR; rw [hk, if_neg (by simp), if_neg hm]
      have HR := Lib.hid hR
      clear hR
      have ht : t = 2 ∨ t ≠ 2 := Classical.em _
      have hop : op = 1 ∨ op = 2 ∨ op = 3 ∨ op = 4 ∨ op = 5 ∨ op = 6 ∨ op = 7 ∨ op = 8 ∨ op = 9 ∨ op = 10 ∨ op = 11 ∨ op = 12 ∨ op = 13 ∨ op = 14 ∨ ¬ (op = 1 ∨ op = 2 ∨ op = 3 ∨ op = 4 ∨ op = 5 ∨ op = 6 ∨ op = 7 ∨ op = 8 ∨ op = 9 ∨ op = 10 ∨ op = 11 ∨ op = 12 ∨ op = 13 ∨ op = 14) := by omega
      rcases ht with ht | ht <;> rcases hop with rfl | rfl | rfl | rfl | rfl | rfl | rfl | rfl | rfl | rfl | rfl | rfl | rfl | rfl | hop
      all_goals (try simp only [not_or] at hop)
      all_goals (try obtain ⟨n1, n2, n3, n4, n5, n6, n7, n8, n9, n10, n11, n12, n13, n14⟩ := hop)
      all_goals go_enter Tryz.func199, Tryz.ntmps199
      all_goals go_wp2_with (go_at_call 196; refine (rtype_c _ _).mono ?_; rintro e w1 ⟨rfl, rfl⟩)
      all_goals go_ret
      all_goals exact ⟨by rw [HR.out]; simp_all, rfl⟩
theorem rresult_c (op t : Int) (w : World) :
    Calls Tryz.prog 128 #[.int .i64 op, .int .i64 t] w fun e w' => e = .returned (.tuple #[.int .i64 (result op t).1, .int .i64 (result op t).2]) ∧ w = w' := by
  cases h1 : hasR op t 1 with
  | true =>
    have hH : opHas op t = true := by rw [opHas_has, h1]; rfl
    by_cases h9 : 9 ≤ op
    · by_cases h14 : op ≤ 14
      · have hR := Lib.hid (show result op t = (1, 0) by simp [result, hH, truthOf, h9, h14])
        go_enter Tryz.func128, Tryz.ntmps128
        go_wp2_with ((go_at_call 199; refine (rhas_c _ _ _ _).mono ?_; rintro e w1 ⟨rfl, rfl⟩))
        go_ret2
        exact ⟨by rw [hR.out]; rfl, rfl⟩
      · have hR := Lib.hid (show result op t = (t, 0) by simp [result, hH, truthOf, h14])
        go_enter Tryz.func128, Tryz.ntmps128
        go_wp2_with ((go_at_call 199; refine (rhas_c _ _ _ _).mono ?_; rintro e w1 ⟨rfl, rfl⟩))
        go_ret2
        exact ⟨by rw [hR.out]; rfl, rfl⟩
    · have hR := Lib.hid (show result op t = (t, 0) by simp [result, hH, truthOf, h9])
      go_enter Tryz.func128, Tryz.ntmps128
      go_wp2_with ((go_at_call 199; refine (rhas_c _ _ _ _).mono ?_; rintro e w1 ⟨rfl, rfl⟩))
      go_ret2
      exact ⟨by rw [hR.out]; rfl, rfl⟩
  | false =>
    cases h2 : hasR op t 2 with
    | true =>
      have hH : opHas op t = true := by rw [opHas_has, h1, h2]; rfl
      by_cases h9 : 9 ≤ op
      · by_cases h14 : op ≤ 14
        · have hR := Lib.hid (show result op t = (1, 0) by simp [result, hH, truthOf, h9, h14])
          go_enter Tryz.func128, Tryz.ntmps128
          go_wp2_with ((go_at_call 199; refine (rhas_c _ _ _ _).mono ?_; rintro e w1 ⟨rfl, rfl⟩))
          go_ret2
          exact ⟨by rw [hR.out]; rfl, rfl⟩
        · have hR := Lib.hid (show result op t = (t, 0) by simp [result, hH, truthOf, h14])
          go_enter Tryz.func128, Tryz.ntmps128
          go_wp2_with ((go_at_call 199; refine (rhas_c _ _ _ _).mono ?_; rintro e w1 ⟨rfl, rfl⟩))
          go_ret2
          exact ⟨by rw [hR.out]; rfl, rfl⟩
      · have hR := Lib.hid (show result op t = (t, 0) by simp [result, hH, truthOf, h9])
        go_enter Tryz.func128, Tryz.ntmps128
        go_wp2_with ((go_at_call 199; refine (rhas_c _ _ _ _).mono ?_; rintro e w1 ⟨rfl, rfl⟩))
        go_ret2
        exact ⟨by rw [hR.out]; rfl, rfl⟩
    | false =>
      have hH : opHas op t = false := by rw [opHas_has, h1, h2]; rfl
      have hR := Lib.hid (show result op t = (0, 40) by simp [result, hH])
      go_enter Tryz.func128, Tryz.ntmps128
      go_wp2_with ((go_at_call 199; refine (rhas_c _ _ _ _).mono ?_; rintro e w1 ⟨rfl, rfl⟩))
      go_ret2
      exact ⟨by rw [hR.out]; rfl, rfl⟩
end Go.Proofs.YtefpgjocfgeenaaGreatDoor
