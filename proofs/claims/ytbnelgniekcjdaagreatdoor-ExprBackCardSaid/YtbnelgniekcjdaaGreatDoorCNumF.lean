/- num.Fits and what it reaches. -/
import Derived.Test.YtbnelgniekcjdaaGreatDoorProg
import Derived.Test.YtbnelgniekcjdaaGreatDoorCKit
set_option linter.unusedSimpArgs false
set_option linter.unusedVariables false
namespace Go.Proofs.YtbnelgniekcjdaaGreatDoor
open Go.RowKit Cap

set_option maxHeartbeats 400000 in
theorem known_c (t : Int) (w : World) :
    Calls Tryz.prog 64 #[.int .i64 t] w fun e w' => e = .returned (.bool (known t)) ∧ w = w' := by
  go_enter Tryz.func64, Tryz.ntmps64
  go_wp2
  · go_ret
    exact ⟨by simp [known, *], rfl⟩
  · go_ret
    have : ¬ (1 ≤ t) := by omega
    exact ⟨by simp [known, *], rfl⟩

theorem wrap_c (t n : Int) (w : World) :
    Calls Tryz.prog 65 #[.int .i64 t, .int .i64 n] w fun e w' => e = .returned (.int .i64 (wrapT t n)) ∧ w = w' := by
  go_enter Tryz.func65, Tryz.ntmps65
  go_wp2
  · go_ret
    have h1 : t = 1 := by simp_all
    exact ⟨ret_i (by rw [wrapT, if_pos h1, and_one_i64]), rfl⟩
  · go_ret
    have h1 : ¬ t = 1 := by simp_all
    have h2 : t = 2 := by simp_all
    exact ⟨ret_i (by rw [wrapT, if_neg h1, if_pos h2, wrap16_eq, wrap64_16]), rfl⟩
  · go_ret
    have h1 : ¬ t = 1 := by simp_all
    have h2 : ¬ t = 2 := by simp_all
    exact ⟨ret_i (by rw [wrapT, if_neg h1, if_neg h2, wrap64_32]), rfl⟩

theorem fits_c (t n : Int) (w : World) :
    Calls Tryz.prog 42 #[.int .i64 t, .int .i64 n] w fun e w' => e = .returned (.bool (fits t n)) ∧ w = w' := by
  cases hk : known t with
  | true =>
    go_enter Tryz.func42, Tryz.ntmps42
    go_wp2_with (first | (go_at_call 64; refine (known_c _ _).mono ?_; rintro e w' ⟨rfl, rfl⟩) | (go_at_call 65; refine (wrap_c _ _ _).mono ?_; rintro e w' ⟨rfl, rfl⟩))
    go_ret
    exact ⟨by simp [fits, hk], rfl⟩
  | false =>
    go_enter Tryz.func42, Tryz.ntmps42
    go_wp2_with (first | (go_at_call 64; refine (known_c _ _).mono ?_; rintro e w' ⟨rfl, rfl⟩) | (go_at_call 65; refine (wrap_c _ _ _).mono ?_; rintro e w' ⟨rfl, rfl⟩))
    go_ret
    exact ⟨by simp [fits, hk], rfl⟩

end Go.Proofs.YtbnelgniekcjdaaGreatDoor
