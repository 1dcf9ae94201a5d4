/- package typed: plain, whole, fits, counts, one, two. -/
import Derived.Test.YtenjkplijblcoaaGreatDoorCBase
import Derived.Test.YtenjkplijblcoaaGreatDoorCNum
import Derived.Laws.ResultCell
set_option linter.unusedSimpArgs false
set_option linter.unusedVariables false
namespace Go.Proofs.YtenjkplijblcoaaGreatDoor
open Go.RowKit Cap
set_option maxRecDepth 100000

theorem ne_i {a b : Int} (h : ¬ a = b) : (a == b) = false := by simpa using h
theorem ret_vi {v v' : Value} {a b : Int} (h : v = v') (h' : a = b) : Ending.returned (.tuple #[v, .int .i64 a]) = .returned (.tuple #[v', .int .i64 b]) := by rw [h, h']
theorem results_cell1 {fn : Func} {p : Tmp} {ty : TypeId} (h : fn.results = #[.cell p ty]) (tmps : Array Value) (P : Program) (w : World) :
    (results fn tmps).run P w = ((asAddr (tmps.getD p undef)).run P w).andThen fun a w₁ => (loadVar ty a).run P w₁ := by
  simp only [results, h]
  simp [Sem.run_bind, Result.andThen]
theorem plain_c (t : Int) (w : World) : Calls Tryz.prog 40 #[.int .i64 t] w fun e w' => e = .returned (.agg #[.int .i64 t, .int .i64 0, .int .i64 0]) ∧ Below w.heap.size w w' := by
  go_enter Tryz.func40, Tryz.ntmps40
  go_wp2
  ((try simp only [Exit.inBlock, Exit.then]); refine bodyPost_ret (v := .agg #[.int .i64 t, .int .i64 0, .int .i64 0]) (by rw [results_cell1 rfl]; go_simp) rfl ?_)
  exact ⟨rfl, by (repeat' (first | (with_reducible exact Below.refl _ _) | (with_reducible refine below_alloc ?_) | (with_reducible refine below_drew ?_) | (with_reducible refine below_drewN ?_) | (with_reducible refine below_set (by simp; omega) ?_) | (with_reducible refine below_call (by with_reducible assumption) ?_)))⟩
theorem whole_c (t : Int) (w : World) : Calls Tryz.prog 41 #[.int .i64 t] w fun e w' => e = .returned (.bool (whole t)) ∧ w = w' := by
  go_enter Tryz.func41, Tryz.ntmps41
  by_cases h2 : t = 2
  · subst h2
    go_wp2
    go_ret
    exact ⟨rfl, rfl⟩
  by_cases h3 : t = 3
  · subst h3
    go_wp2
    go_ret
    exact ⟨rfl, rfl⟩
  have b2 := ne_i h2
  have b3 := ne_i h3
  go_wp2
  go_ret
  exact ⟨ret_b (by simp [whole, b2, b3]), rfl⟩
set_option maxHeartbeats 1000000 in
theorem tfits_c (v : Va) (t : Int) (w : World) : Calls Tryz.prog 42 #[vaV v, .int .i64 t] w fun e w' => e = .returned (.bool (vaFits v t)) ∧ Below w.heap.size w w' := by
  obtain ⟨vt, lo, hi⟩ := v
  have H1 := Lib.hid (fun W => fits_c t lo W)
  have H2 := Lib.hid (fun W => fits_c t hi W)
  unfold vaV vaFits
  simp only
  obtain ⟨b1, h1⟩ : ∃ b, fits t lo = b := ⟨_, rfl⟩
  obtain ⟨b2, h2⟩ : ∃ b, fits t hi = b := ⟨_, rfl⟩
  rw [h1] at H1
  rw [h2] at H2
  rw [h1, h2]
  clear h1 h2
  go_enter Tryz.func42, Tryz.ntmps42
  cases b1 <;> cases b2
  all_goals go_wp2_with (go_at_call 19; first | (refine (H1.out _).mono ?_; clear H1; rintro e w2 ⟨rfl, rfl⟩) | (refine (H2.out _).mono ?_; rintro e w2 ⟨rfl, rfl⟩))
  all_goals go_ret
  all_goals exact ⟨rfl, by (repeat' (first | (with_reducible exact Below.refl _ _) | (with_reducible refine below_alloc ?_) | (with_reducible refine below_drew ?_) | (with_reducible refine below_drewN ?_) | (with_reducible refine below_set (by simp; omega) ?_) | (with_reducible refine below_call (by with_reducible assumption) ?_)))⟩
set_option maxHeartbeats 1000000 in
theorem counts_c (v : Va) (time : Bool) (w : World) : Calls Tryz.prog 85 #[vaV v, .bool time] w fun e w' => e = .returned (.int .i64 (countsV v time)) ∧ Below w.heap.size w w' := by
  have HF := Lib.hid (fun W => tfits_c v 3 W)
  unfold countsV
  obtain ⟨bf, hf⟩ : ∃ b, vaFits v 3 = b := ⟨_, rfl⟩
  rw [hf] at HF
  rw [hf]
  clear hf
  obtain ⟨t, lo, hi⟩ := v
  unfold vaV at HF ⊢
  simp only at HF ⊢
  have HW := Lib.hid (fun W => whole_c t W)
  go_enter Tryz.func85, Tryz.ntmps85
  by_cases h0 : t = 0
  · subst h0
    cases bf
    all_goals go_wp2_with (first | (go_at_call 42; refine (HF.out _).mono ?_; rintro e w1 ⟨rfl, hb1⟩; obtain ⟨hc1, hf1⟩ := bcell hb1; have hz1 := hb1.size; (try simp at hz1); (try have hw01 : w.heap.size < w1.heap.size := by omega); (try have hw11 : w.heap.size + 1 < w1.heap.size := by omega); (try have hw21 : w.heap.size + 1 + 1 < w1.heap.size := by omega)) | (go_at_call 41; refine (HW.out _).mono ?_; rintro e w2 ⟨rfl, rfl⟩))
    all_goals go_ret
    all_goals exact ⟨rfl, by (repeat' (first | (with_reducible exact Below.refl _ _) | (with_reducible refine below_alloc ?_) | (with_reducible refine below_drew ?_) | (with_reducible refine below_drewN ?_) | (with_reducible refine below_set (by simp; omega) ?_) | (with_reducible refine below_call (by with_reducible assumption) ?_)))⟩
  have b0 := ne_i h0
  obtain ⟨bw, hw⟩ : ∃ b, whole t = b := ⟨_, rfl⟩
  rw [hw] at HW
  rw [hw]
  have HWW := Lib.hid hw
  clear hw
  cases bw with
  | true =>
    go_wp2_with (first | (go_at_call 42; refine (HF.out _).mono ?_; rintro e w1 ⟨rfl, hb1⟩; obtain ⟨hc1, hf1⟩ := bcell hb1; have hz1 := hb1.size; (try simp at hz1); (try have hw01 : w.heap.size < w1.heap.size := by omega); (try have hw11 : w.heap.size + 1 < w1.heap.size := by omega); (try have hw21 : w.heap.size + 1 + 1 < w1.heap.size := by omega)) | (go_at_call 41; refine (HW.out _).mono ?_; rintro e w2 ⟨rfl, rfl⟩))
    go_ret
    exact ⟨ret_i (by first | rfl | rw [if_neg (by rintro ⟨h, _⟩; exact h0 h), if_pos (.inr (.inl rfl))]), by (repeat' (first | (with_reducible exact Below.refl _ _) | (with_reducible refine below_alloc ?_) | (with_reducible refine below_drew ?_) | (with_reducible refine below_drewN ?_) | (with_reducible refine below_set (by simp; omega) ?_) | (with_reducible refine below_call (by with_reducible assumption) ?_)))⟩
  | false =>
    cases time with
    | false =>
      go_wp2_with (first | (go_at_call 42; refine (HF.out _).mono ?_; rintro e w1 ⟨rfl, hb1⟩; obtain ⟨hc1, hf1⟩ := bcell hb1; have hz1 := hb1.size; (try simp at hz1); (try have hw01 : w.heap.size < w1.heap.size := by omega); (try have hw11 : w.heap.size + 1 < w1.heap.size := by omega); (try have hw21 : w.heap.size + 1 + 1 < w1.heap.size := by omega)) | (go_at_call 41; refine (HW.out _).mono ?_; rintro e w2 ⟨rfl, rfl⟩))
      go_ret
      exact ⟨ret_i (by first | rfl | rw [if_neg (by rintro ⟨h, _⟩; exact h0 h), if_neg (by rintro (h | h | ⟨h, _⟩) <;> first | exact h0 h | cases h)]), by (repeat' (first | (with_reducible exact Below.refl _ _) | (with_reducible refine below_alloc ?_) | (with_reducible refine below_drew ?_) | (with_reducible refine below_drewN ?_) | (with_reducible refine below_set (by simp; omega) ?_) | (with_reducible refine below_call (by with_reducible assumption) ?_)))⟩
    | true =>
      by_cases h4 : t = 4
      · subst h4
        go_wp2_with (first | (go_at_call 42; refine (HF.out _).mono ?_; rintro e w1 ⟨rfl, hb1⟩; obtain ⟨hc1, hf1⟩ := bcell hb1; have hz1 := hb1.size; (try simp at hz1); (try have hw01 : w.heap.size < w1.heap.size := by omega); (try have hw11 : w.heap.size + 1 < w1.heap.size := by omega); (try have hw21 : w.heap.size + 1 + 1 < w1.heap.size := by omega)) | (go_at_call 41; refine (HW.out _).mono ?_; rintro e w2 ⟨rfl, rfl⟩))
        go_ret
        exact ⟨rfl, by (repeat' (first | (with_reducible exact Below.refl _ _) | (with_reducible refine below_alloc ?_) | (with_reducible refine below_drew ?_) | (with_reducible refine below_drewN ?_) | (with_reducible refine below_set (by simp; omega) ?_) | (with_reducible refine below_call (by with_reducible assumption) ?_)))⟩
      · have b4 := ne_i h4
        go_wp2_with (first | (go_at_call 42; refine (HF.out _).mono ?_; rintro e w1 ⟨rfl, hb1⟩; obtain ⟨hc1, hf1⟩ := bcell hb1; have hz1 := hb1.size; (try simp at hz1); (try have hw01 : w.heap.size < w1.heap.size := by omega); (try have hw11 : w.heap.size + 1 < w1.heap.size := by omega); (try have hw21 : w.heap.size + 1 + 1 < w1.heap.size := by omega)) | (go_at_call 41; refine (HW.out _).mono ?_; rintro e w2 ⟨rfl, rfl⟩))
        go_ret
        exact ⟨ret_i (by first | rfl | rw [if_neg (by rintro ⟨h, _⟩; exact h0 h), if_neg (by rintro (h | h | ⟨_, h⟩) <;> first | exact h0 h | exact h4 h | cases h)]), by (repeat' (first | (with_reducible exact Below.refl _ _) | (with_reducible refine below_alloc ?_) | (with_reducible refine below_drew ?_) | (with_reducible refine below_drewN ?_) | (with_reducible refine below_set (by simp; omega) ?_) | (with_reducible refine below_call (by with_reducible assumption) ?_)))⟩
theorem tone_c (op : Int) (a : Va) (w : World) : Calls Tryz.prog 86 #[.int .i64 op, vaV a] w fun e w' => e = .returned (.tuple #[vaV (oneV op a).1, .int .i64 (oneV op a).2]) ∧ Below w.heap.size w w' := by
  obtain ⟨t, lo, hi⟩ := a
  unfold oneV
  simp only
  by_cases h0 : t = 0
  · subst h0
    have HO := Lib.hid (fun W => one_c op 3 1 W)
    obtain ⟨⟨r, e⟩, he⟩ : ∃ q, one op 3 1 = q := ⟨_, rfl⟩
    simp only [if_true, he] at HO ⊢
    clear he
    unfold vaV
    go_enter Tryz.func86, Tryz.ntmps86
    by_cases h1 : e = 0
    · subst h1
      go_wp2_with (go_at_call 76; refine (HO.out _).mono ?_; rintro e w1 ⟨rfl, hb1⟩; obtain ⟨hc1, hf1⟩ := bcell hb1; have hz1 := hb1.size; (try simp at hz1); (try have hw01 : w.heap.size < w1.heap.size := by omega); (try have hw11 : w.heap.size + 1 < w1.heap.size := by omega); (try have hw21 : w.heap.size + 1 + 1 < w1.heap.size := by omega))
      ((try simp only [Exit.inBlock, Exit.then]); refine bodyPost_ret (v := .tuple #[.agg #[.int .i64 0, .int .i64 lo, .int .i64 hi], .int .i64 (0)]) (by rw [results_cell_tmp rfl]; go_simp) rfl ?_)
      exact ⟨rfl, by (repeat' (first | (with_reducible exact Below.refl _ _) | (with_reducible refine below_alloc ?_) | (with_reducible refine below_drew ?_) | (with_reducible refine below_drewN ?_) | (with_reducible refine below_set (by first | (simp; done) | (simp; omega)) ?_) | (with_reducible refine below_call (by with_reducible assumption) ?_)))⟩
    · have hb := ne_i h1
      go_wp2_with (go_at_call 76; refine (HO.out _).mono ?_; rintro e w1 ⟨rfl, hb1⟩; obtain ⟨hc1, hf1⟩ := bcell hb1; have hz1 := hb1.size; (try simp at hz1); (try have hw01 : w.heap.size < w1.heap.size := by omega); (try have hw11 : w.heap.size + 1 < w1.heap.size := by omega); (try have hw21 : w.heap.size + 1 + 1 < w1.heap.size := by omega))
      ((try simp only [Exit.inBlock, Exit.then]); refine bodyPost_ret (v := .tuple #[.agg #[.int .i64 0, .int .i64 0, .int .i64 0], .int .i64 (40)]) (by rw [results_cell_tmp rfl]; go_simp) rfl ?_)
      exact ⟨by simp [h1, plainV], by (repeat' (first | (with_reducible exact Below.refl _ _) | (with_reducible refine below_alloc ?_) | (with_reducible refine below_drew ?_) | (with_reducible refine below_drewN ?_) | (with_reducible refine below_set (by first | (simp; done) | (simp; omega)) ?_) | (with_reducible refine below_call (by with_reducible assumption) ?_)))⟩
  · have b0 := ne_i h0
    have HO := Lib.hid (fun W => one_c op t 1 W)
    obtain ⟨⟨r, e⟩, he⟩ : ∃ q, one op t 1 = q := ⟨_, rfl⟩
    simp only [if_neg h0, he] at HO ⊢
    clear he
    unfold vaV
    go_enter Tryz.func86, Tryz.ntmps86
    by_cases h1 : e = 0
    · subst h1
      go_wp2_with (go_at_call 76; refine (HO.out _).mono ?_; rintro e w1 ⟨rfl, hb1⟩; obtain ⟨hc1, hf1⟩ := bcell hb1; have hz1 := hb1.size; (try simp at hz1); (try have hw01 : w.heap.size < w1.heap.size := by omega); (try have hw11 : w.heap.size + 1 < w1.heap.size := by omega); (try have hw21 : w.heap.size + 1 + 1 < w1.heap.size := by omega))
      ((try simp only [Exit.inBlock, Exit.then]); refine bodyPost_ret (v := .tuple #[.agg #[.int .i64 t, .int .i64 lo, .int .i64 hi], .int .i64 (0)]) (by rw [results_cell_tmp rfl]; go_simp) rfl ?_)
      exact ⟨rfl, by (repeat' (first | (with_reducible exact Below.refl _ _) | (with_reducible refine below_alloc ?_) | (with_reducible refine below_drew ?_) | (with_reducible refine below_drewN ?_) | (with_reducible refine below_set (by first | (simp; done) | (simp; omega)) ?_) | (with_reducible refine below_call (by with_reducible assumption) ?_)))⟩
    · have hb := ne_i h1
      go_wp2_with (go_at_call 76; refine (HO.out _).mono ?_; rintro e w1 ⟨rfl, hb1⟩; obtain ⟨hc1, hf1⟩ := bcell hb1; have hz1 := hb1.size; (try simp at hz1); (try have hw01 : w.heap.size < w1.heap.size := by omega); (try have hw11 : w.heap.size + 1 < w1.heap.size := by omega); (try have hw21 : w.heap.size + 1 + 1 < w1.heap.size := by omega))
      ((try simp only [Exit.inBlock, Exit.then]); refine bodyPost_ret (v := .tuple #[.agg #[.int .i64 0, .int .i64 0, .int .i64 0], .int .i64 (40)]) (by rw [results_cell_tmp rfl]; go_simp) rfl ?_)
      exact ⟨by simp [h1, plainV], by (repeat' (first | (with_reducible exact Below.refl _ _) | (with_reducible refine below_alloc ?_) | (with_reducible refine below_drew ?_) | (with_reducible refine below_drewN ?_) | (with_reducible refine below_set (by first | (simp; done) | (simp; omega)) ?_) | (with_reducible refine below_call (by with_reducible assumption) ?_)))⟩
end Go.Proofs.YtenjkplijblcoaaGreatDoor
