/- expr.may. -/
import Derived.Test.YtbnelgniekcjdaaGreatDoorCFExpr
set_option linter.unusedSimpArgs false
set_option linter.unusedVariables false
namespace Go.Proofs.YtbnelgniekcjdaaGreatDoor
open Go.RowKit Cap
set_option maxRecDepth 100000

theorem ne_int {a b : Int} (h : ¬ a = b) : (a == b) = false := by simpa using h
set_option maxHeartbeats 4000000 in
theorem mayP_c (p : Prt) (w : World) (hG : G w) (hs : p.s.size ≤ 140737488351232) (hf : p.f.size ≤ 140737488351232) :
    Calls Tryz.prog 28 #[prtV p] w fun e w' => e = .returned (.bool (mayP p)) ∧ Below w.heap.size w w' := by
  obtain ⟨k, n, t, s, f⟩ := p
  have HN := Lib.hid (fun W (hW : Below w.heap.size w W) => name_c s W (hG.below hW) hs)
  have HW := Lib.hid (fun W (hW : Below w.heap.size w W) => word_c f W (hG.below hW) hf)
  unfold prtV mayP
  simp only at hs hf ⊢
  clear hs hf hG
  go_enter Tryz.func28, Tryz.ntmps28
  by_cases h1 : k = 1
  · subst h1
    cases hq : fits t n with
    | true =>
      have HF := Lib.hid (fun W => (by rw [← hq]; exact fits_c t n W : Calls Tryz.prog 42 #[.int .i64 t, .int .i64 n] W fun e w' => e = .returned (.bool true) ∧ W = w'))
      clear hq
      by_cases hs0 : s.toList = [] <;> by_cases hf0 : f.toList = []
      all_goals go_wp2_with (go_at_call 42; refine (HF.out _).mono ?_; rintro e w1 ⟨rfl, rfl⟩)
      all_goals go_ret
      all_goals exact ⟨ret_b (by simp [noS, hs0, hf0]), by (repeat' (first | (with_reducible exact Below.refl _ _) | (with_reducible refine below_alloc ?_) | (with_reducible refine below_drew ?_) | (with_reducible refine below_drewN ?_) | (with_reducible refine below_set (by simp; omega) ?_) | (with_reducible refine below_call (by with_reducible assumption) ?_)))⟩
    | false =>
      have HF := Lib.hid (fun W => (by rw [← hq]; exact fits_c t n W : Calls Tryz.prog 42 #[.int .i64 t, .int .i64 n] W fun e w' => e = .returned (.bool false) ∧ W = w'))
      clear hq
      by_cases ht : t = 0
      · subst ht
        by_cases h2 : -2147483648 ≤ n
        · by_cases h3 : n ≤ 2147483648
          · by_cases hs0 : s.toList = [] <;> by_cases hf0 : f.toList = []
            all_goals go_wp2_with (go_at_call 42; refine (HF.out _).mono ?_; rintro e w1 ⟨rfl, rfl⟩)
            all_goals go_ret
            all_goals exact ⟨ret_b (by simp [noS, hs0, hf0, h2, h3]), by (repeat' (first | (with_reducible exact Below.refl _ _) | (with_reducible refine below_alloc ?_) | (with_reducible refine below_drew ?_) | (with_reducible refine below_drewN ?_) | (with_reducible refine below_set (by simp; omega) ?_) | (with_reducible refine below_call (by with_reducible assumption) ?_)))⟩
          · go_wp2_with (go_at_call 42; refine (HF.out _).mono ?_; rintro e w1 ⟨rfl, rfl⟩)
            go_ret
            exact ⟨ret_b (by first | (simp; done) | (simp; intros; omega)), by (repeat' (first | (with_reducible exact Below.refl _ _) | (with_reducible refine below_alloc ?_) | (with_reducible refine below_drew ?_) | (with_reducible refine below_drewN ?_) | (with_reducible refine below_set (by simp; omega) ?_) | (with_reducible refine below_call (by with_reducible assumption) ?_)))⟩
        · go_wp2_with (go_at_call 42; refine (HF.out _).mono ?_; rintro e w1 ⟨rfl, rfl⟩)
          go_ret
          exact ⟨ret_b (by first | (simp; done) | (simp; intros; omega)), by (repeat' (first | (with_reducible exact Below.refl _ _) | (with_reducible refine below_alloc ?_) | (with_reducible refine below_drew ?_) | (with_reducible refine below_drewN ?_) | (with_reducible refine below_set (by simp; omega) ?_) | (with_reducible refine below_call (by with_reducible assumption) ?_)))⟩
      · have hb := ne_int ht
        go_wp2_with (go_at_call 42; refine (HF.out _).mono ?_; rintro e w1 ⟨rfl, rfl⟩)
        go_ret
        exact ⟨ret_b (by simp [ht]), by (repeat' (first | (with_reducible exact Below.refl _ _) | (with_reducible refine below_alloc ?_) | (with_reducible refine below_drew ?_) | (with_reducible refine below_drewN ?_) | (with_reducible refine below_set (by simp; omega) ?_) | (with_reducible refine below_call (by with_reducible assumption) ?_)))⟩
  have hb1 := ne_int h1
  by_cases h23 : k = 2 ∨ k = 3
  · have h6 : (k == 6) = false := ne_int (by omega)
    cases hq : isName s with
    | true =>
      have HN := Lib.hid (fun W (hW : Below w.heap.size w W) => (by have h := HN.out W hW; rw [hq] at h; exact h : Calls Tryz.prog 43 #[.string s] W fun e w' => e = .returned (.bool true) ∧ Below W.heap.size W w'))
      clear hq
      by_cases hn0 : n = 0 <;> by_cases ht0 : t = 0 <;> by_cases hf0 : f.toList = []
      all_goals rcases h23 with rfl | rfl
      all_goals go_wp2_with (go_at_call 43; refine (HN.out _ (by (repeat' (first | (with_reducible exact Below.refl _ _) | (with_reducible refine below_alloc ?_) | (with_reducible refine below_drew ?_) | (with_reducible refine below_drewN ?_) | (with_reducible refine below_set (by simp; omega) ?_) | (with_reducible refine below_call (by with_reducible assumption) ?_))))).mono ?_; rintro e w1 ⟨rfl, hb1⟩; obtain ⟨hc1, hf1⟩ := bcell hb1; have hz1 := hb1.size; (try simp at hz1); (try have hw01 : w.heap.size < w1.heap.size := by omega); (try have hw11 : w.heap.size + 1 < w1.heap.size := by omega); (try have hw21 : w.heap.size + 1 + 1 < w1.heap.size := by omega))
      all_goals go_ret
      all_goals exact ⟨ret_b (by simp [noS, hn0, ht0, hf0]), by (repeat' (first | (with_reducible exact Below.refl _ _) | (with_reducible refine below_alloc ?_) | (with_reducible refine below_drew ?_) | (with_reducible refine below_drewN ?_) | (with_reducible refine below_set (by simp; omega) ?_) | (with_reducible refine below_call (by with_reducible assumption) ?_)))⟩
    | false =>
      have HN := Lib.hid (fun W (hW : Below w.heap.size w W) => (by have h := HN.out W hW; rw [hq] at h; exact h : Calls Tryz.prog 43 #[.string s] W fun e w' => e = .returned (.bool false) ∧ Below W.heap.size W w'))
      clear hq
      rcases h23 with rfl | rfl
      all_goals go_wp2_with (go_at_call 43; refine (HN.out _ (by (repeat' (first | (with_reducible exact Below.refl _ _) | (with_reducible refine below_alloc ?_) | (with_reducible refine below_drew ?_) | (with_reducible refine below_drewN ?_) | (with_reducible refine below_set (by simp; omega) ?_) | (with_reducible refine below_call (by with_reducible assumption) ?_))))).mono ?_; rintro e w1 ⟨rfl, hb1⟩; obtain ⟨hc1, hf1⟩ := bcell hb1; have hz1 := hb1.size; (try simp at hz1); (try have hw01 : w.heap.size < w1.heap.size := by omega); (try have hw11 : w.heap.size + 1 < w1.heap.size := by omega); (try have hw21 : w.heap.size + 1 + 1 < w1.heap.size := by omega))
      all_goals go_ret
      all_goals exact ⟨ret_b (by simp), by (repeat' (first | (with_reducible exact Below.refl _ _) | (with_reducible refine below_alloc ?_) | (with_reducible refine below_drew ?_) | (with_reducible refine below_drewN ?_) | (with_reducible refine below_set (by simp; omega) ?_) | (with_reducible refine below_call (by with_reducible assumption) ?_)))⟩
  have hb2 : (k == 2) = false := ne_int (by omega)
  have hb3 : (k == 3) = false := ne_int (by omega)
  by_cases h4 : k = 4
  · subst h4
    cases hq : isName s with
    | true =>
      have HN := Lib.hid (fun W (hW : Below w.heap.size w W) => (by have h := HN.out W hW; rw [hq] at h; exact h : Calls Tryz.prog 43 #[.string s] W fun e w' => e = .returned (.bool true) ∧ Below W.heap.size W w'))
      clear hq
      cases hqf : isWord f with
      | true =>
        have HW := Lib.hid (fun W (hW : Below w.heap.size w W) => (by have h := HW.out W hW; rw [hqf] at h; exact h : Calls Tryz.prog 44 #[.string f] W fun e w' => e = .returned (.bool true) ∧ Below W.heap.size W w'))
        clear hqf
        by_cases hn0 : n = 0 <;> by_cases ht0 : t = 0
        all_goals go_wp2_with (first | (go_at_call 43; refine (HN.out _ (by (repeat' (first | (with_reducible exact Below.refl _ _) | (with_reducible refine below_alloc ?_) | (with_reducible refine below_drew ?_) | (with_reducible refine below_drewN ?_) | (with_reducible refine below_set (by simp; omega) ?_) | (with_reducible refine below_call (by with_reducible assumption) ?_))))).mono ?_; rintro e w1 ⟨rfl, hb1⟩; obtain ⟨hc1, hf1⟩ := bcell hb1; have hz1 := hb1.size; (try simp at hz1); (try have hw01 : w.heap.size < w1.heap.size := by omega); (try have hw11 : w.heap.size + 1 < w1.heap.size := by omega); (try have hw21 : w.heap.size + 1 + 1 < w1.heap.size := by omega)) | (go_at_call 44; refine (HW.out _ (by (repeat' (first | (with_reducible exact Below.refl _ _) | (with_reducible refine below_alloc ?_) | (with_reducible refine below_drew ?_) | (with_reducible refine below_drewN ?_) | (with_reducible refine below_set (by simp; omega) ?_) | (with_reducible refine below_call (by with_reducible assumption) ?_))))).mono ?_; rintro e w2 ⟨rfl, hb2⟩; obtain ⟨hc2, hf2⟩ := bcell hb2; have hz2 := hb2.size; (try simp at hz2); (try have hw02 : w.heap.size < w2.heap.size := by omega); (try have hw12 : w.heap.size + 1 < w2.heap.size := by omega); (try have hw22 : w.heap.size + 1 + 1 < w2.heap.size := by omega)))
        all_goals go_ret
        all_goals exact ⟨ret_b (by simp [noS, hn0, ht0]), by (repeat' (first | (with_reducible exact Below.refl _ _) | (with_reducible refine below_alloc ?_) | (with_reducible refine below_drew ?_) | (with_reducible refine below_drewN ?_) | (with_reducible refine below_set (by simp; omega) ?_) | (with_reducible refine below_call (by with_reducible assumption) ?_)))⟩
      | false =>
        have HW := Lib.hid (fun W (hW : Below w.heap.size w W) => (by have h := HW.out W hW; rw [hqf] at h; exact h : Calls Tryz.prog 44 #[.string f] W fun e w' => e = .returned (.bool false) ∧ Below W.heap.size W w'))
        clear hqf
        go_wp2_with (first | (go_at_call 43; refine (HN.out _ (by (repeat' (first | (with_reducible exact Below.refl _ _) | (with_reducible refine below_alloc ?_) | (with_reducible refine below_drew ?_) | (with_reducible refine below_drewN ?_) | (with_reducible refine below_set (by simp; omega) ?_) | (with_reducible refine below_call (by with_reducible assumption) ?_))))).mono ?_; rintro e w1 ⟨rfl, hb1⟩; obtain ⟨hc1, hf1⟩ := bcell hb1; have hz1 := hb1.size; (try simp at hz1); (try have hw01 : w.heap.size < w1.heap.size := by omega); (try have hw11 : w.heap.size + 1 < w1.heap.size := by omega); (try have hw21 : w.heap.size + 1 + 1 < w1.heap.size := by omega)) | (go_at_call 44; refine (HW.out _ (by (repeat' (first | (with_reducible exact Below.refl _ _) | (with_reducible refine below_alloc ?_) | (with_reducible refine below_drew ?_) | (with_reducible refine below_drewN ?_) | (with_reducible refine below_set (by simp; omega) ?_) | (with_reducible refine below_call (by with_reducible assumption) ?_))))).mono ?_; rintro e w2 ⟨rfl, hb2⟩; obtain ⟨hc2, hf2⟩ := bcell hb2; have hz2 := hb2.size; (try simp at hz2); (try have hw02 : w.heap.size < w2.heap.size := by omega); (try have hw12 : w.heap.size + 1 < w2.heap.size := by omega); (try have hw22 : w.heap.size + 1 + 1 < w2.heap.size := by omega)))
        go_ret
        exact ⟨ret_b (by simp), by (repeat' (first | (with_reducible exact Below.refl _ _) | (with_reducible refine below_alloc ?_) | (with_reducible refine below_drew ?_) | (with_reducible refine below_drewN ?_) | (with_reducible refine below_set (by simp; omega) ?_) | (with_reducible refine below_call (by with_reducible assumption) ?_)))⟩
    | false =>
      have HN := Lib.hid (fun W (hW : Below w.heap.size w W) => (by have h := HN.out W hW; rw [hq] at h; exact h : Calls Tryz.prog 43 #[.string s] W fun e w' => e = .returned (.bool false) ∧ Below W.heap.size W w'))
      clear hq
      go_wp2_with (go_at_call 43; refine (HN.out _ (by (repeat' (first | (with_reducible exact Below.refl _ _) | (with_reducible refine below_alloc ?_) | (with_reducible refine below_drew ?_) | (with_reducible refine below_drewN ?_) | (with_reducible refine below_set (by simp; omega) ?_) | (with_reducible refine below_call (by with_reducible assumption) ?_))))).mono ?_; rintro e w1 ⟨rfl, hb1⟩; obtain ⟨hc1, hf1⟩ := bcell hb1; have hz1 := hb1.size; (try simp at hz1); (try have hw01 : w.heap.size < w1.heap.size := by omega); (try have hw11 : w.heap.size + 1 < w1.heap.size := by omega); (try have hw21 : w.heap.size + 1 + 1 < w1.heap.size := by omega))
      go_ret
      exact ⟨ret_b (by simp), by (repeat' (first | (with_reducible exact Below.refl _ _) | (with_reducible refine below_alloc ?_) | (with_reducible refine below_drew ?_) | (with_reducible refine below_drewN ?_) | (with_reducible refine below_set (by simp; omega) ?_) | (with_reducible refine below_call (by with_reducible assumption) ?_)))⟩
  have hb4 := ne_int h4
  by_cases h5 : k = 5
  · subst h5
    by_cases hn1 : 1 ≤ n
    · by_cases hn2 : n ≤ 16
      · by_cases ht0 : t = 0 <;> by_cases hs0 : s.toList = [] <;> by_cases hf0 : f.toList = []
        all_goals go_wp2
        all_goals go_ret
        all_goals exact ⟨ret_b (by simp [noS, ht0, hs0, hf0, hn1, hn2]), by (repeat' (first | (with_reducible exact Below.refl _ _) | (with_reducible refine below_alloc ?_) | (with_reducible refine below_drew ?_) | (with_reducible refine below_drewN ?_) | (with_reducible refine below_set (by simp; omega) ?_) | (with_reducible refine below_call (by with_reducible assumption) ?_)))⟩
      · go_wp2
        go_ret
        exact ⟨ret_b (by first | (simp; done) | (simp; intros; omega)), by (repeat' (first | (with_reducible exact Below.refl _ _) | (with_reducible refine below_alloc ?_) | (with_reducible refine below_drew ?_) | (with_reducible refine below_drewN ?_) | (with_reducible refine below_set (by simp; omega) ?_) | (with_reducible refine below_call (by with_reducible assumption) ?_)))⟩
    · go_wp2
      go_ret
      exact ⟨ret_b (by first | (simp [hn1]; done) | (simp; intros; omega)), by (repeat' (first | (with_reducible exact Below.refl _ _) | (with_reducible refine below_alloc ?_) | (with_reducible refine below_drew ?_) | (with_reducible refine below_drewN ?_) | (with_reducible refine below_set (by simp; omega) ?_) | (with_reducible refine below_call (by with_reducible assumption) ?_)))⟩
  have hb5 := ne_int h5
  by_cases h6 : k = 6
  · subst h6
    by_cases hn1 : 2 ≤ t
    · by_cases hn2 : t ≤ 4
      · by_cases ht0 : n = 0 <;> by_cases hs0 : s.toList = [] <;> by_cases hf0 : f.toList = []
        all_goals go_wp2
        all_goals go_ret
        all_goals exact ⟨ret_b (by simp [noS, ht0, hs0, hf0, hn1, hn2]), by (repeat' (first | (with_reducible exact Below.refl _ _) | (with_reducible refine below_alloc ?_) | (with_reducible refine below_drew ?_) | (with_reducible refine below_drewN ?_) | (with_reducible refine below_set (by simp; omega) ?_) | (with_reducible refine below_call (by with_reducible assumption) ?_)))⟩
      · go_wp2
        go_ret
        exact ⟨ret_b (by first | (simp [hn2]; done) | (simp; intros; omega)), by (repeat' (first | (with_reducible exact Below.refl _ _) | (with_reducible refine below_alloc ?_) | (with_reducible refine below_drew ?_) | (with_reducible refine below_drewN ?_) | (with_reducible refine below_set (by simp; omega) ?_) | (with_reducible refine below_call (by with_reducible assumption) ?_)))⟩
    · go_wp2
      go_ret
      exact ⟨ret_b (by first | (simp [hn1]; done) | (simp; intros; omega)), by (repeat' (first | (with_reducible exact Below.refl _ _) | (with_reducible refine below_alloc ?_) | (with_reducible refine below_drew ?_) | (with_reducible refine below_drewN ?_) | (with_reducible refine below_set (by simp; omega) ?_) | (with_reducible refine below_call (by with_reducible assumption) ?_)))⟩
  have hb6 := ne_int h6
  go_wp2
  go_ret
  exact ⟨ret_b (by simp [h1, h23, h4, h5, h6]), by (repeat' (first | (with_reducible exact Below.refl _ _) | (with_reducible refine below_alloc ?_) | (with_reducible refine below_drew ?_) | (with_reducible refine below_drewN ?_) | (with_reducible refine below_set (by simp; omega) ?_) | (with_reducible refine below_call (by with_reducible assumption) ?_)))⟩
end Go.Proofs.YtbnelgniekcjdaaGreatDoor
