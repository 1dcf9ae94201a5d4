/- stmt.Check of no statements, decl.may, decl.Check, typed.wrong. -/
import Derived.Test.YtenjkplijblcoaaGreatDoorCFExpr
import Derived.LoopN
set_option linter.unusedSimpArgs false
set_option linter.unusedVariables false
namespace Go.Proofs.YtenjkplijblcoaaGreatDoor
open Go.RowKit Cap
set_option maxRecDepth 100000

theorem count_nil (w : World) : Calls Tryz.prog 153 #[.slice none 0 0] w fun e w' => e = .returned (.int .i64 0) ∧ Below w.heap.size w w' := by
  go_enter Tryz.func153, Tryz.ntmps153
  go_wp2
  refine wp_loop_rounds 1 ?_
  rw [rounds_succ]
  go_wp2
  go_ret
  exact ⟨rfl, by (repeat' (first | (with_reducible exact Below.refl _ _) | (with_reducible refine below_alloc ?_) | (with_reducible refine below_drew ?_) | (with_reducible refine below_drewN ?_) | (with_reducible refine below_set (by simp; omega) ?_) | (with_reducible refine below_call (by with_reducible assumption) ?_)))⟩
theorem nest_nil (w : World) : Calls Tryz.prog 154 #[.slice none 0 0] w fun e w' => e = .returned (.int .i64 0) ∧ Below w.heap.size w w' := by
  go_enter Tryz.func154, Tryz.ntmps154
  go_wp2
  refine wp_loop_rounds 1 ?_
  rw [rounds_succ]
  go_wp2
  go_ret
  exact ⟨rfl, by (repeat' (first | (with_reducible exact Below.refl _ _) | (with_reducible refine below_alloc ?_) | (with_reducible refine below_drew ?_) | (with_reducible refine below_drewN ?_) | (with_reducible refine below_set (by simp; omega) ?_) | (with_reducible refine below_call (by with_reducible assumption) ?_)))⟩
theorem all_nil (w : World) : Calls Tryz.prog 155 #[.slice none 0 0] w fun e w' => e = .returned (.bool true) ∧ Below w.heap.size w w' := by
  go_enter Tryz.func155, Tryz.ntmps155
  go_wp2
  refine wp_loop_rounds 1 ?_
  rw [rounds_succ]
  go_wp2
  go_ret
  exact ⟨rfl, by (repeat' (first | (with_reducible exact Below.refl _ _) | (with_reducible refine below_alloc ?_) | (with_reducible refine below_drew ?_) | (with_reducible refine below_drewN ?_) | (with_reducible refine below_set (by simp; omega) ?_) | (with_reducible refine below_call (by with_reducible assumption) ?_)))⟩
theorem scheck_nil (w : World) : Calls Tryz.prog 126 #[.slice none 0 0] w fun e w' => e = .returned (.int .i64 0) ∧ Below w.heap.size w w' := by
  go_enter Tryz.func126, Tryz.ntmps126
  go_wp2_with (first
    | (go_at_call 153; refine (count_nil _).mono ?_; rintro e w1 ⟨rfl, hb1⟩)
    | (go_at_call 154; refine (nest_nil _).mono ?_; rintro e w2 ⟨rfl, hb2⟩)
    | (go_at_call 155; refine (all_nil _).mono ?_; rintro e w3 ⟨rfl, hb3⟩))
  go_ret
  exact ⟨rfl, by (repeat' (first | (with_reducible exact Below.refl _ _) | (with_reducible refine below_alloc ?_) | (with_reducible refine below_drew ?_) | (with_reducible refine below_drewN ?_) | (with_reducible refine below_set (by simp; omega) ?_) | (with_reducible refine below_call (by with_reducible assumption) ?_)))⟩
theorem ne_int' {a b : Int} (h : ¬ a = b) : (a == b) = false := by simpa using h
set_option maxHeartbeats 4000000 in
theorem mayV_c (v : Vr) (w : World) (hG : G w) (hs : v.name.size ≤ 140737488351232) :
    Calls Tryz.prog 129 #[vrV v] w fun e w' => e = .returned (.bool (mayV v)) ∧ Below w.heap.size w w' := by
  obtain ⟨nm, ty, len, init, dir⟩ := v
  have HN := Lib.hid (fun W (hW : Below w.heap.size w W) => name_c nm W (hG.below hW) hs)
  have HF0 := Lib.hid (fun W => fits_c ty 0 W)
  have HF1 := Lib.hid (fun W => fits_c ty init W)
  unfold vrV mayV
  simp only at hs ⊢
  clear hs hG
  obtain ⟨bn, hn⟩ : ∃ b, isName nm = b := ⟨_, rfl⟩
  obtain ⟨f0, h0⟩ : ∃ b, fits ty 0 = b := ⟨_, rfl⟩
  obtain ⟨f1, h1⟩ : ∃ b, fits ty init = b := ⟨_, rfl⟩
  rw [hn] at HN
  rw [h0] at HF0
  rw [h1] at HF1
  rw [hn, h0, h1]
  clear hn h0 h1
  go_enter Tryz.func129, Tryz.ntmps129
  cases bn with
  | false =>
    go_wp2_with (go_at_call 108; refine (HN.out _ (by (repeat' (first | (with_reducible exact Below.refl _ _) | (with_reducible refine below_alloc ?_) | (with_reducible refine below_drew ?_) | (with_reducible refine below_drewN ?_) | (with_reducible refine below_set (by simp; omega) ?_) | (with_reducible refine below_call (by with_reducible assumption) ?_))))).mono ?_; rintro e w1 ⟨rfl, hb1⟩; obtain ⟨hc1, hf1⟩ := bcell hb1; have hz1 := hb1.size; (try simp at hz1); (try have hw01 : w.heap.size < w1.heap.size := by omega); (try have hw11 : w.heap.size + 1 < w1.heap.size := by omega); (try have hw21 : w.heap.size + 1 + 1 < w1.heap.size := by omega))
    all_goals go_ret
    all_goals exact ⟨ret_b (by simp), by (repeat' (first | (with_reducible exact Below.refl _ _) | (with_reducible refine below_alloc ?_) | (with_reducible refine below_drew ?_) | (with_reducible refine below_drewN ?_) | (with_reducible refine below_set (by simp; omega) ?_) | (with_reducible refine below_call (by with_reducible assumption) ?_)))⟩
  | true =>
    by_cases hd : dir < 0
    · have hd0 := ne_int' (show ¬ dir = 0 by omega)
      go_wp2_with (go_at_call 108; refine (HN.out _ (by (repeat' (first | (with_reducible exact Below.refl _ _) | (with_reducible refine below_alloc ?_) | (with_reducible refine below_drew ?_) | (with_reducible refine below_drewN ?_) | (with_reducible refine below_set (by simp; omega) ?_) | (with_reducible refine below_call (by with_reducible assumption) ?_))))).mono ?_; rintro e w1 ⟨rfl, hb1⟩; obtain ⟨hc1, hf1⟩ := bcell hb1; have hz1 := hb1.size; (try simp at hz1); (try have hw01 : w.heap.size < w1.heap.size := by omega); (try have hw11 : w.heap.size + 1 < w1.heap.size := by omega); (try have hw21 : w.heap.size + 1 + 1 < w1.heap.size := by omega))
      all_goals go_ret
      all_goals exact ⟨ret_b (by first | rfl | rw [if_pos (by omega)]), by (repeat' (first | (with_reducible exact Below.refl _ _) | (with_reducible refine below_alloc ?_) | (with_reducible refine below_drew ?_) | (with_reducible refine below_drewN ?_) | (with_reducible refine below_set (by simp; omega) ?_) | (with_reducible refine below_call (by with_reducible assumption) ?_)))⟩
    by_cases hd2 : 2 < dir
    · have hd0 := ne_int' (show ¬ dir = 0 by omega)
      go_wp2_with (go_at_call 108; refine (HN.out _ (by (repeat' (first | (with_reducible exact Below.refl _ _) | (with_reducible refine below_alloc ?_) | (with_reducible refine below_drew ?_) | (with_reducible refine below_drewN ?_) | (with_reducible refine below_set (by simp; omega) ?_) | (with_reducible refine below_call (by with_reducible assumption) ?_))))).mono ?_; rintro e w1 ⟨rfl, hb1⟩; obtain ⟨hc1, hf1⟩ := bcell hb1; have hz1 := hb1.size; (try simp at hz1); (try have hw01 : w.heap.size < w1.heap.size := by omega); (try have hw11 : w.heap.size + 1 < w1.heap.size := by omega); (try have hw21 : w.heap.size + 1 + 1 < w1.heap.size := by omega))
      all_goals go_ret
      all_goals exact ⟨ret_b (by first | rfl | rw [if_pos (by omega)]), by (repeat' (first | (with_reducible exact Below.refl _ _) | (with_reducible refine below_alloc ?_) | (with_reducible refine below_drew ?_) | (with_reducible refine below_drewN ?_) | (with_reducible refine below_set (by simp; omega) ?_) | (with_reducible refine below_call (by with_reducible assumption) ?_)))⟩
    have hz0 : ¬ dir < 0 := hd
    have hn1 : ¬ ((true = false) ∨ dir < 0 ∨ 2 < dir) := by rintro (h | h | h) <;> first | cases h | omega
    rw [if_neg hn1]
    clear hn1
    by_cases e0 : dir = 0
    · subst e0
      by_cases e2 : len = 0
      · subst e2
        cases f0 with
        | false =>
          go_wp2_with (first | (go_at_call 108; refine (HN.out _ (by (repeat' (first | (with_reducible exact Below.refl _ _) | (with_reducible refine below_alloc ?_) | (with_reducible refine below_drew ?_) | (with_reducible refine below_drewN ?_) | (with_reducible refine below_set (by simp; omega) ?_) | (with_reducible refine below_call (by with_reducible assumption) ?_))))).mono ?_; rintro e w1 ⟨rfl, hb1⟩; obtain ⟨hc1, hf1⟩ := bcell hb1; have hz1 := hb1.size; (try simp at hz1); (try have hw01 : w.heap.size < w1.heap.size := by omega); (try have hw11 : w.heap.size + 1 < w1.heap.size := by omega); (try have hw21 : w.heap.size + 1 + 1 < w1.heap.size := by omega)) | (go_at_call 19; refine (HF0.out _).mono ?_; rintro e w2 ⟨rfl, rfl⟩))
          all_goals go_ret
          all_goals exact ⟨ret_b (by (repeat' split) <;> (first | rfl | (exfalso; omega) | (rw [Bool.eq_iff_iff]; simp; done) | (rw [Bool.eq_iff_iff]; simp; omega))), by (repeat' (first | (with_reducible exact Below.refl _ _) | (with_reducible refine below_alloc ?_) | (with_reducible refine below_drew ?_) | (with_reducible refine below_drewN ?_) | (with_reducible refine below_set (by simp; omega) ?_) | (with_reducible refine below_call (by with_reducible assumption) ?_)))⟩
        | true =>
          cases f1
          all_goals go_wp2_with (first | (go_at_call 108; refine (HN.out _ (by (repeat' (first | (with_reducible exact Below.refl _ _) | (with_reducible refine below_alloc ?_) | (with_reducible refine below_drew ?_) | (with_reducible refine below_drewN ?_) | (with_reducible refine below_set (by simp; omega) ?_) | (with_reducible refine below_call (by with_reducible assumption) ?_))))).mono ?_; rintro e w1 ⟨rfl, hb1⟩; obtain ⟨hc1, hf1⟩ := bcell hb1; have hz1 := hb1.size; (try simp at hz1); (try have hw01 : w.heap.size < w1.heap.size := by omega); (try have hw11 : w.heap.size + 1 < w1.heap.size := by omega); (try have hw21 : w.heap.size + 1 + 1 < w1.heap.size := by omega)) | (go_at_call 19; first | (refine (HF0.out _).mono ?_; clear HF0; rintro e w2 ⟨rfl, rfl⟩) | (refine (HF1.out _).mono ?_; rintro e w2 ⟨rfl, rfl⟩)))
          all_goals go_ret
          all_goals exact ⟨ret_b (by (repeat' split) <;> (first | rfl | (exfalso; omega) | (rw [Bool.eq_iff_iff]; simp; done) | (rw [Bool.eq_iff_iff]; simp; omega))), by (repeat' (first | (with_reducible exact Below.refl _ _) | (with_reducible refine below_alloc ?_) | (with_reducible refine below_drew ?_) | (with_reducible refine below_drewN ?_) | (with_reducible refine below_set (by simp; omega) ?_) | (with_reducible refine below_call (by with_reducible assumption) ?_)))⟩
      · have hb2 := ne_int' e2
        have hb3 : (len != 0) = true := by simpa using e2
        cases f0 with
        | false =>
          go_wp2_with (first | (go_at_call 108; refine (HN.out _ (by (repeat' (first | (with_reducible exact Below.refl _ _) | (with_reducible refine below_alloc ?_) | (with_reducible refine below_drew ?_) | (with_reducible refine below_drewN ?_) | (with_reducible refine below_set (by simp; omega) ?_) | (with_reducible refine below_call (by with_reducible assumption) ?_))))).mono ?_; rintro e w1 ⟨rfl, hb1⟩; obtain ⟨hc1, hf1⟩ := bcell hb1; have hz1 := hb1.size; (try simp at hz1); (try have hw01 : w.heap.size < w1.heap.size := by omega); (try have hw11 : w.heap.size + 1 < w1.heap.size := by omega); (try have hw21 : w.heap.size + 1 + 1 < w1.heap.size := by omega)) | (go_at_call 19; refine (HF0.out _).mono ?_; rintro e w2 ⟨rfl, rfl⟩))
          all_goals go_ret
          all_goals exact ⟨ret_b (by (repeat' split) <;> (first | rfl | (exfalso; omega) | (rw [Bool.eq_iff_iff]; simp; done) | (rw [Bool.eq_iff_iff]; simp; omega))), by (repeat' (first | (with_reducible exact Below.refl _ _) | (with_reducible refine below_alloc ?_) | (with_reducible refine below_drew ?_) | (with_reducible refine below_drewN ?_) | (with_reducible refine below_set (by simp; omega) ?_) | (with_reducible refine below_call (by with_reducible assumption) ?_)))⟩
        | true =>
          cases f1
          all_goals go_wp2_with (first | (go_at_call 108; refine (HN.out _ (by (repeat' (first | (with_reducible exact Below.refl _ _) | (with_reducible refine below_alloc ?_) | (with_reducible refine below_drew ?_) | (with_reducible refine below_drewN ?_) | (with_reducible refine below_set (by simp; omega) ?_) | (with_reducible refine below_call (by with_reducible assumption) ?_))))).mono ?_; rintro e w1 ⟨rfl, hb1⟩; obtain ⟨hc1, hf1⟩ := bcell hb1; have hz1 := hb1.size; (try simp at hz1); (try have hw01 : w.heap.size < w1.heap.size := by omega); (try have hw11 : w.heap.size + 1 < w1.heap.size := by omega); (try have hw21 : w.heap.size + 1 + 1 < w1.heap.size := by omega)) | (go_at_call 19; first | (refine (HF0.out _).mono ?_; clear HF0; rintro e w2 ⟨rfl, rfl⟩) | (refine (HF1.out _).mono ?_; rintro e w2 ⟨rfl, rfl⟩)))
          all_goals go_ret
          all_goals exact ⟨ret_b (by (repeat' split) <;> (first | rfl | (exfalso; omega) | (rw [Bool.eq_iff_iff]; simp; done) | (rw [Bool.eq_iff_iff]; simp; omega))), by (repeat' (first | (with_reducible exact Below.refl _ _) | (with_reducible refine below_alloc ?_) | (with_reducible refine below_drew ?_) | (with_reducible refine below_drewN ?_) | (with_reducible refine below_set (by simp; omega) ?_) | (with_reducible refine below_call (by with_reducible assumption) ?_)))⟩
    · have hb0 := ne_int' e0
      by_cases e2 : len = 0
      · subst e2
        cases f0 with
        | false =>
          go_wp2_with (first | (go_at_call 108; refine (HN.out _ (by (repeat' (first | (with_reducible exact Below.refl _ _) | (with_reducible refine below_alloc ?_) | (with_reducible refine below_drew ?_) | (with_reducible refine below_drewN ?_) | (with_reducible refine below_set (by simp; omega) ?_) | (with_reducible refine below_call (by with_reducible assumption) ?_))))).mono ?_; rintro e w1 ⟨rfl, hb1⟩; obtain ⟨hc1, hf1⟩ := bcell hb1; have hz1 := hb1.size; (try simp at hz1); (try have hw01 : w.heap.size < w1.heap.size := by omega); (try have hw11 : w.heap.size + 1 < w1.heap.size := by omega); (try have hw21 : w.heap.size + 1 + 1 < w1.heap.size := by omega)) | (go_at_call 19; refine (HF0.out _).mono ?_; rintro e w2 ⟨rfl, rfl⟩))
          all_goals go_ret
          all_goals exact ⟨ret_b (by (repeat' split) <;> (first | rfl | (exfalso; omega) | (rw [Bool.eq_iff_iff]; simp; done) | (rw [Bool.eq_iff_iff]; simp; omega))), by (repeat' (first | (with_reducible exact Below.refl _ _) | (with_reducible refine below_alloc ?_) | (with_reducible refine below_drew ?_) | (with_reducible refine below_drewN ?_) | (with_reducible refine below_set (by simp; omega) ?_) | (with_reducible refine below_call (by with_reducible assumption) ?_)))⟩
        | true =>
          cases f1
          all_goals go_wp2_with (first | (go_at_call 108; refine (HN.out _ (by (repeat' (first | (with_reducible exact Below.refl _ _) | (with_reducible refine below_alloc ?_) | (with_reducible refine below_drew ?_) | (with_reducible refine below_drewN ?_) | (with_reducible refine below_set (by simp; omega) ?_) | (with_reducible refine below_call (by with_reducible assumption) ?_))))).mono ?_; rintro e w1 ⟨rfl, hb1⟩; obtain ⟨hc1, hf1⟩ := bcell hb1; have hz1 := hb1.size; (try simp at hz1); (try have hw01 : w.heap.size < w1.heap.size := by omega); (try have hw11 : w.heap.size + 1 < w1.heap.size := by omega); (try have hw21 : w.heap.size + 1 + 1 < w1.heap.size := by omega)) | (go_at_call 19; first | (refine (HF0.out _).mono ?_; clear HF0; rintro e w2 ⟨rfl, rfl⟩) | (refine (HF1.out _).mono ?_; rintro e w2 ⟨rfl, rfl⟩)))
          all_goals go_ret
          all_goals exact ⟨ret_b (by (repeat' split) <;> (first | rfl | (exfalso; omega) | (rw [Bool.eq_iff_iff]; simp; done) | (rw [Bool.eq_iff_iff]; simp; omega))), by (repeat' (first | (with_reducible exact Below.refl _ _) | (with_reducible refine below_alloc ?_) | (with_reducible refine below_drew ?_) | (with_reducible refine below_drewN ?_) | (with_reducible refine below_set (by simp; omega) ?_) | (with_reducible refine below_call (by with_reducible assumption) ?_)))⟩
      · have hb2 := ne_int' e2
        have hb3 : (len != 0) = true := by simpa using e2
        cases f0 with
        | false =>
          go_wp2_with (first | (go_at_call 108; refine (HN.out _ (by (repeat' (first | (with_reducible exact Below.refl _ _) | (with_reducible refine below_alloc ?_) | (with_reducible refine below_drew ?_) | (with_reducible refine below_drewN ?_) | (with_reducible refine below_set (by simp; omega) ?_) | (with_reducible refine below_call (by with_reducible assumption) ?_))))).mono ?_; rintro e w1 ⟨rfl, hb1⟩; obtain ⟨hc1, hf1⟩ := bcell hb1; have hz1 := hb1.size; (try simp at hz1); (try have hw01 : w.heap.size < w1.heap.size := by omega); (try have hw11 : w.heap.size + 1 < w1.heap.size := by omega); (try have hw21 : w.heap.size + 1 + 1 < w1.heap.size := by omega)) | (go_at_call 19; refine (HF0.out _).mono ?_; rintro e w2 ⟨rfl, rfl⟩))
          all_goals go_ret
          all_goals exact ⟨ret_b (by (repeat' split) <;> (first | rfl | (exfalso; omega) | (rw [Bool.eq_iff_iff]; simp; done) | (rw [Bool.eq_iff_iff]; simp; omega))), by (repeat' (first | (with_reducible exact Below.refl _ _) | (with_reducible refine below_alloc ?_) | (with_reducible refine below_drew ?_) | (with_reducible refine below_drewN ?_) | (with_reducible refine below_set (by simp; omega) ?_) | (with_reducible refine below_call (by with_reducible assumption) ?_)))⟩
        | true =>
          cases f1
          all_goals go_wp2_with (first | (go_at_call 108; refine (HN.out _ (by (repeat' (first | (with_reducible exact Below.refl _ _) | (with_reducible refine below_alloc ?_) | (with_reducible refine below_drew ?_) | (with_reducible refine below_drewN ?_) | (with_reducible refine below_set (by simp; omega) ?_) | (with_reducible refine below_call (by with_reducible assumption) ?_))))).mono ?_; rintro e w1 ⟨rfl, hb1⟩; obtain ⟨hc1, hf1⟩ := bcell hb1; have hz1 := hb1.size; (try simp at hz1); (try have hw01 : w.heap.size < w1.heap.size := by omega); (try have hw11 : w.heap.size + 1 < w1.heap.size := by omega); (try have hw21 : w.heap.size + 1 + 1 < w1.heap.size := by omega)) | (go_at_call 19; first | (refine (HF0.out _).mono ?_; clear HF0; rintro e w2 ⟨rfl, rfl⟩) | (refine (HF1.out _).mono ?_; rintro e w2 ⟨rfl, rfl⟩)))
          all_goals go_ret
          all_goals exact ⟨ret_b (by (repeat' split) <;> (first | rfl | (exfalso; omega) | (rw [Bool.eq_iff_iff]; simp; done) | (rw [Bool.eq_iff_iff]; simp; omega))), by (repeat' (first | (with_reducible exact Below.refl _ _) | (with_reducible refine below_alloc ?_) | (with_reducible refine below_drew ?_) | (with_reducible refine below_drewN ?_) | (with_reducible refine below_set (by simp; omega) ?_) | (with_reducible refine below_call (by with_reducible assumption) ?_)))⟩
end Go.Proofs.YtenjkplijblcoaaGreatDoor
