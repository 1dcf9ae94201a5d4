/- typed.named, of variables that hold one number each. -/
import Derived.Test.YtenjkplijblcoaaGreatDoorCFFind
import Derived.Test.YtenjkplijblcoaaGreatDoorCFTwo
namespace Go.Proofs.YtenjkplijblcoaaGreatDoor
open Go.RowKit Cap
set_option maxRecDepth 100000

theorem findV_mem {vars : List Vr} {s : ByteArray} {x : Vr} (h : findV vars s = some x) : x ∈ vars := by
  induction vars with
  | nil => cases h
  | cons v r ih =>
    rw [findV] at h
    split at h
    · injection h with h
      subst h
      exact List.mem_cons_self
    · exact List.mem_cons_of_mem _ (ih h)
set_option maxHeartbeats 4000000 in
theorem named_c (vars : List Vr) (p : Prt) (top : Va) (vv vt : Value) (w : World) (hs : Sl encVr 5 w vv vars) (hp : ∀ x ∈ vars, OneV x) (h64 : vars.length ≤ 64) :
    Calls Tryz.prog 88 #[vv, prtV p, vt] w fun e w' => e = .returned (.tuple #[vaV (namedV vars p top).1, .int .i64 (namedV vars p top).2]) ∧ Below w.heap.size w w' := by
  have HF := Lib.hid (fun W (hW : Below w.heap.size w W) => find_c vars vv p.s W (hs.below hW) hp h64)
  have hone : ∀ x, findV vars p.s = some x → OneV x := fun x hx => hp x (findV_mem hx)
  have HN := Lib.hid (show namedV vars p top = namedV vars p top from rfl)
  clear hs hp
  obtain ⟨k, n, t, s, f⟩ := p
  unfold prtV
  simp only at HF hone ⊢
  cases hq : findV vars s with
  | none =>
    have HR := Lib.hid (show namedV vars ⟨k, n, t, s, f⟩ top = (plainV 0, 90) by unfold namedV; simp only [hq])
    rw [hq] at HF
    clear hone hq HN
    go_enter Tryz.func88, Tryz.ntmps88
    go_wp2_with (go_at_call 130; refine (HF.out _ (by (repeat' (first | (with_reducible exact Below.refl _ _) | (with_reducible refine below_alloc ?_) | (with_reducible refine below_drew ?_) | (with_reducible refine below_drewN ?_) | (with_reducible refine below_set (by simp; omega) ?_) | (with_reducible refine below_call (by with_reducible assumption) ?_))))).mono ?_; rintro e w1 (_ | ⟨hb1⟩); obtain ⟨hc1, hf1⟩ := bcell hb1; have hz1 := hb1.size; (try simp at hz1); (try have hw01 : w.heap.size < w1.heap.size := by omega); (try have hw11 : w.heap.size + 1 < w1.heap.size := by omega); (try have hw21 : w.heap.size + 1 + 1 < w1.heap.size := by omega))
    ((try simp only [Exit.inBlock, Exit.then]); refine bodyPost_ret (v := ?_) ?_ rfl ?_; rotate_left; (focus (rw [results_cell_tmp rfl]; go_simp; (first | rfl | exact ⟨rfl, rfl⟩))))
    exact ⟨by rw [HR.out]; rfl, by (repeat' (first | (with_reducible exact Below.refl _ _) | (with_reducible refine below_alloc ?_) | (with_reducible refine below_drew ?_) | (with_reducible refine below_drewN ?_) | (with_reducible refine below_set (by first | (simp; done) | (simp; omega)) ?_) | (with_reducible refine below_call (by with_reducible assumption) ?_)))⟩
  | some x =>
    obtain ⟨ho1, ho2⟩ := hone x hq
    obtain ⟨nm, ty, len, init, dir⟩ := x
    simp only at ho1 ho2
    subst ho2
    have HR := Lib.hid (show namedV vars ⟨k, n, t, s, f⟩ top = if k = 2 ∧ ty < 100 then (plainV ty, 0) else (plainV 0, 91) by
      unfold namedV
      simp only [hq]
      by_cases h : k = 2 ∧ ty < 100
      · rw [if_pos ⟨h.1, by first | rfl | trivial, h.2⟩, if_pos h]
      · rw [if_neg (fun h' => h ⟨h'.1, h'.2.2⟩), if_neg (fun h' => absurd h'.2 (by omega)), if_neg (fun h' => absurd h'.2 (by omega)), if_neg h])
    rw [hq] at HF
    clear hone hq HN
    have hz : ¬ 100 < ty := by omega
    go_enter Tryz.func88, Tryz.ntmps88
    by_cases h2 : k = 2
    · subst h2
      by_cases hty : ty < 100
      · go_wp2_with (first
          | (go_at_call 130; refine (HF.out _ (by (repeat' (first | (with_reducible exact Below.refl _ _) | (with_reducible refine below_alloc ?_) | (with_reducible refine below_drew ?_) | (with_reducible refine below_drewN ?_) | (with_reducible refine below_set (by simp; omega) ?_) | (with_reducible refine below_call (by with_reducible assumption) ?_))))).mono ?_; rintro e w1 (⟨hb1⟩ | _); obtain ⟨hc1, hf1⟩ := bcell hb1; have hz1 := hb1.size; (try simp at hz1); (try have hw01 : w.heap.size < w1.heap.size := by omega); (try have hw11 : w.heap.size + 1 < w1.heap.size := by omega); (try have hw21 : w.heap.size + 1 + 1 < w1.heap.size := by omega))
          | (go_at_call 40; refine (plain_c _ _).mono ?_; rintro e w2 ⟨rfl, hb2⟩; obtain ⟨hc2, hf2⟩ := bcell hb2; have hz2 := hb2.size; (try simp at hz2); (try have hw02 : w.heap.size < w2.heap.size := by omega); (try have hw12 : w.heap.size + 1 < w2.heap.size := by omega); (try have hw22 : w.heap.size + 1 + 1 < w2.heap.size := by omega)))
        ((try simp only [Exit.inBlock, Exit.then]); refine bodyPost_ret (v := ?_) ?_ rfl ?_; rotate_left; (focus (rw [results_cell_tmp rfl]; go_simp; (first | rfl | exact ⟨rfl, rfl⟩))))
        exact ⟨by rw [HR.out, if_pos (by exact ⟨by first | rfl | trivial, hty⟩)]; rfl, by (repeat' (first | (with_reducible exact Below.refl _ _) | (with_reducible refine below_alloc ?_) | (with_reducible refine below_drew ?_) | (with_reducible refine below_drewN ?_) | (with_reducible refine below_set (by first | (simp; done) | (simp; omega)) ?_) | (with_reducible refine below_call (by with_reducible assumption) ?_)))⟩
      · go_wp2_with (first
          | (go_at_call 130; refine (HF.out _ (by (repeat' (first | (with_reducible exact Below.refl _ _) | (with_reducible refine below_alloc ?_) | (with_reducible refine below_drew ?_) | (with_reducible refine below_drewN ?_) | (with_reducible refine below_set (by simp; omega) ?_) | (with_reducible refine below_call (by with_reducible assumption) ?_))))).mono ?_; rintro e w1 (⟨hb1⟩ | _); obtain ⟨hc1, hf1⟩ := bcell hb1; have hz1 := hb1.size; (try simp at hz1); (try have hw01 : w.heap.size < w1.heap.size := by omega); (try have hw11 : w.heap.size + 1 < w1.heap.size := by omega); (try have hw21 : w.heap.size + 1 + 1 < w1.heap.size := by omega))
          | (go_at_call 40; refine (plain_c _ _).mono ?_; rintro e w2 ⟨rfl, hb2⟩; obtain ⟨hc2, hf2⟩ := bcell hb2; have hz2 := hb2.size; (try simp at hz2); (try have hw02 : w.heap.size < w2.heap.size := by omega); (try have hw12 : w.heap.size + 1 < w2.heap.size := by omega); (try have hw22 : w.heap.size + 1 + 1 < w2.heap.size := by omega)))
        ((try simp only [Exit.inBlock, Exit.then]); refine bodyPost_ret (v := ?_) ?_ rfl ?_; rotate_left; (focus (rw [results_cell_tmp rfl]; go_simp; (first | rfl | exact ⟨rfl, rfl⟩))))
        exact ⟨by rw [HR.out, if_neg (by omega)]; rfl, by (repeat' (first | (with_reducible exact Below.refl _ _) | (with_reducible refine below_alloc ?_) | (with_reducible refine below_drew ?_) | (with_reducible refine below_drewN ?_) | (with_reducible refine below_set (by first | (simp; done) | (simp; omega)) ?_) | (with_reducible refine below_call (by with_reducible assumption) ?_)))⟩
    · have hb2 := ne_i h2
      by_cases h3 : k = 3 <;> by_cases h4 : k = 4
      · omega
      · subst h3
        go_wp2_with (go_at_call 130; refine (HF.out _ (by (repeat' (first | (with_reducible exact Below.refl _ _) | (with_reducible refine below_alloc ?_) | (with_reducible refine below_drew ?_) | (with_reducible refine below_drewN ?_) | (with_reducible refine below_set (by simp; omega) ?_) | (with_reducible refine below_call (by with_reducible assumption) ?_))))).mono ?_; rintro e w1 (⟨hb1⟩ | _); obtain ⟨hc1, hf1⟩ := bcell hb1; have hz1 := hb1.size; (try simp at hz1); (try have hw01 : w.heap.size < w1.heap.size := by omega); (try have hw11 : w.heap.size + 1 < w1.heap.size := by omega); (try have hw21 : w.heap.size + 1 + 1 < w1.heap.size := by omega))
        ((try simp only [Exit.inBlock, Exit.then]); refine bodyPost_ret (v := ?_) ?_ rfl ?_; rotate_left; (focus (rw [results_cell_tmp rfl]; go_simp; (first | rfl | exact ⟨rfl, rfl⟩))))
        exact ⟨by rw [HR.out, if_neg (by omega)]; rfl, by (repeat' (first | (with_reducible exact Below.refl _ _) | (with_reducible refine below_alloc ?_) | (with_reducible refine below_drew ?_) | (with_reducible refine below_drewN ?_) | (with_reducible refine below_set (by first | (simp; done) | (simp; omega)) ?_) | (with_reducible refine below_call (by with_reducible assumption) ?_)))⟩
      · subst h4
        go_wp2_with (go_at_call 130; refine (HF.out _ (by (repeat' (first | (with_reducible exact Below.refl _ _) | (with_reducible refine below_alloc ?_) | (with_reducible refine below_drew ?_) | (with_reducible refine below_drewN ?_) | (with_reducible refine below_set (by simp; omega) ?_) | (with_reducible refine below_call (by with_reducible assumption) ?_))))).mono ?_; rintro e w1 (⟨hb1⟩ | _); obtain ⟨hc1, hf1⟩ := bcell hb1; have hz1 := hb1.size; (try simp at hz1); (try have hw01 : w.heap.size < w1.heap.size := by omega); (try have hw11 : w.heap.size + 1 < w1.heap.size := by omega); (try have hw21 : w.heap.size + 1 + 1 < w1.heap.size := by omega))
        ((try simp only [Exit.inBlock, Exit.then]); refine bodyPost_ret (v := ?_) ?_ rfl ?_; rotate_left; (focus (rw [results_cell_tmp rfl]; go_simp; (first | rfl | exact ⟨rfl, rfl⟩))))
        exact ⟨by rw [HR.out, if_neg (by omega)]; rfl, by (repeat' (first | (with_reducible exact Below.refl _ _) | (with_reducible refine below_alloc ?_) | (with_reducible refine below_drew ?_) | (with_reducible refine below_drewN ?_) | (with_reducible refine below_set (by first | (simp; done) | (simp; omega)) ?_) | (with_reducible refine below_call (by with_reducible assumption) ?_)))⟩
      · have hb3 := ne_i h3
        have hb4 := ne_i h4
        go_wp2_with (go_at_call 130; refine (HF.out _ (by (repeat' (first | (with_reducible exact Below.refl _ _) | (with_reducible refine below_alloc ?_) | (with_reducible refine below_drew ?_) | (with_reducible refine below_drewN ?_) | (with_reducible refine below_set (by simp; omega) ?_) | (with_reducible refine below_call (by with_reducible assumption) ?_))))).mono ?_; rintro e w1 (⟨hb1⟩ | _); obtain ⟨hc1, hf1⟩ := bcell hb1; have hz1 := hb1.size; (try simp at hz1); (try have hw01 : w.heap.size < w1.heap.size := by omega); (try have hw11 : w.heap.size + 1 < w1.heap.size := by omega); (try have hw21 : w.heap.size + 1 + 1 < w1.heap.size := by omega))
        ((try simp only [Exit.inBlock, Exit.then]); refine bodyPost_ret (v := ?_) ?_ rfl ?_; rotate_left; (focus (rw [results_cell_tmp rfl]; go_simp; (first | rfl | exact ⟨rfl, rfl⟩))))
        exact ⟨by rw [HR.out, if_neg (by omega)]; rfl, by (repeat' (first | (with_reducible exact Below.refl _ _) | (with_reducible refine below_alloc ?_) | (with_reducible refine below_drew ?_) | (with_reducible refine below_drewN ?_) | (with_reducible refine below_set (by first | (simp; done) | (simp; omega)) ?_) | (with_reducible refine below_call (by with_reducible assumption) ?_)))⟩
end Go.Proofs.YtenjkplijblcoaaGreatDoor
