/- capstanlaw15.of and capstanlaw15.works. -/
import Derived.Test.YtefpgjocfgeenaaGreatDoorVerify
import Derived.Test.YtefpgjocfgeenaaGreatDoorLine
namespace Go.Proofs.YtefpgjocfgeenaaGreatDoor
open Go.RowKit Cap
set_option maxRecDepth 100000

theorem of_c (l : List Ins) (vl : Value) (w : World) (h : Sl encIns 4 w vl l) :
    Calls Tryz.prog 39 #[vl] w fun e w' => ∃ v, e = .returned v ∧ ImgV w' v (ofI l) ∧ Below w.heap.size w w' := by
  have H := Lib.hid h
  obtain ⟨A, c, rfl, -, -, -⟩ := h
  go_enter Tryz.func39, Tryz.ntmps39
  go_wp2
  have hg : (((w.alloc (.cells #[.string ⟨#[80]⟩, .slice (some ⟨w.heap.size + 1, 0, none⟩) 2 2, .slice (some ⟨w.heap.size + 1 + 1, 0, none⟩) 2 2, .slice none 0 0, .slice none 0 0, .slice A l.length c] 26)).alloc
      (.cells #[.int .i64 1, .int .i64 2] 3)).alloc (.cells #[.int .i64 0, .int .i64 0] 2)).heap[w.heap.size]? = some (.cells #[.string ⟨#[80]⟩, .slice (some ⟨w.heap.size + 1, 0, none⟩) 2 2, .slice (some ⟨w.heap.size + 1 + 1, 0, none⟩) 2 2, .slice none 0 0, .slice none 0 0, .slice A l.length c] 26 (0, 0)) := by
    rw [heap_alloc_old _ _ (by simp; omega), heap_alloc_old _ _ (by simp)]
    exact heap_alloc_new w _
  refine bodyPost_ret (results_cell_row rfl _ _ w.heap.size 26 _ (0, 0) _ rfl hg Tryz.underlying26 rfl (by kernel_rfl)) rfl ?_
  refine ⟨_, rfl, ⟨_, _, _, _, _, rfl, ?_, ?_, Sl.nil _ _ _, Sl.nil _ _ _, H.out.below (by (repeat' (first | (with_reducible exact Below.refl _ _) | (with_reducible refine below_alloc ?_) | (with_reducible refine below_drew ?_) | (with_reducible refine below_drewN ?_) | (with_reducible refine below_set (by simp; omega) ?_) | (with_reducible refine below_call (by with_reducible assumption) ?_))))⟩, by (repeat' (first | (with_reducible exact Below.refl _ _) | (with_reducible refine below_alloc ?_) | (with_reducible refine below_drew ?_) | (with_reducible refine below_drewN ?_) | (with_reducible refine below_set (by simp; omega) ?_) | (with_reducible refine below_call (by with_reducible assumption) ?_)))⟩
  · refine Sl.below (Sl.lit' encI_len _ _ _ 3 _ [1, 2] (by simp) (by rfl) (by rfl) (by simp)) (below_alloc (Below.refl _ _))
  · exact Sl.lit' encI_len _ _ _ 2 _ [0, 0] (by simp) (by rfl) (by rfl) (by simp)
theorem ask_of (l : List Ins) (v : Value) (w : World) (h : ImgV w v (ofI l)) (hi : ImgOk (ofI l)) : ImgAsk w v (ofI l) :=
  ⟨h, (show (1 : Nat) ≤ 140737488351232 by decide), by simp [ofI], hi⟩
def iPush : Ins := ⟨1, 2, 0, 0⟩
def iEnd : Ins := ⟨12, 0, 0, 0⟩
theorem f1 : verifyNE (ofI [iPush, iEnd]) = (0, 0) := by kernel_rfl
theorem f2 : deepNE (ofI [iPush, iEnd]) = (1, 0) := by kernel_rfl
theorem f3 : verifyNE (ofI [⟨6, 1, 2, 0⟩, iEnd]) = (0, 151) := by kernel_rfl
theorem f4 : verifyNE (ofI [iPush]) = (0, 150) := by kernel_rfl
theorem f5 : verifyNE (ofI [⟨2, 0, 0, 0⟩, ⟨10, 0, 0, 0⟩, iEnd]) = (0, 0) := by kernel_rfl
theorem ok_of (l : List Ins) (h : ∀ i ∈ l, i.a < 100 ∧ i.b < 100) : ImgOk (ofI l) := fun i hi => by
  have := h i hi
  exact ⟨by omega, by omega⟩
theorem check_eq (x : Img) (vx : Value) (w : World) (a b : Int) (hv : verifyNE x = (a, b)) (h : ImgAsk w vx x) (hG : G w) :
    Calls Tryz.prog 11 #[vx] w fun e w' => e = .returned (.tuple #[.int .i64 a, .int .i64 b]) ∧ Below w.heap.size w w' := by
  have := check_c x vx w h hG
  rw [hv] at this
  exact this
theorem deep_eq (x : Img) (vx : Value) (w : World) (a b : Int) (hv : deepNE x = (a, b)) (h : ImgAsk w vx x) (hG : G w) :
    Calls Tryz.prog 13 #[vx] w fun e w' => e = .returned (.tuple #[.int .i64 a, .int .i64 b]) ∧ Below w.heap.size w w' := by
  have := deep_c x vx w h hG
  rw [hv] at this
  exact this
set_option maxHeartbeats 4000000 in
theorem works_c (w : World) (hG : G w) : Calls Tryz.prog 18 #[] w fun e w' => e = .returned (.bool true) ∧ Below w.heap.size w w' := by
  have HG := Lib.hid hG
  clear hG
  go_enter Tryz.func18, Tryz.ntmps18
  go_wp2_with fail; refine (of_c [⟨1, 2, 0, 0⟩, ⟨12, 0, 0, 0⟩] _ _ (by refine Sl.lit' ?_ _ _ _ _ _ _ ?_ ?_ ?_ ?_ <;> first | (intro _; rfl) | rfl | decide | (simp; done))).mono ?_; rintro e w1 ⟨vA, rfl, hIA, hbA⟩; obtain ⟨hcA, hfA⟩ := bcell hbA; have hzA := hbA.size; (try simp at hzA); (try have hw0A : w.heap.size < w1.heap.size := by omega); (try have hw1A : w.heap.size + 1 < w1.heap.size := by omega); (try have hw2A : w.heap.size + 1 + 1 < w1.heap.size := by omega)
  go_wp2_with fail; refine (check_eq (ofI [⟨1, 2, 0, 0⟩, ⟨12, 0, 0, 0⟩]) vA _ _ _ f1 (ask_of [⟨1, 2, 0, 0⟩, ⟨12, 0, 0, 0⟩] _ _ hIA (ok_of _ (by decide))) (HG.out.below (by (repeat' (first | (with_reducible exact Below.refl _ _) | (with_reducible refine below_alloc ?_) | (with_reducible refine below_drew ?_) | (with_reducible refine below_drewN ?_) | (with_reducible refine below_set (by simp; omega) ?_) | (with_reducible refine below_call (by with_reducible assumption) ?_)))))).mono ?_; rintro e w2 ⟨rfl, hbB⟩; obtain ⟨hcB, hfB⟩ := bcell hbB; have hzB := hbB.size; (try simp at hzB); (try have hw0B : w.heap.size < w2.heap.size := by omega); (try have hw1B : w.heap.size + 1 < w2.heap.size := by omega); (try have hw2B : w.heap.size + 1 + 1 < w2.heap.size := by omega)
  go_wp2_with fail; refine (of_c [⟨1, 2, 0, 0⟩, ⟨12, 0, 0, 0⟩] _ _ (by refine Sl.lit' ?_ _ _ _ _ _ _ ?_ ?_ ?_ ?_ <;> first | (intro _; rfl) | rfl | decide | (simp; done))).mono ?_; rintro e w3 ⟨vC, rfl, hIC, hbC⟩; obtain ⟨hcC, hfC⟩ := bcell hbC; have hzC := hbC.size; (try simp at hzC); (try have hw0C : w.heap.size < w3.heap.size := by omega); (try have hw1C : w.heap.size + 1 < w3.heap.size := by omega); (try have hw2C : w.heap.size + 1 + 1 < w3.heap.size := by omega)
  go_wp2_with fail; refine (deep_eq (ofI [⟨1, 2, 0, 0⟩, ⟨12, 0, 0, 0⟩]) vC _ _ _ f2 (ask_of [⟨1, 2, 0, 0⟩, ⟨12, 0, 0, 0⟩] _ _ hIC (ok_of _ (by decide))) (HG.out.below (by (repeat' (first | (with_reducible exact Below.refl _ _) | (with_reducible refine below_alloc ?_) | (with_reducible refine below_drew ?_) | (with_reducible refine below_drewN ?_) | (with_reducible refine below_set (by simp; omega) ?_) | (with_reducible refine below_call (by with_reducible assumption) ?_)))))).mono ?_; rintro e w4 ⟨rfl, hbD⟩; obtain ⟨hcD, hfD⟩ := bcell hbD; have hzD := hbD.size; (try simp at hzD); (try have hw0D : w.heap.size < w4.heap.size := by omega); (try have hw1D : w.heap.size + 1 < w4.heap.size := by omega); (try have hw2D : w.heap.size + 1 + 1 < w4.heap.size := by omega)
  go_wp2_with fail; refine (of_c [⟨6, 1, 2, 0⟩, ⟨12, 0, 0, 0⟩] _ _ (by refine Sl.lit' ?_ _ _ _ _ _ _ ?_ ?_ ?_ ?_ <;> first | (intro _; rfl) | rfl | decide | (simp; done))).mono ?_; rintro e w5 ⟨vE, rfl, hIE, hbE⟩; obtain ⟨hcE, hfE⟩ := bcell hbE; have hzE := hbE.size; (try simp at hzE); (try have hw0E : w.heap.size < w5.heap.size := by omega); (try have hw1E : w.heap.size + 1 < w5.heap.size := by omega); (try have hw2E : w.heap.size + 1 + 1 < w5.heap.size := by omega)
  go_wp2_with fail; refine (check_eq (ofI [⟨6, 1, 2, 0⟩, ⟨12, 0, 0, 0⟩]) vE _ _ _ f3 (ask_of [⟨6, 1, 2, 0⟩, ⟨12, 0, 0, 0⟩] _ _ hIE (ok_of _ (by decide))) (HG.out.below (by (repeat' (first | (with_reducible exact Below.refl _ _) | (with_reducible refine below_alloc ?_) | (with_reducible refine below_drew ?_) | (with_reducible refine below_drewN ?_) | (with_reducible refine below_set (by simp; omega) ?_) | (with_reducible refine below_call (by with_reducible assumption) ?_)))))).mono ?_; rintro e w6 ⟨rfl, hbF⟩; obtain ⟨hcF, hfF⟩ := bcell hbF; have hzF := hbF.size; (try simp at hzF); (try have hw0F : w.heap.size < w6.heap.size := by omega); (try have hw1F : w.heap.size + 1 < w6.heap.size := by omega); (try have hw2F : w.heap.size + 1 + 1 < w6.heap.size := by omega)
  go_wp2_with fail; refine (of_c [⟨1, 2, 0, 0⟩] _ _ (by refine Sl.lit' ?_ _ _ _ _ _ _ ?_ ?_ ?_ ?_ <;> first | (intro _; rfl) | rfl | decide | (simp; done))).mono ?_; rintro e w7 ⟨vH, rfl, hIH, hbH⟩; obtain ⟨hcH, hfH⟩ := bcell hbH; have hzH := hbH.size; (try simp at hzH); (try have hw0H : w.heap.size < w7.heap.size := by omega); (try have hw1H : w.heap.size + 1 < w7.heap.size := by omega); (try have hw2H : w.heap.size + 1 + 1 < w7.heap.size := by omega)
  go_wp2_with fail; refine (check_eq (ofI [⟨1, 2, 0, 0⟩]) vH _ _ _ f4 (ask_of [⟨1, 2, 0, 0⟩] _ _ hIH (ok_of _ (by decide))) (HG.out.below (by (repeat' (first | (with_reducible exact Below.refl _ _) | (with_reducible refine below_alloc ?_) | (with_reducible refine below_drew ?_) | (with_reducible refine below_drewN ?_) | (with_reducible refine below_set (by simp; omega) ?_) | (with_reducible refine below_call (by with_reducible assumption) ?_)))))).mono ?_; rintro e w8 ⟨rfl, hbI⟩; obtain ⟨hcI, hfI⟩ := bcell hbI; have hzI := hbI.size; (try simp at hzI); (try have hw0I : w.heap.size < w8.heap.size := by omega); (try have hw1I : w.heap.size + 1 < w8.heap.size := by omega); (try have hw2I : w.heap.size + 1 + 1 < w8.heap.size := by omega)
  go_wp2_with fail; refine (of_c [⟨2, 0, 0, 0⟩, ⟨10, 0, 0, 0⟩, ⟨12, 0, 0, 0⟩] _ _ (by refine Sl.lit' ?_ _ _ _ _ _ _ ?_ ?_ ?_ ?_ <;> first | (intro _; rfl) | rfl | decide | (simp; done))).mono ?_; rintro e w9 ⟨vJ, rfl, hIJ, hbJ⟩; obtain ⟨hcJ, hfJ⟩ := bcell hbJ; have hzJ := hbJ.size; (try simp at hzJ); (try have hw0J : w.heap.size < w9.heap.size := by omega); (try have hw1J : w.heap.size + 1 < w9.heap.size := by omega); (try have hw2J : w.heap.size + 1 + 1 < w9.heap.size := by omega)
  go_wp2_with fail; refine (check_eq (ofI [⟨2, 0, 0, 0⟩, ⟨10, 0, 0, 0⟩, ⟨12, 0, 0, 0⟩]) vJ _ _ _ f5 (ask_of [⟨2, 0, 0, 0⟩, ⟨10, 0, 0, 0⟩, ⟨12, 0, 0, 0⟩] _ _ hIJ (ok_of _ (by decide))) (HG.out.below (by (repeat' (first | (with_reducible exact Below.refl _ _) | (with_reducible refine below_alloc ?_) | (with_reducible refine below_drew ?_) | (with_reducible refine below_drewN ?_) | (with_reducible refine below_set (by simp; omega) ?_) | (with_reducible refine below_call (by with_reducible assumption) ?_)))))).mono ?_; rintro e w10 ⟨rfl, hbK⟩; obtain ⟨hcK, hfK⟩ := bcell hbK; have hzK := hbK.size; (try simp at hzK); (try have hw0K : w.heap.size < w10.heap.size := by omega); (try have hw1K : w.heap.size + 1 < w10.heap.size := by omega); (try have hw2K : w.heap.size + 1 + 1 < w10.heap.size := by omega)
  go_wp2_with fail
  go_ret
  exact ⟨rfl, by (repeat' (first | (with_reducible exact Below.refl _ _) | (with_reducible refine below_alloc ?_) | (with_reducible refine below_drew ?_) | (with_reducible refine below_drewN ?_) | (with_reducible refine below_set (by simp; omega) ?_) | (with_reducible refine below_call (by with_reducible assumption) ?_)))⟩
end Go.Proofs.YtefpgjocfgeenaaGreatDoor
