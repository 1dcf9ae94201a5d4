/- The small functions of package capstanref15: what each call answers. -/
import Derived.Test.YtefpgjocfgeenaaGreatDoorRef4
import Derived.Test.YtefpgjocfgeenaaGreatDoorCopy
import Derived.BigRegion
import Derived.Deep.RegionWith
namespace Go.Proofs.YtefpgjocfgeenaaGreatDoor
open Go.RowKit Cap
set_option maxRecDepth 100000

theorem rwhole_c (t : Int) (w : World) :
    Calls Tryz.prog 118 #[.int .i64 t] w fun e w' => e = .returned (.bool (wholeR t)) ∧ w = w' := by
  by_cases h : t = 2
  · subst h
    go_enter Tryz.func118, Tryz.ntmps118
    go_wp2
    go_ret
    exact ⟨rfl, rfl⟩
  · have h' : (t == 2) = false := beq_eq_false_iff_ne.2 h
    go_enter Tryz.func118, Tryz.ntmps118
    go_wp2
    go_ret
    exact ⟨by unfold wholeR; rw [h']; rfl, rfl⟩
theorem Sl.drew {α : Type} {enc : α → List Value} {k : Nat} {w : World} {v : Value} {xs : List α} (h : Sl enc k w v xs) : Sl enc k w.drew v xs := h.below (below_drew (Below.refl _ _))
theorem Sl.lit2 {α : Type} {enc : α → List Value} {k : Nat} (hk : ∀ x, (enc x).length = k) (w : World) (O : Obj) (B : Nat) (cells : Array Value) (T : TypeId) (n : Nat) (xs : List α) (hB : B = w.heap.size) (h : cells.toList = xs.flatMap enc) (hn : n = xs.length) (hb : xs.length ≤ 9223372036854775807) :
    Sl enc k ((w.alloc (.cells cells T)).alloc O) (.slice (some ⟨B, 0, none⟩) n n) xs := (Sl.lit' hk w B cells T n xs hB h hn hb).below (below_alloc (Below.refl _ _))
/-- What takes hands back. -/
def TakesR (x : Img) (i : Ins) (w : World) (e : Ending) (w' : World) : Prop := ∃ v1 v2, e = .returned (.tuple #[v1, v2]) ∧ Sl encI 1 w' v1 (takesR x i).1 ∧ Sl encI 1 w' v2 (takesR x i).2 ∧ Below w.heap.size w w'
theorem takes_done {x : Img} {i : Ins} {w w' : World} {v1 v2 : Value} {l1 l2 : List Int} (h : takesR x i = (l1, l2)) (h1 : Sl encI 1 w' v1 l1) (h2 : Sl encI 1 w' v2 l2) (hb : Below w.heap.size w w') : TakesR x i w (.returned (.tuple #[v1, v2])) w' :=
  ⟨v1, v2, rfl, by rw [h]; exact h1, by rw [h]; exact h2, hb⟩
set_option maxHeartbeats 8000000 in
theorem rtakes_c (x : Img) (vx : Value) (i : Ins) (w : World) (hx : ImgV w vx x) (hm : mayIns x i = true) : Calls Tryz.prog 117 #[vx, insV i] w (TakesR x i w) := by
  obtain ⟨vt, vf, vi, vo, vc, rfl, h1, h2, h3, h4, h5⟩ := hx
  obtain ⟨A, c, rfl, hlc, hc, hcell⟩ := h1
  clear h2 h3 h4 h5
  obtain ⟨op, a, b, n⟩ := i
  have hm' := hm
  simp only [mayIns, Bool.and_eq_true, decide_eq_true_eq] at hm
  obtain ⟨⟨⟨⟨⟨o1, o12⟩, _⟩, _⟩, _⟩, hf⟩ := hm
  unfold insV
  have hcellA : ∀ m : Int, 1 ≤ m → cellsOk x a m = true → ∃ (bb off k : Nat) (t : Int), A = some ⟨bb, off, none⟩ ∧ a = (k : Int) ∧ (k : Int) < (x.types.length : Int) ∧ tyAt x a = t ∧ bb < w.heap.size ∧ w.cell? ⟨bb, off + k, none⟩ = some (.int .i64 t) := by
    intro m h1 h2
    simp only [cellsOk, Bool.and_eq_true, decide_eq_true_eq] at h2
    obtain ⟨t, ht⟩ : ∃ t, x.types[a.toNat]? = some t := ⟨x.types[a.toNat]'(by omega), List.getElem?_eq_getElem (by omega)⟩
    obtain ⟨bb, off, e, hb, hcl⟩ := hcell a.toNat t ht
    refine ⟨bb, off, a.toNat, t, e, by omega, by omega, ?_, hb, by simpa using hcl 0 _ rfl⟩
    unfold tyAt
    rw [List.getD_eq_getElem?_getD, ht]
    rfl
  clear hcell
  have hop : op = 1 ∨ op = 2 ∨ op = 3 ∨ op = 4 ∨ op = 5 ∨ op = 6 ∨ op = 7 ∨ op = 8 ∨ op = 9 ∨ op = 10 ∨ op = 11 ∨ op = 12 := by
    omega
  clear o1 o12 hm'
  rcases hop with rfl | rfl | rfl | rfl | rfl | rfl | rfl | rfl | rfl | rfl | rfl | rfl
  · clear hcellA hf
    go_enter Tryz.func117, Tryz.ntmps117
    go_upto_region 3 with fail
    go_region
    all_goals go_wp2
    all_goals go_ret2
    all_goals exact takes_done (l1 := []) (l2 := [a]) rfl (Sl.nil _ _ _) (by refine Sl.lit' ?_ _ _ _ _ _ _ ?_ ?_ ?_ ?_ <;> first | (intro _; rfl) | rfl | decide | (simp; done)) (by (repeat' (first | (with_reducible exact Below.refl _ _) | (with_reducible refine below_alloc ?_) | (with_reducible refine below_drew ?_) | (with_reducible refine below_drewN ?_) | (with_reducible refine below_set (by simp; omega) ?_) | (with_reducible refine below_call (by with_reducible assumption) ?_))))
  · have hf : cellsOk x a 1 = true := hf
    obtain ⟨bb, off, k, t, rfl, rfl, hk, ht, hb, c0⟩ := hcellA 1 (by decide) hf
    have hk0 : (0 : Int) ≤ (k : Int) := Int.natCast_nonneg _
    have hb1 : bb < w.heap.size + 1 := by omega
    have hb2 : bb < w.heap.size + 1 + 1 := by omega
    have hb3 : bb ≠ w.heap.size + 1 + 1 := by omega
    have HT := Lib.hid ht
    clear hcellA hf ht
    go_enter Tryz.func117, Tryz.ntmps117
    go_upto_region 5 with fail
    go_region
    all_goals go_wp2
    all_goals go_ret2
    all_goals (refine takes_done (l1 := []) (l2 := [t]) (by rw [← HT.out]; rfl) ?_ ?_ (by (repeat' (first | (with_reducible exact Below.refl _ _) | (with_reducible refine below_alloc ?_) | (with_reducible refine below_drew ?_) | (with_reducible refine below_drewN ?_) | (with_reducible refine below_set (by simp; omega) ?_) | (with_reducible refine below_call (by with_reducible assumption) ?_)))) <;> ((try refine Sl.drew ?_); first | exact Sl.nil _ _ _ | (refine Sl.lit' ?_ _ _ _ _ _ _ ?_ ?_ ?_ ?_ <;> first | (intro _; rfl) | rfl | decide | (simp; done)) | (refine Sl.lit2 ?_ _ _ _ _ _ _ _ ?_ ?_ ?_ ?_ <;> first | (intro _; rfl) | rfl | decide | (simp; done))))
  · have hf : cellsOk x a 1 = true := hf
    obtain ⟨bb, off, k, t, rfl, rfl, hk, ht, hb, c0⟩ := hcellA 1 (by decide) hf
    have hk0 : (0 : Int) ≤ (k : Int) := Int.natCast_nonneg _
    have hb1 : bb < w.heap.size + 1 := by omega
    have hb2 : bb < w.heap.size + 1 + 1 := by omega
    have hb3 : bb ≠ w.heap.size + 1 + 1 := by omega
    have HT := Lib.hid ht
    clear hcellA hf ht
    go_enter Tryz.func117, Tryz.ntmps117
    all_goals go_wp2
    all_goals go_ret2
    all_goals (refine takes_done (l1 := [t]) (l2 := []) (by rw [← HT.out]; rfl) ?_ ?_ (by (repeat' (first | (with_reducible exact Below.refl _ _) | (with_reducible refine below_alloc ?_) | (with_reducible refine below_drew ?_) | (with_reducible refine below_drewN ?_) | (with_reducible refine below_set (by simp; omega) ?_) | (with_reducible refine below_call (by with_reducible assumption) ?_)))) <;> ((try refine Sl.drew ?_); first | exact Sl.nil _ _ _ | (refine Sl.lit' ?_ _ _ _ _ _ _ ?_ ?_ ?_ ?_ <;> first | (intro _; rfl) | rfl | decide | (simp; done)) | (refine Sl.lit2 ?_ _ _ _ _ _ _ _ ?_ ?_ ?_ ?_ <;> first | (intro _; rfl) | rfl | decide | (simp; done))))
  · have hf : mayArr x ⟨4, a, b, n⟩ = true := hf
    simp only [mayArr, Bool.and_eq_true, decide_eq_true_eq] at hf
    obtain ⟨bb, off, k, t, rfl, rfl, hk, ht, hb, c0⟩ := hcellA b hf.1.1.1 hf.1.2
    have hk0 : (0 : Int) ≤ (k : Int) := Int.natCast_nonneg _
    have hb1 : bb < w.heap.size + 1 := by omega
    have hb2 : bb < w.heap.size + 1 + 1 := by omega
    have hb3 : bb ≠ w.heap.size + 1 + 1 := by omega
    have HT := Lib.hid ht
    clear hcellA hf ht
    go_enter Tryz.func117, Tryz.ntmps117
    go_upto_region 9 with fail
    go_region
    all_goals go_wp2
    all_goals go_ret2
    all_goals (refine takes_done (l1 := [-1]) (l2 := [t]) (by rw [← HT.out]; rfl) ?_ ?_ (by (repeat' (first | (with_reducible exact Below.refl _ _) | (with_reducible refine below_alloc ?_) | (with_reducible refine below_drew ?_) | (with_reducible refine below_drewN ?_) | (with_reducible refine below_set (by simp; omega) ?_) | (with_reducible refine below_call (by with_reducible assumption) ?_)))) <;> ((try refine Sl.drew ?_); first | exact Sl.nil _ _ _ | (refine Sl.lit' ?_ _ _ _ _ _ _ ?_ ?_ ?_ ?_ <;> first | (intro _; rfl) | rfl | decide | (simp; done)) | (refine Sl.lit2 ?_ _ _ _ _ _ _ _ ?_ ?_ ?_ ?_ <;> first | (intro _; rfl) | rfl | decide | (simp; done))))
  · have hf : mayArr x ⟨5, a, b, n⟩ = true := hf
    simp only [mayArr, Bool.and_eq_true, decide_eq_true_eq] at hf
    obtain ⟨bb, off, k, t, rfl, rfl, hk, ht, hb, c0⟩ := hcellA b hf.1.1.1 hf.1.2
    have hk0 : (0 : Int) ≤ (k : Int) := Int.natCast_nonneg _
    have hb1 : bb < w.heap.size + 1 := by omega
    have hb2 : bb < w.heap.size + 1 + 1 := by omega
    have hb3 : bb ≠ w.heap.size + 1 + 1 := by omega
    have HT := Lib.hid ht
    clear hcellA hf ht
    go_enter Tryz.func117, Tryz.ntmps117
    all_goals go_wp2
    all_goals go_ret2
    all_goals (refine takes_done (l1 := [-1, t]) (l2 := []) (by rw [← HT.out]; rfl) ?_ ?_ (by (repeat' (first | (with_reducible exact Below.refl _ _) | (with_reducible refine below_alloc ?_) | (with_reducible refine below_drew ?_) | (with_reducible refine below_drewN ?_) | (with_reducible refine below_set (by simp; omega) ?_) | (with_reducible refine below_call (by with_reducible assumption) ?_)))) <;> ((try refine Sl.drew ?_); first | exact Sl.nil _ _ _ | (refine Sl.lit' ?_ _ _ _ _ _ _ ?_ ?_ ?_ ?_ <;> first | (intro _; rfl) | rfl | decide | (simp; done)) | (refine Sl.lit2 ?_ _ _ _ _ _ _ _ ?_ ?_ ?_ ?_ <;> first | (intro _; rfl) | rfl | decide | (simp; done))))
  · clear hcellA hf
    go_enter Tryz.func117, Tryz.ntmps117
    go_upto_region 14 with (go_at_call 128; refine (rresult_c _ _ _).mono ?_; rintro e w' ⟨rfl, rfl⟩)
    first | go_region | skip
    all_goals go_wp2
    all_goals go_ret2
    all_goals (refine takes_done (l1 := [b, b]) (l2 := [(result a b).1]) (rfl) ?_ ?_ (by (repeat' (first | (with_reducible exact Below.refl _ _) | (with_reducible refine below_alloc ?_) | (with_reducible refine below_drew ?_) | (with_reducible refine below_drewN ?_) | (with_reducible refine below_set (by simp; omega) ?_) | (with_reducible refine below_call (by with_reducible assumption) ?_)))) <;> ((try refine Sl.drew ?_); first | exact Sl.nil _ _ _ | (refine Sl.lit' ?_ _ _ _ _ _ _ ?_ ?_ ?_ ?_ <;> first | (intro _; rfl) | rfl | decide | (simp; done)) | (refine Sl.lit2 ?_ _ _ _ _ _ _ _ ?_ ?_ ?_ ?_ <;> first | (intro _; rfl) | rfl | decide | (simp; done))))
  · clear hcellA hf
    go_enter Tryz.func117, Tryz.ntmps117
    go_upto_region 16 with fail
    go_region
    all_goals go_wp2
    all_goals go_ret2
    all_goals (refine takes_done (l1 := [b]) (l2 := [b]) (rfl) ?_ ?_ (by (repeat' (first | (with_reducible exact Below.refl _ _) | (with_reducible refine below_alloc ?_) | (with_reducible refine below_drew ?_) | (with_reducible refine below_drewN ?_) | (with_reducible refine below_set (by simp; omega) ?_) | (with_reducible refine below_call (by with_reducible assumption) ?_)))) <;> ((try refine Sl.drew ?_); first | exact Sl.nil _ _ _ | (refine Sl.lit' ?_ _ _ _ _ _ _ ?_ ?_ ?_ ?_ <;> first | (intro _; rfl) | rfl | decide | (simp; done)) | (refine Sl.lit2 ?_ _ _ _ _ _ _ _ ?_ ?_ ?_ ?_ <;> first | (intro _; rfl) | rfl | decide | (simp; done))))
  · clear hcellA hf
    go_enter Tryz.func117, Tryz.ntmps117
    go_upto_region 18 with fail
    go_region
    all_goals go_wp2
    all_goals go_ret2
    all_goals (refine takes_done (l1 := [a]) (l2 := [b]) (rfl) ?_ ?_ (by (repeat' (first | (with_reducible exact Below.refl _ _) | (with_reducible refine below_alloc ?_) | (with_reducible refine below_drew ?_) | (with_reducible refine below_drewN ?_) | (with_reducible refine below_set (by simp; omega) ?_) | (with_reducible refine below_call (by with_reducible assumption) ?_)))) <;> ((try refine Sl.drew ?_); first | exact Sl.nil _ _ _ | (refine Sl.lit' ?_ _ _ _ _ _ _ ?_ ?_ ?_ ?_ <;> first | (intro _; rfl) | rfl | decide | (simp; done)) | (refine Sl.lit2 ?_ _ _ _ _ _ _ _ ?_ ?_ ?_ ?_ <;> first | (intro _; rfl) | rfl | decide | (simp; done))))
  · clear hcellA hf
    go_enter Tryz.func117, Tryz.ntmps117
    all_goals go_wp2
    all_goals go_ret2
    all_goals exact takes_done (l1 := []) (l2 := []) (rfl) (Sl.nil _ _ _) (Sl.nil _ _ _) (by (repeat' (first | (with_reducible exact Below.refl _ _) | (with_reducible refine below_alloc ?_) | (with_reducible refine below_drew ?_) | (with_reducible refine below_drewN ?_) | (with_reducible refine below_set (by simp; omega) ?_) | (with_reducible refine below_call (by with_reducible assumption) ?_))))
  · clear hcellA hf
    go_enter Tryz.func117, Tryz.ntmps117
    all_goals go_wp2
    all_goals go_ret2
    all_goals (refine takes_done (l1 := [1]) (l2 := []) (rfl) ?_ ?_ (by (repeat' (first | (with_reducible exact Below.refl _ _) | (with_reducible refine below_alloc ?_) | (with_reducible refine below_drew ?_) | (with_reducible refine below_drewN ?_) | (with_reducible refine below_set (by simp; omega) ?_) | (with_reducible refine below_call (by with_reducible assumption) ?_)))) <;> ((try refine Sl.drew ?_); first | exact Sl.nil _ _ _ | (refine Sl.lit' ?_ _ _ _ _ _ _ ?_ ?_ ?_ ?_ <;> first | (intro _; rfl) | rfl | decide | (simp; done)) | (refine Sl.lit2 ?_ _ _ _ _ _ _ _ ?_ ?_ ?_ ?_ <;> first | (intro _; rfl) | rfl | decide | (simp; done))))
  · clear hcellA hf
    go_enter Tryz.func117, Tryz.ntmps117
    all_goals go_wp2
    all_goals go_ret2
    all_goals exact takes_done (l1 := []) (l2 := []) (rfl) (Sl.nil _ _ _) (Sl.nil _ _ _) (by (repeat' (first | (with_reducible exact Below.refl _ _) | (with_reducible refine below_alloc ?_) | (with_reducible refine below_drew ?_) | (with_reducible refine below_drewN ?_) | (with_reducible refine below_set (by simp; omega) ?_) | (with_reducible refine below_call (by with_reducible assumption) ?_))))
  · clear hcellA hf
    go_enter Tryz.func117, Tryz.ntmps117
    all_goals go_wp2
    all_goals go_ret2
    all_goals exact takes_done (l1 := []) (l2 := []) (rfl) (Sl.nil _ _ _) (Sl.nil _ _ _) (by (repeat' (first | (with_reducible exact Below.refl _ _) | (with_reducible refine below_alloc ?_) | (with_reducible refine below_drew ?_) | (with_reducible refine below_drewN ?_) | (with_reducible refine below_set (by simp; omega) ?_) | (with_reducible refine below_call (by with_reducible assumption) ?_))))
set_option maxHeartbeats 4000000 in
theorem rgoes_c (k : Nat) (i : Ins) (w : World) (hk : k ≤ 4096) : Calls Tryz.prog 119 #[.int .i64 k, insV i] w fun e w' => ∃ v, e = .returned v ∧ Sl encI 1 w' v (goesL k i) ∧ (v = .slice none 0 0 ∨ ∃ b o l c, v = .slice (some ⟨b, o, none⟩) l c ∧ w.heap.size ≤ b) ∧ Below w.heap.size w w' := by
  obtain ⟨op, a, b, n⟩ := i
  unfold insV
  have hk0 : (0 : Int) ≤ (k : Int) := Int.natCast_nonneg _
  have hkz : (k : Int) ≤ 4096 := by omega
  by_cases h9 : op = 9
  · subst h9
    go_enter Tryz.func119, Tryz.ntmps119
    go_wp2
    go_ret
    exact ⟨_, rfl, (show Sl encI 1 _ _ [a] from by refine Sl.lit' ?_ _ _ _ _ _ _ ?_ ?_ ?_ ?_ <;> first | (intro _; rfl) | rfl | decide | (simp; done)), (by first | exact .inl rfl | (refine .inr ⟨_, _, _, _, rfl, ?_⟩; simp)), by (repeat' (first | (with_reducible exact Below.refl _ _) | (with_reducible refine below_alloc ?_) | (with_reducible refine below_drew ?_) | (with_reducible refine below_drewN ?_) | (with_reducible refine below_set (by simp; omega) ?_) | (with_reducible refine below_call (by with_reducible assumption) ?_)))⟩
  by_cases h10 : op = 10
  · subst h10
    go_enter Tryz.func119, Tryz.ntmps119
    go_upto_region 5 with fail
    first | go_region | go_wp2
    all_goals go_wp2
    all_goals go_ret
    all_goals exact ⟨_, rfl, (show Sl encI 1 _ _ [(k : Int) + 1, a] from by refine Sl.lit' ?_ _ _ _ _ _ _ ?_ ?_ ?_ ?_ <;> first | (intro _; rfl) | rfl | decide | (simp; done)), (by first | exact .inl rfl | (refine .inr ⟨_, _, _, _, rfl, ?_⟩; simp)), by (repeat' (first | (with_reducible exact Below.refl _ _) | (with_reducible refine below_alloc ?_) | (with_reducible refine below_drew ?_) | (with_reducible refine below_drewN ?_) | (with_reducible refine below_set (by simp; omega) ?_) | (with_reducible refine below_call (by with_reducible assumption) ?_)))⟩
  by_cases h12 : op = 12
  · subst h12
    go_enter Tryz.func119, Tryz.ntmps119
    go_wp2
    go_ret
    exact ⟨_, rfl, (show Sl encI 1 _ _ [] from Sl.nil _ _ _), (by first | exact .inl rfl | (refine .inr ⟨_, _, _, _, rfl, ?_⟩; simp)), by (repeat' (first | (with_reducible exact Below.refl _ _) | (with_reducible refine below_alloc ?_) | (with_reducible refine below_drew ?_) | (with_reducible refine below_drewN ?_) | (with_reducible refine below_set (by simp; omega) ?_) | (with_reducible refine below_call (by with_reducible assumption) ?_)))⟩
  · have m9 : (op == 9) = false := beq_eq_false_iff_ne.2 h9
    have m10 : (op == 10) = false := beq_eq_false_iff_ne.2 h10
    have m12 : (op == 12) = false := beq_eq_false_iff_ne.2 h12
    have HG := Lib.hid (show goesL k ⟨op, a, b, n⟩ = [(k : Int) + 1] by simp [goesL, h9, h10, h12])
    clear h9 h10 h12
    go_enter Tryz.func119, Tryz.ntmps119
    go_wp2
    go_ret
    exact ⟨_, rfl, by rw [HG.out]; exact (by refine Sl.lit' ?_ _ _ _ _ _ _ ?_ ?_ ?_ ?_ <;> first | (intro _; rfl) | rfl | decide | (simp; done)), (by first | exact .inl rfl | (refine .inr ⟨_, _, _, _, rfl, ?_⟩; simp)), by (repeat' (first | (with_reducible exact Below.refl _ _) | (with_reducible refine below_alloc ?_) | (with_reducible refine below_drew ?_) | (with_reducible refine below_drewN ?_) | (with_reducible refine below_set (by simp; omega) ?_) | (with_reducible refine below_call (by with_reducible assumption) ?_)))⟩
end Go.Proofs.YtefpgjocfgeenaaGreatDoor
