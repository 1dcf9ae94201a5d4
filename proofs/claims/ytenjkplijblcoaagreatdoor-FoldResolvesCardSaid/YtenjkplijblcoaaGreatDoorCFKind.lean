/- (*fold.resolver).kind. -/
import Derived.Test.YtenjkplijblcoaaGreatDoorCFFits
import Derived.Test.YtenjkplijblcoaaGreatDoorCFFold
set_option linter.unusedSimpArgs false
set_option linter.unusedVariables false
namespace Go.Proofs.YtenjkplijblcoaaGreatDoor
open Go.RowKit Cap
set_option maxRecDepth 100000

theorem Sl.first {α : Type} {enc : α → List Value} {k : Nat} {w : World} {A : Option Addr} {n c m : Nat} {xs : List α} (h : Sl enc k w (.slice A n c) xs) (hm : m ≤ xs.length) : Sl enc k w (.slice A m c) (xs.take m) := by
  obtain ⟨A', c', e, h1, h2, h3⟩ := h
  injection e with e1 e2 e3
  subst e1 e2 e3
  have hl : (xs.take m).length = m := by rw [List.length_take]; omega
  refine ⟨_, _, by rw [hl], by omega, h2, fun i x hx => h3 i x ?_⟩
  have hi : i < m := by have := (List.getElem?_eq_some_iff.1 hx).1; omega
  rw [List.getElem?_take_of_lt hi] at hx
  exact hx
/-- A part of an expression, from a place up to another one. -/
def segX (x : List Prt) (a b : Nat) : List Prt := (x.drop a).take (b - a)
set_option maxHeartbeats 4000000 in
theorem kind_c (vars : List Vr) (x : List Prt) (vv vl : Value) (br g cap a b : Nat) (w : World) (hs : Sl encVr 5 w vv vars) (hvo : ∀ v ∈ vars, VrOk v) (hx : Sl encPrt 5 w (.slice (some ⟨g, 0, none⟩) x.length cap) x) (hpo : ∀ p ∈ x, PrtOk p) (hG : G w)
    (hr : w.heap[br]? = some (.cells #[vv, .slice (some ⟨g, 0, none⟩) x.length cap, vl] 51 (0, 0))) (hab : a < b) (hb : b ≤ x.length) (hcap : x.length ≤ cap) :
    Calls Tryz.prog 46 #[.pointer (some ⟨br, 0, none⟩), .int .i64 a, .int .i64 b] w fun e w' => e = .returned (.int .i64 (reckV vars (segX x a b)).1.t) ∧ Below w.heap.size w w' := by
  have hbr : br < w.heap.size := (Array.getElem?_eq_some_iff.1 hr).1
  have hseg : Sl encPrt 5 w (.slice (some ⟨g, a * 5, none⟩) (b - a) (cap - a)) (segX x a b) := by
    have h1 := Sl.drop hx a (by omega)
    rw [Nat.zero_add] at h1
    exact h1.first (by rw [List.length_drop]; omega)
  have hpo' : ∀ p ∈ segX x a b, PrtOk p := fun p hp' => hpo p (List.mem_of_mem_drop (List.mem_of_mem_take hp'))
  have HTY := Lib.hid (fun W (hW : Below w.heap.size w W) => type_c vars (segX x a b) vv _ W (hs.below hW) hvo (hseg.below hW) hpo' (hG.below hW))
  obtain ⟨⟨⟨rt, rl, rh⟩, re⟩, hre⟩ : ∃ q, reckV vars (segX x a b) = q := ⟨_, rfl⟩
  rw [hre] at HTY ⊢
  have c0 := cell_of_row _ _ 0 _ _ _ hr
  have c1 := cell_of_row _ _ 1 _ _ _ hr
  simp at c0 c1
  have HK := Lib.hid (show ∀ W, Below w.heap.size w W → (W.cell? ⟨br, 0, none⟩ = some vv ∧ W.cell? ⟨br, 1, none⟩ = some (.slice (some ⟨g, 0, none⟩) x.length cap)) from fun W hW => ⟨(hW.cell (p := ⟨br, 0, none⟩) hbr).trans c0, (hW.cell (p := ⟨br, 1, none⟩) hbr).trans c1⟩)
  obtain ⟨Av, cv, rfl, -, -, -⟩ := hs
  have ha0 : (0 : Int) ≤ (a : Int) := Int.natCast_nonneg _
  have hb0 : (0 : Int) ≤ (b : Int) := Int.natCast_nonneg _
  have habz : (a : Int) ≤ (b : Int) := by omega
  have hbc : (b : Int) ≤ (cap : Int) := by omega
  have hacz : (a : Int) ≤ (cap : Int) := by omega
  have hne : ¬ cap = a := by omega
  clear hre hvo hpo hG hseg hpo' hx hr c0 c1
  simp only at HTY ⊢
  go_enter Tryz.func46, Tryz.ntmps46
  go_upto_region 1 with fail
  go_region_held3 (fun W => W.cell? ⟨br, 0, none⟩ = some (.slice Av vars.length cv) ∧ W.cell? ⟨br, 1, none⟩ = some (.slice (some ⟨g, 0, none⟩) x.length cap)) (first | exact HK.out _ (by (repeat' (first | (with_reducible exact Below.refl _ _) | (with_reducible refine below_alloc ?_) | (with_reducible refine below_drew ?_) | (with_reducible refine below_drewN ?_) | (with_reducible refine below_set (by first | (simp; done) | (simp; omega)) ?_) | (with_reducible refine below_call (by with_reducible assumption) ?_))))) (first | (go_at_call 18; refine (HTY.out _ (by (repeat' (first | (with_reducible exact Below.refl _ _) | (with_reducible refine below_alloc ?_) | (with_reducible refine below_drew ?_) | (with_reducible refine below_drewN ?_) | (with_reducible refine below_set (by first | (simp; done) | (simp; omega)) ?_) | (with_reducible refine below_call (by with_reducible assumption) ?_))))).mono ?_; rintro e w1 ⟨rfl, hb1⟩))
  all_goals go_wp2
  all_goals go_ret
  all_goals exact ⟨rfl, by (repeat' (first | (with_reducible exact Below.refl _ _) | (with_reducible refine below_alloc ?_) | (with_reducible refine below_drew ?_) | (with_reducible refine below_drewN ?_) | (with_reducible refine below_set (by first | (simp; done) | (simp; omega)) ?_) | (with_reducible refine below_call (by with_reducible assumption) ?_)))⟩
end Go.Proofs.YtenjkplijblcoaaGreatDoor
