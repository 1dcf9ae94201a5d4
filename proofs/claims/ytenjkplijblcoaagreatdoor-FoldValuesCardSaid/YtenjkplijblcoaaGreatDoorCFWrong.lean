/- decl.Check of variables alone, typed.wrong. -/
import Derived.Test.YtenjkplijblcoaaGreatDoorCFDecl
set_option linter.unusedSimpArgs false
set_option linter.unusedVariables false
namespace Go.Proofs.YtenjkplijblcoaaGreatDoor
open Go.RowKit Cap
set_option maxRecDepth 100000

def VrOk (v : Vr) : Prop := v.name.size ≤ 140737488351232
theorem notMayV_c (p : Vr) (w : World) (hG : G w) (hp : VrOk p) : Calls Tryz.prog 128 #[vrV p] w fun e w' => e = .returned (.bool (!mayV p)) ∧ Below w.heap.size w w' := by
  have HM := Lib.hid (fun W (hW : Below w.heap.size w W) => mayV_c p W (hG.below hW) hp)
  clear hG hp
  obtain ⟨b, hb⟩ : ∃ b, mayV p = b := ⟨_, rfl⟩
  rw [hb] at HM
  rw [hb]
  clear hb
  unfold vrV at HM ⊢
  go_enter Tryz.func128, Tryz.ntmps128
  go_wp2_with (go_at_call 129; refine (HM.out _ (by (repeat' (first | (with_reducible exact Below.refl _ _) | (with_reducible refine below_alloc ?_) | (with_reducible refine below_drew ?_) | (with_reducible refine below_drewN ?_) | (with_reducible refine below_set (by simp; omega) ?_) | (with_reducible refine below_call (by with_reducible assumption) ?_))))).mono ?_; rintro e w1 ⟨rfl, hb1⟩; obtain ⟨hc1, hf1⟩ := bcell hb1; have hz1 := hb1.size; (try simp at hz1); (try have hw01 : w.heap.size < w1.heap.size := by omega); (try have hw11 : w.heap.size + 1 < w1.heap.size := by omega); (try have hw21 : w.heap.size + 1 + 1 < w1.heap.size := by omega))
  go_ret
  exact ⟨rfl, by (repeat' (first | (with_reducible exact Below.refl _ _) | (with_reducible refine below_alloc ?_) | (with_reducible refine below_drew ?_) | (with_reducible refine below_drewN ?_) | (with_reducible refine below_set (by simp; omega) ?_) | (with_reducible refine below_call (by with_reducible assumption) ?_)))⟩
theorem isName_P : isName ⟨#[80]⟩ = true := by kernel_rfl
set_option maxHeartbeats 1000000 in
theorem dcheck_c (vars : List Vr) (v : Value) (w : World) (hs : Sl encVr 5 w v vars) (hG : G w) (hok : ∀ p ∈ vars, VrOk p) (h64 : vars.length ≤ 64) :
    Calls Tryz.prog 84 #[.agg #[.string ⟨#[80]⟩, v, .slice none 0 0]] w fun e w' => e = .returned (.int .i64 (if vars.any (fun v => !mayV v) = true then 80 else 0)) ∧ Below w.heap.size w w' := by
  have hP : ∀ W, Below w.heap.size w W → Calls Tryz.prog 127 #[v, .func (.func 128) #[] #[]] W fun e w' => e = .returned (.bool (vars.any (fun p => !mayV p))) ∧ Below W.heap.size W w' := fun W hW =>
    containsFunc_vr (fun p => !mayV p) _ _ (enters_of Tryz.func128 (by kernel_rfl) rfl) v vars W (fun W' p hp hW' => notMayV_c p W' (hG.below (below_call hW' hW)) (hok p hp)) (hs.below hW)
  have HP := Lib.hid hP
  have HN := Lib.hid (fun W (hW : Below w.heap.size w W) => (by have h := name_c ⟨#[80]⟩ W (hG.below hW) (by decide); rw [isName_P] at h; exact h : Calls Tryz.prog 108 #[.string ⟨#[80]⟩] W fun e w' => e = .returned (.bool true) ∧ Below W.heap.size W w'))
  obtain ⟨A, c, rfl, hl, hm, -⟩ := hs
  obtain ⟨b, hb⟩ : ∃ b, vars.any (fun p => !mayV p) = b := ⟨_, rfl⟩
  rw [hb] at HP
  rw [hb]
  clear hP hG hok hb
  have hz : ¬ (64 : Int) < (vars.length : Int) := by omega
  go_enter Tryz.func84, Tryz.ntmps84
  cases b
  all_goals go_wp2_with (first
    | (go_at_call 108; refine (HN.out _ (by (repeat' (first | (with_reducible exact Below.refl _ _) | (with_reducible refine below_alloc ?_) | (with_reducible refine below_drew ?_) | (with_reducible refine below_drewN ?_) | (with_reducible refine below_set (by simp; omega) ?_) | (with_reducible refine below_call (by with_reducible assumption) ?_))))).mono ?_; rintro e w1 ⟨rfl, hb1⟩; obtain ⟨hc1, hf1⟩ := bcell hb1; have hz1 := hb1.size; (try simp at hz1); (try have hw01 : w.heap.size < w1.heap.size := by omega); (try have hw11 : w.heap.size + 1 < w1.heap.size := by omega); (try have hw21 : w.heap.size + 1 + 1 < w1.heap.size := by omega))
    | (go_at_call 126; refine (scheck_nil _).mono ?_; rintro e w2 ⟨rfl, hb2⟩; obtain ⟨hc2, hf2⟩ := bcell hb2; have hz2 := hb2.size; (try simp at hz2); (try have hw02 : w.heap.size < w2.heap.size := by omega); (try have hw12 : w.heap.size + 1 < w2.heap.size := by omega); (try have hw22 : w.heap.size + 1 + 1 < w2.heap.size := by omega))
    | (go_at_call 127; refine (HP.out _ (by (repeat' (first | (with_reducible exact Below.refl _ _) | (with_reducible refine below_alloc ?_) | (with_reducible refine below_drew ?_) | (with_reducible refine below_drewN ?_) | (with_reducible refine below_set (by simp; omega) ?_) | (with_reducible refine below_call (by with_reducible assumption) ?_))))).mono ?_; rintro e w3 ⟨rfl, hb3⟩; obtain ⟨hc3, hf3⟩ := bcell hb3; have hz3 := hb3.size; (try simp at hz3); (try have hw03 : w.heap.size < w3.heap.size := by omega); (try have hw13 : w.heap.size + 1 < w3.heap.size := by omega); (try have hw23 : w.heap.size + 1 + 1 < w3.heap.size := by omega)))
  all_goals go_ret
  all_goals exact ⟨rfl, by (repeat' (first | (with_reducible exact Below.refl _ _) | (with_reducible refine below_alloc ?_) | (with_reducible refine below_drew ?_) | (with_reducible refine below_drewN ?_) | (with_reducible refine below_set (by simp; omega) ?_) | (with_reducible refine below_call (by with_reducible assumption) ?_)))⟩
theorem wrong_c (vars : List Vr) (v : Value) (w : World) (hs : Sl encVr 5 w v vars) (hG : G w) (hok : ∀ p ∈ vars, VrOk p) :
    Calls Tryz.prog 59 #[v] w fun e w' => e = .returned (.int .i64 (wrongV vars)) ∧ Below w.heap.size w w' := by
  have HD := Lib.hid (fun W (hW : Below w.heap.size w W) h64 => dcheck_c vars v W (hs.below hW) (hG.below hW) hok h64)
  obtain ⟨A, c, rfl, hl, hm, -⟩ := hs
  clear hG hok
  by_cases h64 : 64 < vars.length
  · have hz : (64 : Int) < (vars.length : Int) := by omega
    have HR := Lib.hid (show wrongV vars = 2 by rw [wrongV, if_pos h64])
    go_enter Tryz.func59, Tryz.ntmps59
    go_wp2
    go_ret
    exact ⟨by rw [HR.out]; rfl, Below.refl _ _⟩
  · have hz : ¬ (64 : Int) < (vars.length : Int) := by omega
    have HR := Lib.hid (show wrongV vars = if vars.any (fun v => !mayV v) = true then 80 else 0 by rw [wrongV, if_neg h64])
    have HD := Lib.hid (fun W (hW : Below w.heap.size w W) => HD.out W hW (by omega))
    obtain ⟨q, hq⟩ : ∃ q : Int, (if vars.any (fun v => !mayV v) = true then 80 else 0) = q := ⟨_, rfl⟩
    rw [hq] at HD HR
    clear hq
    go_enter Tryz.func59, Tryz.ntmps59
    go_wp2_with (go_at_call 84; refine (HD.out _ (by (repeat' (first | (with_reducible exact Below.refl _ _) | (with_reducible refine below_alloc ?_) | (with_reducible refine below_drew ?_) | (with_reducible refine below_drewN ?_) | (with_reducible refine below_set (by simp; omega) ?_) | (with_reducible refine below_call (by with_reducible assumption) ?_))))).mono ?_; rintro e w1 ⟨rfl, hb1⟩)
    go_ret
    exact ⟨by rw [HR.out]; rfl, by (repeat' (first | (with_reducible exact Below.refl _ _) | (with_reducible refine below_alloc ?_) | (with_reducible refine below_drew ?_) | (with_reducible refine below_drewN ?_) | (with_reducible refine below_set (by simp; omega) ?_) | (with_reducible refine below_call (by with_reducible assumption) ?_)))⟩
end Go.Proofs.YtenjkplijblcoaaGreatDoor
