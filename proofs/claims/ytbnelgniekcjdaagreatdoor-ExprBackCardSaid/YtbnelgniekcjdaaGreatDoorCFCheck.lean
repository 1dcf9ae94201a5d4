/- expr.Check. -/
import Derived.Test.YtbnelgniekcjdaaGreatDoorCFMay
import Derived.Test.YtbnelgniekcjdaaGreatDoorCFDepth
set_option linter.unusedSimpArgs false
set_option linter.unusedVariables false
namespace Go.Proofs.YtbnelgniekcjdaaGreatDoor
open Go.RowKit Cap
set_option maxRecDepth 100000

/-- No text in a part is too long for the machine. -/
def PrtOk (p : Prt) : Prop := p.s.size ≤ 140737488351232 ∧ p.f.size ≤ 140737488351232
theorem notMay_c (p : Prt) (w : World) (hG : G w) (hp : PrtOk p) : Calls Tryz.prog 27 #[prtV p] w fun e w' => e = .returned (.bool (!mayP p)) ∧ Below w.heap.size w w' := by
  have HM := Lib.hid (fun W (hW : Below w.heap.size w W) => mayP_c p W (hG.below hW) hp.1 hp.2)
  clear hG hp
  obtain ⟨b, hb⟩ : ∃ b, mayP p = b := ⟨_, rfl⟩
  rw [hb] at HM
  rw [hb]
  clear hb
  unfold prtV at HM ⊢
  go_enter Tryz.func27, Tryz.ntmps27
  go_wp2_with (go_at_call 28; refine (HM.out _ (by (repeat' (first | (with_reducible exact Below.refl _ _) | (with_reducible refine below_alloc ?_) | (with_reducible refine below_drew ?_) | (with_reducible refine below_drewN ?_) | (with_reducible refine below_set (by simp; omega) ?_) | (with_reducible refine below_call (by with_reducible assumption) ?_))))).mono ?_; rintro e w1 ⟨rfl, hb1⟩; obtain ⟨hc1, hf1⟩ := bcell hb1; have hz1 := hb1.size; (try simp at hz1); (try have hw01 : w.heap.size < w1.heap.size := by omega); (try have hw11 : w.heap.size + 1 < w1.heap.size := by omega); (try have hw21 : w.heap.size + 1 + 1 < w1.heap.size := by omega))
  go_ret
  exact ⟨rfl, by (repeat' (first | (with_reducible exact Below.refl _ _) | (with_reducible refine below_alloc ?_) | (with_reducible refine below_drew ?_) | (with_reducible refine below_drewN ?_) | (with_reducible refine below_set (by simp; omega) ?_) | (with_reducible refine below_call (by with_reducible assumption) ?_)))⟩
theorem checkX_c (x : List Prt) (v : Value) (w : World) (hs : Sl encPrt 5 w v x) (hG : G w) (hok : ∀ p ∈ x, PrtOk p) :
    Calls Tryz.prog 13 #[v] w fun e w' => e = .returned (.int .i64 (checkX x)) ∧ Below w.heap.size w w' := by
  have hP : ∀ W, Below w.heap.size w W → Calls Tryz.prog 26 #[v, .func (.func 27) #[] #[]] W fun e w' => e = .returned (.bool (x.any (fun p => !mayP p))) ∧ Below W.heap.size W w' := fun W hW =>
    containsFunc_prt (fun p => !mayP p) _ _ (enters_of Tryz.func27 (by kernel_rfl) rfl) v x W (fun W' p hp hW' => notMay_c p W' (hG.below (below_call hW' hW)) (hok p hp)) (hs.below hW)
  have hD := fun W (hW : Below w.heap.size w W) (h : x.length ≤ 500) => depth_c x v W (hs.below hW) h
  have HP := Lib.hid hP
  have HD := Lib.hid hD
  obtain ⟨A, c, rfl, hl, hm, -⟩ := hs
  clear hP hD hG hok
  by_cases h500 : 500 < x.length
  · have hz : (500 : Int) < (x.length : Int) := by omega
    have HR := Lib.hid (show checkX x = 2 by rw [checkX, if_pos h500])
    go_enter Tryz.func13, Tryz.ntmps13
    go_wp2
    go_ret
    exact ⟨by rw [HR.out]; rfl, Below.refl _ _⟩
  have hz : ¬ (500 : Int) < (x.length : Int) := by omega
  have HD := Lib.hid (fun W (hW : Below w.heap.size w W) => HD.out W hW (by omega))
  have HR := Lib.hid (show checkX x = if depthL x = 0 ∨ 24 < depthL x ∨ x.any (fun p => !mayP p) = true then 60 else 0 by rw [checkX, if_neg h500])
  obtain ⟨d, hd⟩ : ∃ d, depthL x = d := ⟨_, rfl⟩
  obtain ⟨b, hb⟩ : ∃ b, x.any (fun p => !mayP p) = b := ⟨_, rfl⟩
  rw [hd, hb] at HR
  rw [hd] at HD
  rw [hb] at HP
  clear hd hb
  by_cases h0 : d = 0
  · subst h0
    go_enter Tryz.func13, Tryz.ntmps13
    go_wp2_with (first | (go_at_call 18; refine (HD.out _ (by (repeat' (first | (with_reducible exact Below.refl _ _) | (with_reducible refine below_alloc ?_) | (with_reducible refine below_drew ?_) | (with_reducible refine below_drewN ?_) | (with_reducible refine below_set (by simp; omega) ?_) | (with_reducible refine below_call (by with_reducible assumption) ?_))))).mono ?_; rintro e w1 ⟨rfl, hb1⟩) | (go_at_call 26; refine (HP.out _ (by (repeat' (first | (with_reducible exact Below.refl _ _) | (with_reducible refine below_alloc ?_) | (with_reducible refine below_drew ?_) | (with_reducible refine below_drewN ?_) | (with_reducible refine below_set (by simp; omega) ?_) | (with_reducible refine below_call (by with_reducible assumption) ?_))))).mono ?_; rintro e w2 ⟨rfl, hb2⟩))
    go_ret
    exact ⟨by rw [HR.out]; rfl, by (repeat' (first | (with_reducible exact Below.refl _ _) | (with_reducible refine below_alloc ?_) | (with_reducible refine below_drew ?_) | (with_reducible refine below_drewN ?_) | (with_reducible refine below_set (by simp; omega) ?_) | (with_reducible refine below_call (by with_reducible assumption) ?_)))⟩
  have hb0 := ne_int h0
  by_cases h24 : 24 < d
  · go_enter Tryz.func13, Tryz.ntmps13
    go_wp2_with (first | (go_at_call 18; refine (HD.out _ (by (repeat' (first | (with_reducible exact Below.refl _ _) | (with_reducible refine below_alloc ?_) | (with_reducible refine below_drew ?_) | (with_reducible refine below_drewN ?_) | (with_reducible refine below_set (by simp; omega) ?_) | (with_reducible refine below_call (by with_reducible assumption) ?_))))).mono ?_; rintro e w1 ⟨rfl, hb1⟩) | (go_at_call 26; refine (HP.out _ (by (repeat' (first | (with_reducible exact Below.refl _ _) | (with_reducible refine below_alloc ?_) | (with_reducible refine below_drew ?_) | (with_reducible refine below_drewN ?_) | (with_reducible refine below_set (by simp; omega) ?_) | (with_reducible refine below_call (by with_reducible assumption) ?_))))).mono ?_; rintro e w2 ⟨rfl, hb2⟩))
    go_ret
    exact ⟨by rw [HR.out, if_pos (by omega)]; rfl, by (repeat' (first | (with_reducible exact Below.refl _ _) | (with_reducible refine below_alloc ?_) | (with_reducible refine below_drew ?_) | (with_reducible refine below_drewN ?_) | (with_reducible refine below_set (by simp; omega) ?_) | (with_reducible refine below_call (by with_reducible assumption) ?_)))⟩
  cases b with
  | true =>
    go_enter Tryz.func13, Tryz.ntmps13
    go_wp2_with (first | (go_at_call 18; refine (HD.out _ (by (repeat' (first | (with_reducible exact Below.refl _ _) | (with_reducible refine below_alloc ?_) | (with_reducible refine below_drew ?_) | (with_reducible refine below_drewN ?_) | (with_reducible refine below_set (by simp; omega) ?_) | (with_reducible refine below_call (by with_reducible assumption) ?_))))).mono ?_; rintro e w1 ⟨rfl, hb1⟩) | (go_at_call 26; refine (HP.out _ (by (repeat' (first | (with_reducible exact Below.refl _ _) | (with_reducible refine below_alloc ?_) | (with_reducible refine below_drew ?_) | (with_reducible refine below_drewN ?_) | (with_reducible refine below_set (by simp; omega) ?_) | (with_reducible refine below_call (by with_reducible assumption) ?_))))).mono ?_; rintro e w2 ⟨rfl, hb2⟩))
    go_ret
    exact ⟨by rw [HR.out, if_pos (by simp)]; rfl, by (repeat' (first | (with_reducible exact Below.refl _ _) | (with_reducible refine below_alloc ?_) | (with_reducible refine below_drew ?_) | (with_reducible refine below_drewN ?_) | (with_reducible refine below_set (by simp; omega) ?_) | (with_reducible refine below_call (by with_reducible assumption) ?_)))⟩
  | false =>
    go_enter Tryz.func13, Tryz.ntmps13
    go_wp2_with (first | (go_at_call 18; refine (HD.out _ (by (repeat' (first | (with_reducible exact Below.refl _ _) | (with_reducible refine below_alloc ?_) | (with_reducible refine below_drew ?_) | (with_reducible refine below_drewN ?_) | (with_reducible refine below_set (by simp; omega) ?_) | (with_reducible refine below_call (by with_reducible assumption) ?_))))).mono ?_; rintro e w1 ⟨rfl, hb1⟩) | (go_at_call 26; refine (HP.out _ (by (repeat' (first | (with_reducible exact Below.refl _ _) | (with_reducible refine below_alloc ?_) | (with_reducible refine below_drew ?_) | (with_reducible refine below_drewN ?_) | (with_reducible refine below_set (by simp; omega) ?_) | (with_reducible refine below_call (by with_reducible assumption) ?_))))).mono ?_; rintro e w2 ⟨rfl, hb2⟩))
    go_ret
    exact ⟨by rw [HR.out, if_neg (by rintro (h | h | h) <;> first | omega | cases h)]; rfl, by (repeat' (first | (with_reducible exact Below.refl _ _) | (with_reducible refine below_alloc ?_) | (with_reducible refine below_drew ?_) | (with_reducible refine below_drewN ?_) | (with_reducible refine below_set (by simp; omega) ?_) | (with_reducible refine below_call (by with_reducible assumption) ?_)))⟩
end Go.Proofs.YtbnelgniekcjdaaGreatDoor
