/- code.Check: what each call answers. -/
import Derived.Test.YtefpgjocfgeenaaGreatDoorSound
namespace Go.Proofs.YtefpgjocfgeenaaGreatDoor
open Go.RowKit Cap
set_option maxRecDepth 100000

/-- The image, as it lies in a variable. -/
theorem check1_c (x : Img) (vs : Array Value) (vl : Value) (bx bl : Nat) (i : Ins) (w : World) (hx : ImgV w (.agg vs) x) (h0 : ∀ j v, vs[j]? = some v → w.cell? ⟨bx, j, none⟩ = some v) (h1 : w.cell? ⟨bl, 0, none⟩ = some vl) (hl : Sl encRule 4 w vl ruleOps) (hi : InsOk i) :
    Calls Tryz.prog 108 #[insV i, .pointer (some ⟨bx, 0, none⟩), .pointer (some ⟨bl, 0, none⟩)] w fun e w' => e = .returned (.bool (!mayIns x i)) ∧ Below w.heap.size w w' := by
  have HX := hx
  obtain ⟨vt, vf, vi, vo, vc, he, -⟩ := hx
  injection he with he
  subst he
  have c0 : w.cell? ⟨bx, 0, none⟩ = some (.string x.name) := h0 0 _ rfl
  have c1 : w.cell? ⟨bx, 1, none⟩ = some vt := h0 1 _ rfl
  have c2 : w.cell? ⟨bx, 2, none⟩ = some vf := h0 2 _ rfl
  have c3 : w.cell? ⟨bx, 3, none⟩ = some vi := h0 3 _ rfl
  have c4 : w.cell? ⟨bx, 4, none⟩ = some vo := h0 4 _ rfl
  have c5 : w.cell? ⟨bx, 5, none⟩ = some vc := h0 5 _ rfl
  have hbx : bx < w.heap.size := World.block_lt_of_cell? w _ c0
  have hbl : bl < w.heap.size := World.block_lt_of_cell? w _ h1
  clear h0
  have hm := fun W (hW : Below w.heap.size w W) => may_c x _ vl i W (HX.below hW) hi (hl.below hW)
  have HM := Lib.hid hm
  clear hm hl HX
  unfold insV at *
  go_enter Tryz.func108, Tryz.ntmps108
  go_wp2_with (go_at_call 109; refine (HM.out _ (by (repeat' (first | (with_reducible exact Below.refl _ _) | (with_reducible refine below_alloc ?_) | (with_reducible refine below_drew ?_) | (with_reducible refine below_drewN ?_) | (with_reducible refine below_set (by simp; omega) ?_) | (with_reducible refine below_call (by with_reducible assumption) ?_))))).mono ?_; rintro e w1 ⟨rfl, hb⟩; obtain ⟨hc, hf⟩ := bcell hb; have hz := hb.size; (try simp at hz); (try have hz1 := Nat.lt_of_succ_le hz); (try have hz2 := Nat.lt_of_succ_lt hz1); (try have hz3 := Nat.lt_of_succ_lt hz2); (try have hz4 := Nat.lt_of_succ_lt hz3))
  go_ret
  exact ⟨rfl, by (repeat' (first | (with_reducible exact Below.refl _ _) | (with_reducible refine below_alloc ?_) | (with_reducible refine below_drew ?_) | (with_reducible refine below_drewN ?_) | (with_reducible refine below_set (by simp; omega) ?_) | (with_reducible refine below_call (by with_reducible assumption) ?_)))⟩

/-- An image's code is of ints. -/
def ImgOk (x : Img) : Prop := ∀ i ∈ x.code, InsOk i
theorem check1_p (x : Img) (vs : Array Value) (vl : Value) (bx bl : Nat) (w : World) (hx : ImgV w (.agg vs) x) (h0 : ∀ j v, vs[j]? = some v → w.cell? ⟨bx, j, none⟩ = some v) (h1 : w.cell? ⟨bl, 0, none⟩ = some vl) (hl : Sl encRule 4 w vl ruleOps) (hi : ImgOk x) :
    PredC Tryz.prog 108 #[.pointer (some ⟨bx, 0, none⟩), .pointer (some ⟨bl, 0, none⟩)] insV (fun i => !mayIns x i) x.code w := fun W i hm hb =>
  check1_c x vs vl bx bl i W (hx.below hb) (fun j v hv => (hb.cell (p := ⟨bx, j, none⟩) (World.block_lt_of_cell? w _ (h0 j v hv))).trans (h0 j v hv))
    ((hb.cell (p := ⟨bl, 0, none⟩) (World.block_lt_of_cell? w _ h1)).trans h1) (hl.below hb) (hi i hm)

set_option maxHeartbeats 2000000 in
theorem codeCheck_c (x : Img) (vx : Value) (w : World) (hx : ImgV w vx x) (hG : G w) (hn : x.name.size ≤ 140737488351232) (hl : x.ins.length + x.outs.length ≤ 1099511627776) (hi : ImgOk x) :
    Calls Tryz.prog 62 #[vx] w fun e w' => e = .returned (.tuple #[.int .i64 (codeCheck x).1, .int .i64 (codeCheck x).2]) ∧ Below w.heap.size w w' := by
  have HX := hx
  obtain ⟨vt, vf, vi, vo, vc, rfl, -, -, -, -, h5⟩ := hx
  have hs := fun W (hW : Below w.heap.size w W) => sound_c x _ W (HX.below hW) (hG.below hW) hn hl
  have HS := Lib.hid hs
  clear hs
  cases k1 : isSound x with
  | false =>
    have HR := Lib.hid (show codeCheck x = (-1, 130) by simp [codeCheck, k1])
    go_enter Tryz.func62, Tryz.ntmps62
    go_wp2_with (go_at_call 105; refine (HS.out _ (by (repeat' (first | (with_reducible exact Below.refl _ _) | (with_reducible refine below_alloc ?_) | (with_reducible refine below_drew ?_) | (with_reducible refine below_drewN ?_) | (with_reducible refine below_set (by simp; omega) ?_) | (with_reducible refine below_call (by with_reducible assumption) ?_))))).mono ?_; rintro e w1 ⟨rfl, hb⟩; obtain ⟨hc, hf⟩ := bcell hb; have hz := hb.size; (try simp at hz); (try have hz1 := Nat.lt_of_succ_le hz); (try have hz2 := Nat.lt_of_succ_lt hz1); (try have hz3 := Nat.lt_of_succ_lt hz2); (try have hz4 := Nat.lt_of_succ_lt hz3))
    go_ret2
    exact ⟨by rw [HR.out]; rfl, by (repeat' (first | (with_reducible exact Below.refl _ _) | (with_reducible refine below_alloc ?_) | (with_reducible refine below_drew ?_) | (with_reducible refine below_drewN ?_) | (with_reducible refine below_set (by simp; omega) ?_) | (with_reducible refine below_call (by with_reducible assumption) ?_)))⟩
  | true =>
    have HR := Lib.hid (show codeCheck x = if 0 ≤ idxP (fun i => !mayIns x i) x.code 0 then (idxP (fun i => !mayIns x i) x.code 0, 130) else (0, 0) by simp [codeCheck, k1])
    go_enter Tryz.func62, Tryz.ntmps62
    go_wp2_with (first | (go_at_call 105; refine (HS.out _ (by (repeat' (first | (with_reducible exact Below.refl _ _) | (with_reducible refine below_alloc ?_) | (with_reducible refine below_drew ?_) | (with_reducible refine below_drewN ?_) | (with_reducible refine below_set (by simp; omega) ?_) | (with_reducible refine below_call (by with_reducible assumption) ?_))))).mono ?_; rintro e w1 ⟨rfl, hbA⟩; obtain ⟨hcA, hfA⟩ := bcell hbA; have hzA := hbA.size; (try simp at hzA); (try have hw0A : w.heap.size < w1.heap.size := by omega); (try have hw1A : w.heap.size + 1 < w1.heap.size := by omega); (try have hw2A : w.heap.size + 1 + 1 < w1.heap.size := by omega)) | (go_at_call 106; refine (rules_c _).mono ?_; rintro e w2 ⟨vl, rfl, hSl, hbB⟩; have hSl0 := hSl; obtain ⟨Al, cl, rfl, -, -, -⟩ := hSl; obtain ⟨hcB, hfB⟩ := bcell hbB; have hzB := hbB.size; (try simp at hzB); (try have hw0B : w.heap.size < w2.heap.size := by omega); (try have hw1B : w.heap.size + 1 < w2.heap.size := by omega); (try have hw2B : w.heap.size + 1 + 1 < w2.heap.size := by omega)))
    have hI : Calls Tryz.prog 107 #[vc, .func (.func 108) #[] #[.pointer (some ⟨w.heap.size, 0, none⟩), .pointer (some ⟨w2.heap.size, 0, none⟩)]] (w2.alloc (.cells #[.slice Al ruleOps.length cl] 173)) fun e w' => e = .returned (.int .i64 (idxP (fun i => !mayIns x i) x.code 0)) ∧ Below (w2.alloc (.cells #[.slice Al ruleOps.length cl] 173)).heap.size (w2.alloc (.cells #[.slice Al ruleOps.length cl] 173)) w' := by
      refine indexFunc_ins _ _ _ (enters_of Tryz.func108 (by kernel_rfl) rfl) _ _ _ (check1_p x #[.string x.name, vt, vf, vi, vo, vc] (.slice Al ruleOps.length cl) _ _ _ (HX.below (by (repeat' (first | (with_reducible exact Below.refl _ _) | (with_reducible refine below_alloc ?_) | (with_reducible refine below_drew ?_) | (with_reducible refine below_drewN ?_) | (with_reducible refine below_set (by simp; omega) ?_) | (with_reducible refine below_call (by with_reducible assumption) ?_))))) (fun j v hv => ?_) (by simp) (hSl0.below (below_alloc (Below.refl _ _))) hi) (h5.below (by (repeat' (first | (with_reducible exact Below.refl _ _) | (with_reducible refine below_alloc ?_) | (with_reducible refine below_drew ?_) | (with_reducible refine below_drewN ?_) | (with_reducible refine below_set (by simp; omega) ?_) | (with_reducible refine below_call (by with_reducible assumption) ?_)))))
      rw [World.cell?_alloc_lt _ _ _ (by simp; omega), hcB _ _ (by omega), hcA _ _ (by simp), World.cell?_alloc_at _ _ _ _ rfl]
      exact hv
    generalize idxP (fun i => !mayIns x i) x.code 0 = q at *
    by_cases hq : 0 ≤ q
    · go_wp2_with (go_at_call 107; refine hI.mono ?_; rintro e w3 ⟨rfl, hbC⟩)
      go_ret2
      exact ⟨by rw [HR.out, if_pos hq]; rfl, by (repeat' (first | (with_reducible exact Below.refl _ _) | (with_reducible refine below_alloc ?_) | (with_reducible refine below_drew ?_) | (with_reducible refine below_drewN ?_) | (with_reducible refine below_set (by simp; omega) ?_) | (with_reducible refine below_call (by with_reducible assumption) ?_)))⟩
    · go_wp2_with (go_at_call 107; refine hI.mono ?_; rintro e w3 ⟨rfl, hbC⟩)
      go_ret2
      exact ⟨by rw [HR.out, if_neg (by omega)]; rfl, by (repeat' (first | (with_reducible exact Below.refl _ _) | (with_reducible refine below_alloc ?_) | (with_reducible refine below_drew ?_) | (with_reducible refine below_drewN ?_) | (with_reducible refine below_set (by simp; omega) ?_) | (with_reducible refine below_call (by with_reducible assumption) ?_)))⟩
end Go.Proofs.YtefpgjocfgeenaaGreatDoor
