/- (*stack).step and goes of package verify: what each call does. -/
import Derived.Test.YtefpgjocfgeenaaGreatDoorStack
import Derived.Test.YtefpgjocfgeenaaGreatDoorNum2
namespace Go.Proofs.YtefpgjocfgeenaaGreatDoor
open Go.RowKit Cap
set_option maxRecDepth 100000

/-- What a step leaves: the new stack, or a false. -/
inductive StepR (b : Nat) (w : World) : Option (List Int) → Ending → World → Prop
  | no {w' : World} (h : Chg b w w') : StepR b w none (.returned (.bool false)) w'
  | yes {st : List Int} {w' : World} (h : PutB b (stk st) 122 w w') : StepR b w (some st) (.returned (.bool true)) w'
theorem nb_of {w0 : World} {v : Value} {xs : List Int} {b : Nat} (h : Sl encI 1 w0 v xs) (hx : xs ≠ []) (hb : w0.heap.size ≤ b) : ∀ A n c a, v = .slice A n c → A = some a → a.block ≠ b := by
  intro A n c a hv ha
  obtain ⟨A', c', e, -, -, h3⟩ := h
  cases xs with
  | nil => exact absurd rfl hx
  | cons y ys =>
    obtain ⟨b', off, e', hlt, -⟩ := h3 0 y rfl
    subst hv
    injection e with e1 _ _
    rw [e1, e'] at ha
    injection ha with ha
    subst ha
    show b' ≠ b
    omega
theorem types_at {w0 : World} {vx : Value} {x : Img} {a : Int} (h : ImgV w0 vx x) (h0 : 0 ≤ a) (h1 : a < x.types.length) :
    ∃ bt offt ct vf vi vo vc, vx = .agg #[.string x.name, .slice (some ⟨bt, offt, none⟩) x.types.length ct, vf, vi, vo, vc] ∧ bt < w0.heap.size ∧ w0.cell? ⟨bt, offt + a.toNat, none⟩ = some (.int .i64 (tyAt x a)) := by
  obtain ⟨vt, vf, vi, vo, vc, rfl, ht, -⟩ := h
  obtain ⟨A, c, rfl, -, -, h3⟩ := ht
  have hlt : a.toNat < x.types.length := by omega
  obtain ⟨b, off, rfl, hb, hc⟩ := h3 a.toNat _ (List.getElem?_eq_getElem hlt)
  refine ⟨b, off, c, vf, vi, vo, vc, rfl, hb, ?_⟩
  have := hc 0 _ rfl
  simp only [Nat.mul_one, Nat.add_zero] at this
  rw [this, tyAt, List.getD_eq_getElem?_getD, List.getElem?_eq_getElem hlt]
  rfl
theorem pcell {b : Nat} {cs : List Value} {T : TypeId} {W w1 : World} (h : PutB b cs T W w1) : ∀ k o, k < W.heap.size → k ≠ b → w1.cell? ⟨k, o, none⟩ = W.cell? ⟨k, o, none⟩ :=
  fun k o hk hb => World.cell?_of_block (a := ⟨k, o, none⟩) (h.block k hk hb)
/-- A literal of ints, laid just now. -/
theorem pop_lit (st : List Int) (t : Int) (of : List Int) (cells : Array Value) (n : Nat) (B b : Nat) (w : World) (hb : w.heap[b]? = some (.cells (stk (st ++ [t])).toArray 122 (0, 0))) (hl : st.length < 64)
    (hc : cells.toList = of.flatMap encI) (hn : n = of.length) (hB : B = w.heap.size) (h9 : of.length ≤ 9223372036854775807) :
    Calls Tryz.prog 111 #[.pointer (some ⟨b, 0, none⟩), .slice (some ⟨B, 0, none⟩) n n] (w.alloc (.cells cells 3)) fun e w' => e = .returned (.bool (anyEq of t)) ∧ PutB b (stk st) 122 (w.alloc (.cells cells 3)) w' := by
  refine pop_c st t of _ b _ (hp_alloc hb) hl (Sl.lit' encI_len w B cells _ n of hB hc hn h9) (fun A m c a hv ha => ?_)
  injection hv with e1 _ _
  rw [← e1] at ha
  injection ha with ha
  subst ha
  have := (Array.getElem?_eq_some_iff.1 hb).1
  show B ≠ b
  omega
theorem pop_lit0 (of : List Int) (cells : Array Value) (n : Nat) (B b : Nat) (w : World) (hb : w.heap[b]? = some (.cells (stk []).toArray 122 (0, 0)))
    (hc : cells.toList = of.flatMap encI) (hn : n = of.length) (hB : B = w.heap.size) (h9 : of.length ≤ 9223372036854775807) :
    Calls Tryz.prog 111 #[.pointer (some ⟨b, 0, none⟩), .slice (some ⟨B, 0, none⟩) n n] (w.alloc (.cells cells 3)) fun e w' => e = .returned (.bool false) ∧ w.alloc (.cells cells 3) = w' :=
  pop_none of _ b _ (hp_alloc hb) (Sl.lit' encI_len w B cells _ n of hB hc hn h9)

set_option maxHeartbeats 1000000 in
theorem step_1 (x : Img) (vx : Value) (a n : Int) (bb : Int) (st : List Int) (b : Nat) (w : World) (hx : ∃ vt vf vi vo vc, vx = .agg #[.string x.name, vt, vf, vi, vo, vc])
    (hb : w.heap[b]? = some (.cells (stk st).toArray 122 (0, 0))) (hl : st.length ≤ 64) :
    Calls Tryz.prog 64 #[.pointer (some ⟨b, 0, none⟩), vx, insV ⟨1, a, bb, n⟩] w (StepR b w (stepS x ⟨1, a, bb, n⟩ st)) := by
  obtain ⟨vt, vf, vi, vo, vc, rfl⟩ := hx
  have HB := Lib.hid hb
  clear hb
  unfold insV
  by_cases h : st.length = 64
  · rw [show stepS x ⟨1, a, bb, n⟩ st = none from pushS_no h]
    have HL := Lib.hid h
    clear h
    go_enter Tryz.func64, Tryz.ntmps64
    go_wp2_with (go_at_call 110; refine (push_full st _ b _ (by (repeat' (first | (with_reducible exact HB.out) | (with_reducible exact PutB.at_ (by with_reducible assumption)) | (with_reducible refine hp_alloc ?_) | (with_reducible refine hp_drew ?_) | (with_reducible refine hp_below (by with_reducible assumption) ?_)))) HL.out).mono ?_; rintro e w1 ⟨rfl, rfl⟩)
    go_ret
    exact StepR.no (by (repeat' (first | (with_reducible exact PutB.refl HB.out) | (with_reducible exact Chg.refl _ _) | (with_reducible refine PutB.alloc ?_) | (with_reducible refine PutB.drew ?_) | (with_reducible refine Chg.alloc ?_) | (with_reducible refine Chg.drew ?_) | (with_reducible refine PutB.call (by with_reducible assumption) ?_) | (with_reducible refine PutB.then (by with_reducible assumption) ?_) | (with_reducible refine Chg.call (by with_reducible assumption) ?_) | (with_reducible refine Chg.put (by with_reducible assumption) ?_))))
  · rw [show stepS x ⟨1, a, bb, n⟩ st = some (st ++ [a]) from pushS_yes (by omega)]
    go_enter Tryz.func64, Tryz.ntmps64
    go_wp2_with (go_at_call 110; refine (push_ok st _ b _ (by (repeat' (first | (with_reducible exact HB.out) | (with_reducible exact PutB.at_ (by with_reducible assumption)) | (with_reducible refine hp_alloc ?_) | (with_reducible refine hp_drew ?_) | (with_reducible refine hp_below (by with_reducible assumption) ?_)))) (by omega)).mono ?_; rintro e w1 ⟨rfl, hP⟩)
    go_ret
    exact StepR.yes (by (repeat' (first | (with_reducible exact PutB.refl HB.out) | (with_reducible exact Chg.refl _ _) | (with_reducible refine PutB.alloc ?_) | (with_reducible refine PutB.drew ?_) | (with_reducible refine Chg.alloc ?_) | (with_reducible refine Chg.drew ?_) | (with_reducible refine PutB.call (by with_reducible assumption) ?_) | (with_reducible refine PutB.then (by with_reducible assumption) ?_) | (with_reducible refine Chg.call (by with_reducible assumption) ?_) | (with_reducible refine Chg.put (by with_reducible assumption) ?_))))
-- STEPS
set_option maxHeartbeats 1000000 in
theorem step_2 (x : Img) (vx : Value) (a bb n : Int) (st : List Int) (b : Nat) (w0 w : World) (hx : ImgV w0 vx x) (h0 : Below w0.heap.size w0 w) (hb0 : w0.heap.size ≤ b) (ha : 0 ≤ a) (ha2 : a < x.types.length)
    (hb : w.heap[b]? = some (.cells (stk st).toArray 122 (0, 0))) (hl : st.length ≤ 64) :
    Calls Tryz.prog 64 #[.pointer (some ⟨b, 0, none⟩), vx, insV ⟨2, a, bb, n⟩] w (StepR b w (stepS x ⟨2, a, bb, n⟩ st)) := by
  obtain ⟨bt, offt, ct, vf, vi, vo, vc, rfl, hbt, hct⟩ := types_at hx ha ha2
  have hcw := fun (W : World) (hW : Below w0.heap.size w0 W) => (hW.cell (p := ⟨bt, offt + a.toNat, none⟩) hbt).trans hct
  have c0 := hcw w h0
  have HCW := Lib.hid hcw
  have hbtb : bt ≠ b := by omega
  have hbtw : bt < w.heap.size := by have := h0.size; omega
  have hbt1 : bt < w.heap.size + 1 := by omega
  have hbt2 : bt < w.heap.size + 1 + 1 := by omega
  have hbt3 : bt < w.heap.size + 1 + 1 + 1 := by omega
  have hbt4 : bt < w.heap.size + 1 + 1 + 1 + 1 := by omega
  clear hct hcw hx
  have hbw : b < w.heap.size := (Array.getElem?_eq_some_iff.1 hb).1
  have hq0 : w.heap.size ≠ b := by omega
  have hq1 : w.heap.size + 1 ≠ b := by omega
  have HB := Lib.hid hb
  clear hb
  unfold insV
  by_cases h : st.length = 64
  · have HL := Lib.hid h
    clear h
    rw [show stepS x ⟨2, a, bb, n⟩ st = none from by exact pushS_no HL.out]
    go_enter Tryz.func64, Tryz.ntmps64
    go_wp2_with (first | (go_at_call 110; refine (push_full st _ b _ (by (repeat' (first | (with_reducible exact HB.out) | (with_reducible exact PutB.at_ (by with_reducible assumption)) | (with_reducible refine hp_alloc ?_) | (with_reducible refine hp_drew ?_) | (with_reducible refine hp_below (by with_reducible assumption) ?_)))) HL.out).mono ?_; rintro e w1 ⟨rfl, rfl⟩))
    go_ret
    exact StepR.no (by (repeat' (first | (with_reducible exact PutB.refl HB.out) | (with_reducible exact Chg.refl _ _) | (with_reducible refine PutB.alloc ?_) | (with_reducible refine PutB.drew ?_) | (with_reducible refine Chg.alloc ?_) | (with_reducible refine Chg.drew ?_) | (with_reducible refine PutB.call (by with_reducible assumption) ?_) | (with_reducible refine PutB.then (by with_reducible assumption) ?_) | (with_reducible refine Chg.call (by with_reducible assumption) ?_) | (with_reducible refine Chg.put (by with_reducible assumption) ?_))))
  · rw [show stepS x ⟨2, a, bb, n⟩ st = some (st ++ [tyAt x a]) from by exact pushS_yes (by omega)]
    go_enter Tryz.func64, Tryz.ntmps64
    go_wp2_with (first | (go_at_call 110; refine (push_ok st _ b _ (by (repeat' (first | (with_reducible exact HB.out) | (with_reducible exact PutB.at_ (by with_reducible assumption)) | (with_reducible refine hp_alloc ?_) | (with_reducible refine hp_drew ?_) | (with_reducible refine hp_below (by with_reducible assumption) ?_)))) (by omega)).mono ?_; rintro e w9 ⟨rfl, hP9⟩))
    go_ret
    exact StepR.yes (by (repeat' (first | (with_reducible exact PutB.refl HB.out) | (with_reducible exact Chg.refl _ _) | (with_reducible refine PutB.alloc ?_) | (with_reducible refine PutB.drew ?_) | (with_reducible refine Chg.alloc ?_) | (with_reducible refine Chg.drew ?_) | (with_reducible refine PutB.call (by with_reducible assumption) ?_) | (with_reducible refine PutB.then (by with_reducible assumption) ?_) | (with_reducible refine Chg.call (by with_reducible assumption) ?_) | (with_reducible refine Chg.put (by with_reducible assumption) ?_))))
set_option maxHeartbeats 1000000 in
theorem step_3 (x : Img) (vx : Value) (a bb n : Int) (st : List Int) (b : Nat) (w0 w : World) (hx : ImgV w0 vx x) (h0 : Below w0.heap.size w0 w) (hb0 : w0.heap.size ≤ b) (ha : 0 ≤ a) (ha2 : a < x.types.length)
    (hb : w.heap[b]? = some (.cells (stk st).toArray 122 (0, 0))) (hl : st.length ≤ 64) :
    Calls Tryz.prog 64 #[.pointer (some ⟨b, 0, none⟩), vx, insV ⟨3, a, bb, n⟩] w (StepR b w (stepS x ⟨3, a, bb, n⟩ st)) := by
  obtain ⟨bt, offt, ct, vf, vi, vo, vc, rfl, hbt, hct⟩ := types_at hx ha ha2
  have hcw := fun (W : World) (hW : Below w0.heap.size w0 W) => (hW.cell (p := ⟨bt, offt + a.toNat, none⟩) hbt).trans hct
  have c0 := hcw w h0
  have HCW := Lib.hid hcw
  have hbtb : bt ≠ b := by omega
  have hbtw : bt < w.heap.size := by have := h0.size; omega
  have hbt1 : bt < w.heap.size + 1 := by omega
  have hbt2 : bt < w.heap.size + 1 + 1 := by omega
  have hbt3 : bt < w.heap.size + 1 + 1 + 1 := by omega
  have hbt4 : bt < w.heap.size + 1 + 1 + 1 + 1 := by omega
  clear hct hcw hx
  have hbw : b < w.heap.size := (Array.getElem?_eq_some_iff.1 hb).1
  have hq0 : w.heap.size ≠ b := by omega
  have hq1 : w.heap.size + 1 ≠ b := by omega
  have HB := Lib.hid hb
  clear hb
  unfold insV
  rcases snoc_cases st with rfl | ⟨s, t, rfl⟩
  · rw [show stepS x ⟨3, a, bb, n⟩ [] = none from by (rw [stepS_3]; rfl)]
    go_enter Tryz.func64, Tryz.ntmps64
    go_wp2_with (first | (go_at_call 111; refine (pop_lit0 [tyAt x a] _ _ _ b _ (by (repeat' (first | (with_reducible exact HB.out) | (with_reducible exact PutB.at_ (by with_reducible assumption)) | (with_reducible refine hp_alloc ?_) | (with_reducible refine hp_drew ?_) | (with_reducible refine hp_below (by with_reducible assumption) ?_)))) (by rfl) (by rfl) (by first | rfl | simp) (by simp)).mono ?_; rintro e w1 ⟨rfl, rfl⟩))
    go_ret
    exact StepR.no (by (repeat' (first | (with_reducible exact PutB.refl HB.out) | (with_reducible exact Chg.refl _ _) | (with_reducible refine PutB.alloc ?_) | (with_reducible refine PutB.drew ?_) | (with_reducible refine Chg.alloc ?_) | (with_reducible refine Chg.drew ?_) | (with_reducible refine PutB.call (by with_reducible assumption) ?_) | (with_reducible refine PutB.then (by with_reducible assumption) ?_) | (with_reducible refine Chg.call (by with_reducible assumption) ?_) | (with_reducible refine Chg.put (by with_reducible assumption) ?_))))
  have hls : s.length < 64 := by simp at hl; omega
  cases hq : anyEq [tyAt x a] t
  · rw [show stepS x ⟨3, a, bb, n⟩ (s ++ [t]) = none from by (rw [stepS_3]; exact popS_no hq)]
    go_enter Tryz.func64, Tryz.ntmps64
    go_wp2_with (first | (go_at_call 111; refine (pop_lit s t [tyAt x a] _ _ _ b _ (by (repeat' (first | (with_reducible exact HB.out) | (with_reducible exact PutB.at_ (by with_reducible assumption)) | (with_reducible refine hp_alloc ?_) | (with_reducible refine hp_drew ?_) | (with_reducible refine hp_below (by with_reducible assumption) ?_)))) (by omega) (by rfl) (by rfl) (by first | rfl | simp) (by simp)).mono ?_; rintro e w1 ⟨rfl, hP1⟩; have hqhP1 := pcell hP1; have hzhP1 := hP1.size; (try simp at hzhP1); (try have hw0hP1 : w.heap.size < w1.heap.size := by omega); (try have hw1hP1 : w.heap.size + 1 < w1.heap.size := by omega)))
    go_ret
    exact StepR.no (by (repeat' (first | (with_reducible exact PutB.refl HB.out) | (with_reducible exact Chg.refl _ _) | (with_reducible refine PutB.alloc ?_) | (with_reducible refine PutB.drew ?_) | (with_reducible refine Chg.alloc ?_) | (with_reducible refine Chg.drew ?_) | (with_reducible refine PutB.call (by with_reducible assumption) ?_) | (with_reducible refine PutB.then (by with_reducible assumption) ?_) | (with_reducible refine Chg.call (by with_reducible assumption) ?_) | (with_reducible refine Chg.put (by with_reducible assumption) ?_))))
  rw [show stepS x ⟨3, a, bb, n⟩ (s ++ [t]) = some s from by (rw [stepS_3]; exact popS_yes hq)]
  go_enter Tryz.func64, Tryz.ntmps64
  go_wp2_with (first | (go_at_call 111; refine (pop_lit s t [tyAt x a] _ _ _ b _ (by (repeat' (first | (with_reducible exact HB.out) | (with_reducible exact PutB.at_ (by with_reducible assumption)) | (with_reducible refine hp_alloc ?_) | (with_reducible refine hp_drew ?_) | (with_reducible refine hp_below (by with_reducible assumption) ?_)))) (by omega) (by rfl) (by rfl) (by first | rfl | simp) (by simp)).mono ?_; rintro e w1 ⟨rfl, hP1⟩; have hqhP1 := pcell hP1; have hzhP1 := hP1.size; (try simp at hzhP1); (try have hw0hP1 : w.heap.size < w1.heap.size := by omega); (try have hw1hP1 : w.heap.size + 1 < w1.heap.size := by omega)))
  go_ret
  exact StepR.yes (by (repeat' (first | (with_reducible exact PutB.refl HB.out) | (with_reducible exact Chg.refl _ _) | (with_reducible refine PutB.alloc ?_) | (with_reducible refine PutB.drew ?_) | (with_reducible refine Chg.alloc ?_) | (with_reducible refine Chg.drew ?_) | (with_reducible refine PutB.call (by with_reducible assumption) ?_) | (with_reducible refine PutB.then (by with_reducible assumption) ?_) | (with_reducible refine Chg.call (by with_reducible assumption) ?_) | (with_reducible refine Chg.put (by with_reducible assumption) ?_))))
set_option maxHeartbeats 1000000 in
theorem step_4 (x : Img) (vx : Value) (a bb n : Int) (st : List Int) (b : Nat) (w0 w : World) (hx : ImgV w0 vx x) (h0 : Below w0.heap.size w0 w) (hb0 : w0.heap.size ≤ b) (ha : 0 ≤ a) (ha2 : a < x.types.length)
    (hb : w.heap[b]? = some (.cells (stk st).toArray 122 (0, 0))) (hl : st.length ≤ 64) :
    Calls Tryz.prog 64 #[.pointer (some ⟨b, 0, none⟩), vx, insV ⟨4, a, bb, n⟩] w (StepR b w (stepS x ⟨4, a, bb, n⟩ st)) := by
  obtain ⟨bt, offt, ct, vf, vi, vo, vc, rfl, hbt, hct⟩ := types_at hx ha ha2
  have hcw := fun (W : World) (hW : Below w0.heap.size w0 W) => (hW.cell (p := ⟨bt, offt + a.toNat, none⟩) hbt).trans hct
  have c0 := hcw w h0
  have HCW := Lib.hid hcw
  have hbtb : bt ≠ b := by omega
  have hbtw : bt < w.heap.size := by have := h0.size; omega
  have hbt1 : bt < w.heap.size + 1 := by omega
  have hbt2 : bt < w.heap.size + 1 + 1 := by omega
  have hbt3 : bt < w.heap.size + 1 + 1 + 1 := by omega
  have hbt4 : bt < w.heap.size + 1 + 1 + 1 + 1 := by omega
  clear hct hcw hx
  have hbw : b < w.heap.size := (Array.getElem?_eq_some_iff.1 hb).1
  have hq0 : w.heap.size ≠ b := by omega
  have hq1 : w.heap.size + 1 ≠ b := by omega
  have HB := Lib.hid hb
  clear hb
  unfold insV
  rcases snoc_cases st with rfl | ⟨s, t, rfl⟩
  · rw [show stepS x ⟨4, a, bb, n⟩ [] = none from by (rw [stepS_4]; rfl)]
    go_enter Tryz.func64, Tryz.ntmps64
    go_wp2_with (first | (go_at_call 111; refine (pop_lit0 [2, 3] _ _ _ b _ (by (repeat' (first | (with_reducible exact HB.out) | (with_reducible exact PutB.at_ (by with_reducible assumption)) | (with_reducible refine hp_alloc ?_) | (with_reducible refine hp_drew ?_) | (with_reducible refine hp_below (by with_reducible assumption) ?_)))) (by rfl) (by rfl) (by first | rfl | simp) (by simp)).mono ?_; rintro e w1 ⟨rfl, rfl⟩))
    go_ret
    exact StepR.no (by (repeat' (first | (with_reducible exact PutB.refl HB.out) | (with_reducible exact Chg.refl _ _) | (with_reducible refine PutB.alloc ?_) | (with_reducible refine PutB.drew ?_) | (with_reducible refine Chg.alloc ?_) | (with_reducible refine Chg.drew ?_) | (with_reducible refine PutB.call (by with_reducible assumption) ?_) | (with_reducible refine PutB.then (by with_reducible assumption) ?_) | (with_reducible refine Chg.call (by with_reducible assumption) ?_) | (with_reducible refine Chg.put (by with_reducible assumption) ?_))))
  have hls : s.length < 64 := by simp at hl; omega
  cases hq : anyEq [2, 3] t
  · rw [show stepS x ⟨4, a, bb, n⟩ (s ++ [t]) = none from by (rw [stepS_4, popS_no hq]; rfl)]
    go_enter Tryz.func64, Tryz.ntmps64
    go_wp2_with (first | (go_at_call 111; refine (pop_lit s t [2, 3] _ _ _ b _ (by (repeat' (first | (with_reducible exact HB.out) | (with_reducible exact PutB.at_ (by with_reducible assumption)) | (with_reducible refine hp_alloc ?_) | (with_reducible refine hp_drew ?_) | (with_reducible refine hp_below (by with_reducible assumption) ?_)))) (by omega) (by rfl) (by rfl) (by first | rfl | simp) (by simp)).mono ?_; rintro e w1 ⟨rfl, hP1⟩; have hqhP1 := pcell hP1; have hzhP1 := hP1.size; (try simp at hzhP1); (try have hw0hP1 : w.heap.size < w1.heap.size := by omega); (try have hw1hP1 : w.heap.size + 1 < w1.heap.size := by omega)))
    go_ret
    exact StepR.no (by (repeat' (first | (with_reducible exact PutB.refl HB.out) | (with_reducible exact Chg.refl _ _) | (with_reducible refine PutB.alloc ?_) | (with_reducible refine PutB.drew ?_) | (with_reducible refine Chg.alloc ?_) | (with_reducible refine Chg.drew ?_) | (with_reducible refine PutB.call (by with_reducible assumption) ?_) | (with_reducible refine PutB.then (by with_reducible assumption) ?_) | (with_reducible refine Chg.call (by with_reducible assumption) ?_) | (with_reducible refine Chg.put (by with_reducible assumption) ?_))))
  rw [show stepS x ⟨4, a, bb, n⟩ (s ++ [t]) = some (s ++ [tyAt x a]) from by (rw [stepS_4, popS_yes hq]; exact pushS_yes hls)]
  go_enter Tryz.func64, Tryz.ntmps64
  go_wp2_with (first | (go_at_call 111; refine (pop_lit s t [2, 3] _ _ _ b _ (by (repeat' (first | (with_reducible exact HB.out) | (with_reducible exact PutB.at_ (by with_reducible assumption)) | (with_reducible refine hp_alloc ?_) | (with_reducible refine hp_drew ?_) | (with_reducible refine hp_below (by with_reducible assumption) ?_)))) (by omega) (by rfl) (by rfl) (by first | rfl | simp) (by simp)).mono ?_; rintro e w1 ⟨rfl, hP1⟩; have hqhP1 := pcell hP1; have hzhP1 := hP1.size; (try simp at hzhP1); (try have hw0hP1 : w.heap.size < w1.heap.size := by omega); (try have hw1hP1 : w.heap.size + 1 < w1.heap.size := by omega)) | (go_at_call 110; refine (push_ok s _ b _ (by (repeat' (first | (with_reducible exact HB.out) | (with_reducible exact PutB.at_ (by with_reducible assumption)) | (with_reducible refine hp_alloc ?_) | (with_reducible refine hp_drew ?_) | (with_reducible refine hp_below (by with_reducible assumption) ?_)))) (by omega)).mono ?_; rintro e w9 ⟨rfl, hP9⟩))
  go_ret
  exact StepR.yes (by (repeat' (first | (with_reducible exact PutB.refl HB.out) | (with_reducible exact Chg.refl _ _) | (with_reducible refine PutB.alloc ?_) | (with_reducible refine PutB.drew ?_) | (with_reducible refine Chg.alloc ?_) | (with_reducible refine Chg.drew ?_) | (with_reducible refine PutB.call (by with_reducible assumption) ?_) | (with_reducible refine PutB.then (by with_reducible assumption) ?_) | (with_reducible refine Chg.call (by with_reducible assumption) ?_) | (with_reducible refine Chg.put (by with_reducible assumption) ?_))))
set_option maxHeartbeats 1000000 in
theorem step_5 (x : Img) (vx : Value) (a bb n : Int) (st : List Int) (b : Nat) (w0 w : World) (hx : ImgV w0 vx x) (h0 : Below w0.heap.size w0 w) (hb0 : w0.heap.size ≤ b) (ha : 0 ≤ a) (ha2 : a < x.types.length)
    (hb : w.heap[b]? = some (.cells (stk st).toArray 122 (0, 0))) (hl : st.length ≤ 64) :
    Calls Tryz.prog 64 #[.pointer (some ⟨b, 0, none⟩), vx, insV ⟨5, a, bb, n⟩] w (StepR b w (stepS x ⟨5, a, bb, n⟩ st)) := by
  obtain ⟨bt, offt, ct, vf, vi, vo, vc, rfl, hbt, hct⟩ := types_at hx ha ha2
  have hcw := fun (W : World) (hW : Below w0.heap.size w0 W) => (hW.cell (p := ⟨bt, offt + a.toNat, none⟩) hbt).trans hct
  have c0 := hcw w h0
  have HCW := Lib.hid hcw
  have hbtb : bt ≠ b := by omega
  have hbtw : bt < w.heap.size := by have := h0.size; omega
  have hbt1 : bt < w.heap.size + 1 := by omega
  have hbt2 : bt < w.heap.size + 1 + 1 := by omega
  have hbt3 : bt < w.heap.size + 1 + 1 + 1 := by omega
  have hbt4 : bt < w.heap.size + 1 + 1 + 1 + 1 := by omega
  clear hct hcw hx
  have hbw : b < w.heap.size := (Array.getElem?_eq_some_iff.1 hb).1
  have hq0 : w.heap.size ≠ b := by omega
  have hq1 : w.heap.size + 1 ≠ b := by omega
  have HB := Lib.hid hb
  clear hb
  unfold insV
  rcases snoc_cases st with rfl | ⟨s, t, rfl⟩
  · rw [show stepS x ⟨5, a, bb, n⟩ [] = none from by (rw [stepS_5]; rfl)]
    go_enter Tryz.func64, Tryz.ntmps64
    go_wp2_with (first | (go_at_call 111; refine (pop_lit0 [tyAt x a] _ _ _ b _ (by (repeat' (first | (with_reducible exact HB.out) | (with_reducible exact PutB.at_ (by with_reducible assumption)) | (with_reducible refine hp_alloc ?_) | (with_reducible refine hp_drew ?_) | (with_reducible refine hp_below (by with_reducible assumption) ?_)))) (by rfl) (by rfl) (by first | rfl | simp) (by simp)).mono ?_; rintro e w1 ⟨rfl, rfl⟩))
    go_ret
    exact StepR.no (by (repeat' (first | (with_reducible exact PutB.refl HB.out) | (with_reducible exact Chg.refl _ _) | (with_reducible refine PutB.alloc ?_) | (with_reducible refine PutB.drew ?_) | (with_reducible refine Chg.alloc ?_) | (with_reducible refine Chg.drew ?_) | (with_reducible refine PutB.call (by with_reducible assumption) ?_) | (with_reducible refine PutB.then (by with_reducible assumption) ?_) | (with_reducible refine Chg.call (by with_reducible assumption) ?_) | (with_reducible refine Chg.put (by with_reducible assumption) ?_))))
  have hls : s.length < 64 := by simp at hl; omega
  cases hq : anyEq [tyAt x a] t
  · rw [show stepS x ⟨5, a, bb, n⟩ (s ++ [t]) = none from by (rw [stepS_5, popS_no hq]; rfl)]
    go_enter Tryz.func64, Tryz.ntmps64
    go_wp2_with (first | (go_at_call 111; refine (pop_lit s t [tyAt x a] _ _ _ b _ (by (repeat' (first | (with_reducible exact HB.out) | (with_reducible exact PutB.at_ (by with_reducible assumption)) | (with_reducible refine hp_alloc ?_) | (with_reducible refine hp_drew ?_) | (with_reducible refine hp_below (by with_reducible assumption) ?_)))) (by omega) (by rfl) (by rfl) (by first | rfl | simp) (by simp)).mono ?_; rintro e w1 ⟨rfl, hP1⟩; have hqhP1 := pcell hP1; have hzhP1 := hP1.size; (try simp at hzhP1); (try have hw0hP1 : w.heap.size < w1.heap.size := by omega); (try have hw1hP1 : w.heap.size + 1 < w1.heap.size := by omega)))
    go_ret
    exact StepR.no (by (repeat' (first | (with_reducible exact PutB.refl HB.out) | (with_reducible exact Chg.refl _ _) | (with_reducible refine PutB.alloc ?_) | (with_reducible refine PutB.drew ?_) | (with_reducible refine Chg.alloc ?_) | (with_reducible refine Chg.drew ?_) | (with_reducible refine PutB.call (by with_reducible assumption) ?_) | (with_reducible refine PutB.then (by with_reducible assumption) ?_) | (with_reducible refine Chg.call (by with_reducible assumption) ?_) | (with_reducible refine Chg.put (by with_reducible assumption) ?_))))
  rcases snoc_cases s with rfl | ⟨u, v, rfl⟩
  · rw [show stepS x ⟨5, a, bb, n⟩ ([] ++ [t]) = none from by (rw [stepS_5, popS_yes hq]; rfl)]
    go_enter Tryz.func64, Tryz.ntmps64
    go_wp2_with (first | (go_at_call 111; refine (pop_lit [] t [tyAt x a] _ _ _ b _ (by (repeat' (first | (with_reducible exact HB.out) | (with_reducible exact PutB.at_ (by with_reducible assumption)) | (with_reducible refine hp_alloc ?_) | (with_reducible refine hp_drew ?_) | (with_reducible refine hp_below (by with_reducible assumption) ?_)))) (by omega) (by rfl) (by rfl) (by first | rfl | simp) (by simp)).mono ?_; rintro e w1 ⟨rfl, hP1⟩; have hqhP1 := pcell hP1; have hzhP1 := hP1.size; (try simp at hzhP1); (try have hw0hP1 : w.heap.size < w1.heap.size := by omega); (try have hw1hP1 : w.heap.size + 1 < w1.heap.size := by omega)) | (go_at_call 111; refine (pop_lit0 [2, 3] _ _ _ b _ (by (repeat' (first | (with_reducible exact HB.out) | (with_reducible exact PutB.at_ (by with_reducible assumption)) | (with_reducible refine hp_alloc ?_) | (with_reducible refine hp_drew ?_) | (with_reducible refine hp_below (by with_reducible assumption) ?_)))) (by rfl) (by rfl) (by first | rfl | simp) (by simp)).mono ?_; rintro e w1 ⟨rfl, rfl⟩))
    go_ret
    exact StepR.no (by (repeat' (first | (with_reducible exact PutB.refl HB.out) | (with_reducible exact Chg.refl _ _) | (with_reducible refine PutB.alloc ?_) | (with_reducible refine PutB.drew ?_) | (with_reducible refine Chg.alloc ?_) | (with_reducible refine Chg.drew ?_) | (with_reducible refine PutB.call (by with_reducible assumption) ?_) | (with_reducible refine PutB.then (by with_reducible assumption) ?_) | (with_reducible refine Chg.call (by with_reducible assumption) ?_) | (with_reducible refine Chg.put (by with_reducible assumption) ?_))))
  have hlu : u.length < 64 := by simp at hls; omega
  cases hq2 : anyEq [2, 3] v
  · rw [show stepS x ⟨5, a, bb, n⟩ (u ++ [v] ++ [t]) = none from by (rw [stepS_5, popS_yes hq]; exact popS_no hq2)]
    go_enter Tryz.func64, Tryz.ntmps64
    go_wp2_with (first | (go_at_call 111; first | (refine (pop_lit (u ++ [v]) t [tyAt x a] _ _ _ b _ (by (repeat' (first | (with_reducible exact HB.out) | (with_reducible refine hp_alloc ?_) | (with_reducible refine hp_drew ?_) | (with_reducible refine hp_below (by with_reducible assumption) ?_)))) (by omega) (by rfl) (by rfl) (by first | rfl | simp) (by simp)).mono ?_; rintro e w1 ⟨rfl, hP1⟩; have hqhP1 := pcell hP1; have hzhP1 := hP1.size; (try simp at hzhP1); (try have hw0hP1 : w.heap.size < w1.heap.size := by omega); (try have hw1hP1 : w.heap.size + 1 < w1.heap.size := by omega)) | (refine (pop_lit u v [2, 3] _ _ _ b _ (by (repeat' (first | (with_reducible exact PutB.at_ (by with_reducible assumption)) | (with_reducible refine hp_alloc ?_) | (with_reducible refine hp_drew ?_)))) (by omega) (by rfl) (by rfl) (by first | rfl | simp) (by simp)).mono ?_; rintro e w2 ⟨rfl, hP2⟩; have hqhP2 := pcell hP2; have hzhP2 := hP2.size; (try simp at hzhP2); (try have hw0hP2 : w.heap.size < w2.heap.size := by omega); (try have hw1hP2 : w.heap.size + 1 < w2.heap.size := by omega))))
    go_ret
    exact StepR.no (by (repeat' (first | (with_reducible exact PutB.refl HB.out) | (with_reducible exact Chg.refl _ _) | (with_reducible refine PutB.alloc ?_) | (with_reducible refine PutB.drew ?_) | (with_reducible refine Chg.alloc ?_) | (with_reducible refine Chg.drew ?_) | (with_reducible refine PutB.call (by with_reducible assumption) ?_) | (with_reducible refine PutB.then (by with_reducible assumption) ?_) | (with_reducible refine Chg.call (by with_reducible assumption) ?_) | (with_reducible refine Chg.put (by with_reducible assumption) ?_))))
  rw [show stepS x ⟨5, a, bb, n⟩ (u ++ [v] ++ [t]) = some u from by (rw [stepS_5, popS_yes hq]; exact popS_yes hq2)]
  go_enter Tryz.func64, Tryz.ntmps64
  go_wp2_with (first | (go_at_call 111; first | (refine (pop_lit (u ++ [v]) t [tyAt x a] _ _ _ b _ (by (repeat' (first | (with_reducible exact HB.out) | (with_reducible refine hp_alloc ?_) | (with_reducible refine hp_drew ?_) | (with_reducible refine hp_below (by with_reducible assumption) ?_)))) (by omega) (by rfl) (by rfl) (by first | rfl | simp) (by simp)).mono ?_; rintro e w1 ⟨rfl, hP1⟩; have hqhP1 := pcell hP1; have hzhP1 := hP1.size; (try simp at hzhP1); (try have hw0hP1 : w.heap.size < w1.heap.size := by omega); (try have hw1hP1 : w.heap.size + 1 < w1.heap.size := by omega)) | (refine (pop_lit u v [2, 3] _ _ _ b _ (by (repeat' (first | (with_reducible exact PutB.at_ (by with_reducible assumption)) | (with_reducible refine hp_alloc ?_) | (with_reducible refine hp_drew ?_)))) (by omega) (by rfl) (by rfl) (by first | rfl | simp) (by simp)).mono ?_; rintro e w2 ⟨rfl, hP2⟩; have hqhP2 := pcell hP2; have hzhP2 := hP2.size; (try simp at hzhP2); (try have hw0hP2 : w.heap.size < w2.heap.size := by omega); (try have hw1hP2 : w.heap.size + 1 < w2.heap.size := by omega))))
  go_ret
  exact StepR.yes (by (repeat' (first | (with_reducible exact PutB.refl HB.out) | (with_reducible exact Chg.refl _ _) | (with_reducible refine PutB.alloc ?_) | (with_reducible refine PutB.drew ?_) | (with_reducible refine Chg.alloc ?_) | (with_reducible refine Chg.drew ?_) | (with_reducible refine PutB.call (by with_reducible assumption) ?_) | (with_reducible refine PutB.then (by with_reducible assumption) ?_) | (with_reducible refine Chg.call (by with_reducible assumption) ?_) | (with_reducible refine Chg.put (by with_reducible assumption) ?_))))
set_option maxHeartbeats 1000000 in
theorem step_6 (x : Img) (vx : Value) (a bb n : Int) (st : List Int) (b : Nat) (w0 w : World) (hx : ImgV w0 vx x) (h0 : Below w0.heap.size w0 w) (hb0 : w0.heap.size ≤ b)
    (hb : w.heap[b]? = some (.cells (stk st).toArray 122 (0, 0))) (hl : st.length ≤ 64) :
    Calls Tryz.prog 64 #[.pointer (some ⟨b, 0, none⟩), vx, insV ⟨6, a, bb, n⟩] w (StepR b w (stepS x ⟨6, a, bb, n⟩ st)) := by
  obtain ⟨vt, vf, vi, vo, vc, rfl, -⟩ := hx
  have hbw : b < w.heap.size := (Array.getElem?_eq_some_iff.1 hb).1
  have hq0 : w.heap.size ≠ b := by omega
  have hq1 : w.heap.size + 1 ≠ b := by omega
  have HB := Lib.hid hb
  clear hb
  unfold insV
  rcases snoc_cases st with rfl | ⟨s, t, rfl⟩
  · rw [show stepS x ⟨6, a, bb, n⟩ [] = none from by (rw [stepS_6]; rfl)]
    go_enter Tryz.func64, Tryz.ntmps64
    go_wp2_with (first | (go_at_call 112; refine (result_c _ _ _).mono ?_; rintro e w1 ⟨rfl, hb⟩; obtain ⟨hc, hf⟩ := bcell hb; have hz := hb.size; (try simp at hz); (try have hz1 := Nat.lt_of_succ_le hz); (try have hz2 := Nat.lt_of_succ_lt hz1); (try have hz3 := Nat.lt_of_succ_lt hz2); (try have hz4 := Nat.lt_of_succ_lt hz3)) | (go_at_call 111; refine (pop_lit0 [bb] _ _ _ b _ (by (repeat' (first | (with_reducible exact HB.out) | (with_reducible exact PutB.at_ (by with_reducible assumption)) | (with_reducible refine hp_alloc ?_) | (with_reducible refine hp_drew ?_) | (with_reducible refine hp_below (by with_reducible assumption) ?_)))) (by rfl) (by rfl) (by first | rfl | simp) (by simp)).mono ?_; rintro e w1 ⟨rfl, rfl⟩))
    go_ret
    exact StepR.no (by (repeat' (first | (with_reducible exact PutB.refl HB.out) | (with_reducible exact Chg.refl _ _) | (with_reducible refine PutB.alloc ?_) | (with_reducible refine PutB.drew ?_) | (with_reducible refine Chg.alloc ?_) | (with_reducible refine Chg.drew ?_) | (with_reducible refine PutB.call (by with_reducible assumption) ?_) | (with_reducible refine PutB.then (by with_reducible assumption) ?_) | (with_reducible refine Chg.call (by with_reducible assumption) ?_) | (with_reducible refine Chg.put (by with_reducible assumption) ?_))))
  have hls : s.length < 64 := by simp at hl; omega
  cases hq : anyEq [bb] t
  · rw [show stepS x ⟨6, a, bb, n⟩ (s ++ [t]) = none from by (rw [stepS_6, popS_no hq]; rfl)]
    go_enter Tryz.func64, Tryz.ntmps64
    go_wp2_with (first | (go_at_call 112; refine (result_c _ _ _).mono ?_; rintro e w1 ⟨rfl, hb⟩; obtain ⟨hc, hf⟩ := bcell hb; have hz := hb.size; (try simp at hz); (try have hz1 := Nat.lt_of_succ_le hz); (try have hz2 := Nat.lt_of_succ_lt hz1); (try have hz3 := Nat.lt_of_succ_lt hz2); (try have hz4 := Nat.lt_of_succ_lt hz3)) | (go_at_call 111; refine (pop_lit s t [bb] _ _ _ b _ (by (repeat' (first | (with_reducible exact HB.out) | (with_reducible exact PutB.at_ (by with_reducible assumption)) | (with_reducible refine hp_alloc ?_) | (with_reducible refine hp_drew ?_) | (with_reducible refine hp_below (by with_reducible assumption) ?_)))) (by omega) (by rfl) (by rfl) (by first | rfl | simp) (by simp)).mono ?_; rintro e w1 ⟨rfl, hP1⟩; have hqhP1 := pcell hP1; have hzhP1 := hP1.size; (try simp at hzhP1); (try have hw0hP1 : w.heap.size < w1.heap.size := by omega); (try have hw1hP1 : w.heap.size + 1 < w1.heap.size := by omega)))
    go_ret
    exact StepR.no (by (repeat' (first | (with_reducible exact PutB.refl HB.out) | (with_reducible exact Chg.refl _ _) | (with_reducible refine PutB.alloc ?_) | (with_reducible refine PutB.drew ?_) | (with_reducible refine Chg.alloc ?_) | (with_reducible refine Chg.drew ?_) | (with_reducible refine PutB.call (by with_reducible assumption) ?_) | (with_reducible refine PutB.then (by with_reducible assumption) ?_) | (with_reducible refine Chg.call (by with_reducible assumption) ?_) | (with_reducible refine Chg.put (by with_reducible assumption) ?_))))
  rcases snoc_cases s with rfl | ⟨u, v, rfl⟩
  · rw [show stepS x ⟨6, a, bb, n⟩ ([] ++ [t]) = none from by (rw [stepS_6, popS_yes hq]; rfl)]
    go_enter Tryz.func64, Tryz.ntmps64
    go_wp2_with (go_at_call 112; refine (result_c _ _ _).mono ?_; rintro e w1 ⟨rfl, hb⟩; obtain ⟨hc, hf⟩ := bcell hb; have hz := hb.size; (try simp at hz); (try have hz1 := Nat.lt_of_succ_le hz); (try have hz2 := Nat.lt_of_succ_lt hz1); (try have hz3 := Nat.lt_of_succ_lt hz2); (try have hz4 := Nat.lt_of_succ_lt hz3))
    refine (pop_lit [] t [bb] _ _ _ b _ (by (repeat' (first | (with_reducible exact HB.out) | (with_reducible exact PutB.at_ (by with_reducible assumption)) | (with_reducible refine hp_alloc ?_) | (with_reducible refine hp_drew ?_) | (with_reducible refine hp_below (by with_reducible assumption) ?_)))) (by omega) (by rfl) (by rfl) (by first | rfl | simp) (by simp)).mono ?_
    rintro e w1 ⟨rfl, hP1⟩
    have hqhP1 := pcell hP1; have hzhP1 := hP1.size; (try simp at hzhP1); (try have hw0hP1 : w.heap.size < w1.heap.size := by omega); (try have hw1hP1 : w.heap.size + 1 < w1.heap.size := by omega)
    go_wp2_with fail
    refine (pop_lit0 [bb] _ _ _ b _ (by (repeat' (first | (with_reducible exact HB.out) | (with_reducible exact PutB.at_ (by with_reducible assumption)) | (with_reducible refine hp_alloc ?_) | (with_reducible refine hp_drew ?_) | (with_reducible refine hp_below (by with_reducible assumption) ?_)))) (by rfl) (by rfl) (by first | rfl | simp) (by simp)).mono ?_
    rintro e w2 ⟨rfl, rfl⟩
    go_wp2
    go_ret
    exact StepR.no (by (repeat' (first | (with_reducible exact PutB.refl HB.out) | (with_reducible exact Chg.refl _ _) | (with_reducible refine PutB.alloc ?_) | (with_reducible refine PutB.drew ?_) | (with_reducible refine Chg.alloc ?_) | (with_reducible refine Chg.drew ?_) | (with_reducible refine PutB.call (by with_reducible assumption) ?_) | (with_reducible refine PutB.then (by with_reducible assumption) ?_) | (with_reducible refine Chg.call (by with_reducible assumption) ?_) | (with_reducible refine Chg.put (by with_reducible assumption) ?_))))
  have hlu : u.length < 64 := by simp at hls; omega
  cases hq2 : anyEq [bb] v
  · rw [show stepS x ⟨6, a, bb, n⟩ (u ++ [v] ++ [t]) = none from by (rw [stepS_6, popS_yes hq, Option.bind_some, popS_no hq2]; rfl)]
    go_enter Tryz.func64, Tryz.ntmps64
    go_wp2_with (go_at_call 112; refine (result_c _ _ _).mono ?_; rintro e w1 ⟨rfl, hb⟩; obtain ⟨hc, hf⟩ := bcell hb; have hz := hb.size; (try simp at hz); (try have hz1 := Nat.lt_of_succ_le hz); (try have hz2 := Nat.lt_of_succ_lt hz1); (try have hz3 := Nat.lt_of_succ_lt hz2); (try have hz4 := Nat.lt_of_succ_lt hz3))
    refine (pop_lit (u ++ [v]) t [bb] _ _ _ b _ (by (repeat' (first | (with_reducible exact HB.out) | (with_reducible exact PutB.at_ (by with_reducible assumption)) | (with_reducible refine hp_alloc ?_) | (with_reducible refine hp_drew ?_) | (with_reducible refine hp_below (by with_reducible assumption) ?_)))) (by omega) (by rfl) (by rfl) (by first | rfl | simp) (by simp)).mono ?_
    rintro e w1 ⟨rfl, hP1⟩
    have hqhP1 := pcell hP1; have hzhP1 := hP1.size; (try simp at hzhP1); (try have hw0hP1 : w.heap.size < w1.heap.size := by omega); (try have hw1hP1 : w.heap.size + 1 < w1.heap.size := by omega)
    go_wp2_with fail
    refine (pop_lit u v [bb] _ _ _ b _ (by (repeat' (first | (with_reducible exact HB.out) | (with_reducible exact PutB.at_ (by with_reducible assumption)) | (with_reducible refine hp_alloc ?_) | (with_reducible refine hp_drew ?_) | (with_reducible refine hp_below (by with_reducible assumption) ?_)))) (by omega) (by rfl) (by rfl) (by first | rfl | simp) (by simp)).mono ?_
    rintro e w2 ⟨rfl, hP2⟩
    have hqhP2 := pcell hP2; have hzhP2 := hP2.size; (try simp at hzhP2); (try have hw0hP2 : w.heap.size < w2.heap.size := by omega); (try have hw1hP2 : w.heap.size + 1 < w2.heap.size := by omega)
    go_wp2_with fail
    go_wp2
    go_ret
    exact StepR.no (by (repeat' (first | (with_reducible exact PutB.refl HB.out) | (with_reducible exact Chg.refl _ _) | (with_reducible refine PutB.alloc ?_) | (with_reducible refine PutB.drew ?_) | (with_reducible refine Chg.alloc ?_) | (with_reducible refine Chg.drew ?_) | (with_reducible refine PutB.call (by with_reducible assumption) ?_) | (with_reducible refine PutB.then (by with_reducible assumption) ?_) | (with_reducible refine Chg.call (by with_reducible assumption) ?_) | (with_reducible refine Chg.put (by with_reducible assumption) ?_))))
  rw [show stepS x ⟨6, a, bb, n⟩ (u ++ [v] ++ [t]) = some (u ++ [(result a bb).1]) from by (rw [stepS_6, popS_yes hq, Option.bind_some, popS_yes hq2]; exact pushS_yes hlu)]
  go_enter Tryz.func64, Tryz.ntmps64
  go_wp2_with (go_at_call 112; refine (result_c _ _ _).mono ?_; rintro e w1 ⟨rfl, hb⟩; obtain ⟨hc, hf⟩ := bcell hb; have hz := hb.size; (try simp at hz); (try have hz1 := Nat.lt_of_succ_le hz); (try have hz2 := Nat.lt_of_succ_lt hz1); (try have hz3 := Nat.lt_of_succ_lt hz2); (try have hz4 := Nat.lt_of_succ_lt hz3))
  refine (pop_lit (u ++ [v]) t [bb] _ _ _ b _ (by (repeat' (first | (with_reducible exact HB.out) | (with_reducible exact PutB.at_ (by with_reducible assumption)) | (with_reducible refine hp_alloc ?_) | (with_reducible refine hp_drew ?_) | (with_reducible refine hp_below (by with_reducible assumption) ?_)))) (by omega) (by rfl) (by rfl) (by first | rfl | simp) (by simp)).mono ?_
  rintro e w1 ⟨rfl, hP1⟩
  have hqhP1 := pcell hP1; have hzhP1 := hP1.size; (try simp at hzhP1); (try have hw0hP1 : w.heap.size < w1.heap.size := by omega); (try have hw1hP1 : w.heap.size + 1 < w1.heap.size := by omega)
  go_wp2_with fail
  refine (pop_lit u v [bb] _ _ _ b _ (by (repeat' (first | (with_reducible exact HB.out) | (with_reducible exact PutB.at_ (by with_reducible assumption)) | (with_reducible refine hp_alloc ?_) | (with_reducible refine hp_drew ?_) | (with_reducible refine hp_below (by with_reducible assumption) ?_)))) (by omega) (by rfl) (by rfl) (by first | rfl | simp) (by simp)).mono ?_
  rintro e w2 ⟨rfl, hP2⟩
  have hqhP2 := pcell hP2; have hzhP2 := hP2.size; (try simp at hzhP2); (try have hw0hP2 : w.heap.size < w2.heap.size := by omega); (try have hw1hP2 : w.heap.size + 1 < w2.heap.size := by omega)
  go_wp2_with fail
  refine (push_ok u _ b _ (by (repeat' (first | (with_reducible exact HB.out) | (with_reducible exact PutB.at_ (by with_reducible assumption)) | (with_reducible refine hp_alloc ?_) | (with_reducible refine hp_drew ?_) | (with_reducible refine hp_below (by with_reducible assumption) ?_)))) (by omega)).mono ?_
  rintro e w9 ⟨rfl, hP9⟩
  go_wp2
  go_ret
  exact StepR.yes (by (repeat' (first | (with_reducible exact PutB.refl HB.out) | (with_reducible exact Chg.refl _ _) | (with_reducible refine PutB.alloc ?_) | (with_reducible refine PutB.drew ?_) | (with_reducible refine Chg.alloc ?_) | (with_reducible refine Chg.drew ?_) | (with_reducible refine PutB.call (by with_reducible assumption) ?_) | (with_reducible refine PutB.then (by with_reducible assumption) ?_) | (with_reducible refine Chg.call (by with_reducible assumption) ?_) | (with_reducible refine Chg.put (by with_reducible assumption) ?_))))
set_option maxHeartbeats 1000000 in
theorem step_7 (x : Img) (vx : Value) (a bb n : Int) (st : List Int) (b : Nat) (w0 w : World) (hx : ImgV w0 vx x) (h0 : Below w0.heap.size w0 w) (hb0 : w0.heap.size ≤ b)
    (hb : w.heap[b]? = some (.cells (stk st).toArray 122 (0, 0))) (hl : st.length ≤ 64) :
    Calls Tryz.prog 64 #[.pointer (some ⟨b, 0, none⟩), vx, insV ⟨7, a, bb, n⟩] w (StepR b w (stepS x ⟨7, a, bb, n⟩ st)) := by
  obtain ⟨vt, vf, vi, vo, vc, rfl, -⟩ := hx
  have hbw : b < w.heap.size := (Array.getElem?_eq_some_iff.1 hb).1
  have hq0 : w.heap.size ≠ b := by omega
  have hq1 : w.heap.size + 1 ≠ b := by omega
  have HB := Lib.hid hb
  clear hb
  unfold insV
  rcases snoc_cases st with rfl | ⟨s, t, rfl⟩
  · rw [show stepS x ⟨7, a, bb, n⟩ [] = none from by (rw [stepS_7]; rfl)]
    go_enter Tryz.func64, Tryz.ntmps64
    go_wp2_with (first | (go_at_call 111; refine (pop_lit0 [bb] _ _ _ b _ (by (repeat' (first | (with_reducible exact HB.out) | (with_reducible exact PutB.at_ (by with_reducible assumption)) | (with_reducible refine hp_alloc ?_) | (with_reducible refine hp_drew ?_) | (with_reducible refine hp_below (by with_reducible assumption) ?_)))) (by rfl) (by rfl) (by first | rfl | simp) (by simp)).mono ?_; rintro e w1 ⟨rfl, rfl⟩))
    go_ret
    exact StepR.no (by (repeat' (first | (with_reducible exact PutB.refl HB.out) | (with_reducible exact Chg.refl _ _) | (with_reducible refine PutB.alloc ?_) | (with_reducible refine PutB.drew ?_) | (with_reducible refine Chg.alloc ?_) | (with_reducible refine Chg.drew ?_) | (with_reducible refine PutB.call (by with_reducible assumption) ?_) | (with_reducible refine PutB.then (by with_reducible assumption) ?_) | (with_reducible refine Chg.call (by with_reducible assumption) ?_) | (with_reducible refine Chg.put (by with_reducible assumption) ?_))))
  have hls : s.length < 64 := by simp at hl; omega
  cases hq : anyEq [bb] t
  · rw [show stepS x ⟨7, a, bb, n⟩ (s ++ [t]) = none from by (rw [stepS_7, popS_no hq]; rfl)]
    go_enter Tryz.func64, Tryz.ntmps64
    go_wp2_with (first | (go_at_call 111; refine (pop_lit s t [bb] _ _ _ b _ (by (repeat' (first | (with_reducible exact HB.out) | (with_reducible exact PutB.at_ (by with_reducible assumption)) | (with_reducible refine hp_alloc ?_) | (with_reducible refine hp_drew ?_) | (with_reducible refine hp_below (by with_reducible assumption) ?_)))) (by omega) (by rfl) (by rfl) (by first | rfl | simp) (by simp)).mono ?_; rintro e w1 ⟨rfl, hP1⟩; have hqhP1 := pcell hP1; have hzhP1 := hP1.size; (try simp at hzhP1); (try have hw0hP1 : w.heap.size < w1.heap.size := by omega); (try have hw1hP1 : w.heap.size + 1 < w1.heap.size := by omega)))
    go_ret
    exact StepR.no (by (repeat' (first | (with_reducible exact PutB.refl HB.out) | (with_reducible exact Chg.refl _ _) | (with_reducible refine PutB.alloc ?_) | (with_reducible refine PutB.drew ?_) | (with_reducible refine Chg.alloc ?_) | (with_reducible refine Chg.drew ?_) | (with_reducible refine PutB.call (by with_reducible assumption) ?_) | (with_reducible refine PutB.then (by with_reducible assumption) ?_) | (with_reducible refine Chg.call (by with_reducible assumption) ?_) | (with_reducible refine Chg.put (by with_reducible assumption) ?_))))
  rw [show stepS x ⟨7, a, bb, n⟩ (s ++ [t]) = some (s ++ [bb]) from by (rw [stepS_7, popS_yes hq]; exact pushS_yes hls)]
  go_enter Tryz.func64, Tryz.ntmps64
  go_wp2_with (first | (go_at_call 111; refine (pop_lit s t [bb] _ _ _ b _ (by (repeat' (first | (with_reducible exact HB.out) | (with_reducible exact PutB.at_ (by with_reducible assumption)) | (with_reducible refine hp_alloc ?_) | (with_reducible refine hp_drew ?_) | (with_reducible refine hp_below (by with_reducible assumption) ?_)))) (by omega) (by rfl) (by rfl) (by first | rfl | simp) (by simp)).mono ?_; rintro e w1 ⟨rfl, hP1⟩; have hqhP1 := pcell hP1; have hzhP1 := hP1.size; (try simp at hzhP1); (try have hw0hP1 : w.heap.size < w1.heap.size := by omega); (try have hw1hP1 : w.heap.size + 1 < w1.heap.size := by omega)) | (go_at_call 110; refine (push_ok s _ b _ (by (repeat' (first | (with_reducible exact HB.out) | (with_reducible exact PutB.at_ (by with_reducible assumption)) | (with_reducible refine hp_alloc ?_) | (with_reducible refine hp_drew ?_) | (with_reducible refine hp_below (by with_reducible assumption) ?_)))) (by omega)).mono ?_; rintro e w9 ⟨rfl, hP9⟩))
  go_ret
  exact StepR.yes (by (repeat' (first | (with_reducible exact PutB.refl HB.out) | (with_reducible exact Chg.refl _ _) | (with_reducible refine PutB.alloc ?_) | (with_reducible refine PutB.drew ?_) | (with_reducible refine Chg.alloc ?_) | (with_reducible refine Chg.drew ?_) | (with_reducible refine PutB.call (by with_reducible assumption) ?_) | (with_reducible refine PutB.then (by with_reducible assumption) ?_) | (with_reducible refine Chg.call (by with_reducible assumption) ?_) | (with_reducible refine Chg.put (by with_reducible assumption) ?_))))
set_option maxHeartbeats 1000000 in
theorem step_8 (x : Img) (vx : Value) (a bb n : Int) (st : List Int) (b : Nat) (w0 w : World) (hx : ImgV w0 vx x) (h0 : Below w0.heap.size w0 w) (hb0 : w0.heap.size ≤ b)
    (hb : w.heap[b]? = some (.cells (stk st).toArray 122 (0, 0))) (hl : st.length ≤ 64) :
    Calls Tryz.prog 64 #[.pointer (some ⟨b, 0, none⟩), vx, insV ⟨8, a, bb, n⟩] w (StepR b w (stepS x ⟨8, a, bb, n⟩ st)) := by
  obtain ⟨vt, vf, vi, vo, vc, rfl, -⟩ := hx
  have hbw : b < w.heap.size := (Array.getElem?_eq_some_iff.1 hb).1
  have hq0 : w.heap.size ≠ b := by omega
  have hq1 : w.heap.size + 1 ≠ b := by omega
  have HB := Lib.hid hb
  clear hb
  unfold insV
  rcases snoc_cases st with rfl | ⟨s, t, rfl⟩
  · rw [show stepS x ⟨8, a, bb, n⟩ [] = none from by (rw [stepS_8]; rfl)]
    go_enter Tryz.func64, Tryz.ntmps64
    go_wp2_with (first | (go_at_call 111; refine (pop_lit0 [a] _ _ _ b _ (by (repeat' (first | (with_reducible exact HB.out) | (with_reducible exact PutB.at_ (by with_reducible assumption)) | (with_reducible refine hp_alloc ?_) | (with_reducible refine hp_drew ?_) | (with_reducible refine hp_below (by with_reducible assumption) ?_)))) (by rfl) (by rfl) (by first | rfl | simp) (by simp)).mono ?_; rintro e w1 ⟨rfl, rfl⟩))
    go_ret
    exact StepR.no (by (repeat' (first | (with_reducible exact PutB.refl HB.out) | (with_reducible exact Chg.refl _ _) | (with_reducible refine PutB.alloc ?_) | (with_reducible refine PutB.drew ?_) | (with_reducible refine Chg.alloc ?_) | (with_reducible refine Chg.drew ?_) | (with_reducible refine PutB.call (by with_reducible assumption) ?_) | (with_reducible refine PutB.then (by with_reducible assumption) ?_) | (with_reducible refine Chg.call (by with_reducible assumption) ?_) | (with_reducible refine Chg.put (by with_reducible assumption) ?_))))
  have hls : s.length < 64 := by simp at hl; omega
  cases hq : anyEq [a] t
  · rw [show stepS x ⟨8, a, bb, n⟩ (s ++ [t]) = none from by (rw [stepS_8, popS_no hq]; rfl)]
    go_enter Tryz.func64, Tryz.ntmps64
    go_wp2_with (first | (go_at_call 111; refine (pop_lit s t [a] _ _ _ b _ (by (repeat' (first | (with_reducible exact HB.out) | (with_reducible exact PutB.at_ (by with_reducible assumption)) | (with_reducible refine hp_alloc ?_) | (with_reducible refine hp_drew ?_) | (with_reducible refine hp_below (by with_reducible assumption) ?_)))) (by omega) (by rfl) (by rfl) (by first | rfl | simp) (by simp)).mono ?_; rintro e w1 ⟨rfl, hP1⟩; have hqhP1 := pcell hP1; have hzhP1 := hP1.size; (try simp at hzhP1); (try have hw0hP1 : w.heap.size < w1.heap.size := by omega); (try have hw1hP1 : w.heap.size + 1 < w1.heap.size := by omega)))
    go_ret
    exact StepR.no (by (repeat' (first | (with_reducible exact PutB.refl HB.out) | (with_reducible exact Chg.refl _ _) | (with_reducible refine PutB.alloc ?_) | (with_reducible refine PutB.drew ?_) | (with_reducible refine Chg.alloc ?_) | (with_reducible refine Chg.drew ?_) | (with_reducible refine PutB.call (by with_reducible assumption) ?_) | (with_reducible refine PutB.then (by with_reducible assumption) ?_) | (with_reducible refine Chg.call (by with_reducible assumption) ?_) | (with_reducible refine Chg.put (by with_reducible assumption) ?_))))
  rw [show stepS x ⟨8, a, bb, n⟩ (s ++ [t]) = some (s ++ [bb]) from by (rw [stepS_8, popS_yes hq]; exact pushS_yes hls)]
  go_enter Tryz.func64, Tryz.ntmps64
  go_wp2_with (first | (go_at_call 111; refine (pop_lit s t [a] _ _ _ b _ (by (repeat' (first | (with_reducible exact HB.out) | (with_reducible exact PutB.at_ (by with_reducible assumption)) | (with_reducible refine hp_alloc ?_) | (with_reducible refine hp_drew ?_) | (with_reducible refine hp_below (by with_reducible assumption) ?_)))) (by omega) (by rfl) (by rfl) (by first | rfl | simp) (by simp)).mono ?_; rintro e w1 ⟨rfl, hP1⟩; have hqhP1 := pcell hP1; have hzhP1 := hP1.size; (try simp at hzhP1); (try have hw0hP1 : w.heap.size < w1.heap.size := by omega); (try have hw1hP1 : w.heap.size + 1 < w1.heap.size := by omega)) | (go_at_call 110; refine (push_ok s _ b _ (by (repeat' (first | (with_reducible exact HB.out) | (with_reducible exact PutB.at_ (by with_reducible assumption)) | (with_reducible refine hp_alloc ?_) | (with_reducible refine hp_drew ?_) | (with_reducible refine hp_below (by with_reducible assumption) ?_)))) (by omega)).mono ?_; rintro e w9 ⟨rfl, hP9⟩))
  go_ret
  exact StepR.yes (by (repeat' (first | (with_reducible exact PutB.refl HB.out) | (with_reducible exact Chg.refl _ _) | (with_reducible refine PutB.alloc ?_) | (with_reducible refine PutB.drew ?_) | (with_reducible refine Chg.alloc ?_) | (with_reducible refine Chg.drew ?_) | (with_reducible refine PutB.call (by with_reducible assumption) ?_) | (with_reducible refine PutB.then (by with_reducible assumption) ?_) | (with_reducible refine Chg.call (by with_reducible assumption) ?_) | (with_reducible refine Chg.put (by with_reducible assumption) ?_))))
set_option maxHeartbeats 1000000 in
theorem step_10 (x : Img) (vx : Value) (a bb n : Int) (st : List Int) (b : Nat) (w0 w : World) (hx : ImgV w0 vx x) (h0 : Below w0.heap.size w0 w) (hb0 : w0.heap.size ≤ b)
    (hb : w.heap[b]? = some (.cells (stk st).toArray 122 (0, 0))) (hl : st.length ≤ 64) :
    Calls Tryz.prog 64 #[.pointer (some ⟨b, 0, none⟩), vx, insV ⟨10, a, bb, n⟩] w (StepR b w (stepS x ⟨10, a, bb, n⟩ st)) := by
  obtain ⟨vt, vf, vi, vo, vc, rfl, -⟩ := hx
  have hbw : b < w.heap.size := (Array.getElem?_eq_some_iff.1 hb).1
  have hq0 : w.heap.size ≠ b := by omega
  have hq1 : w.heap.size + 1 ≠ b := by omega
  have HB := Lib.hid hb
  clear hb
  unfold insV
  rcases snoc_cases st with rfl | ⟨s, t, rfl⟩
  · rw [show stepS x ⟨10, a, bb, n⟩ [] = none from by (rw [stepS_10]; rfl)]
    go_enter Tryz.func64, Tryz.ntmps64
    go_wp2_with (first | (go_at_call 111; refine (pop_lit0 [1] _ _ _ b _ (by (repeat' (first | (with_reducible exact HB.out) | (with_reducible exact PutB.at_ (by with_reducible assumption)) | (with_reducible refine hp_alloc ?_) | (with_reducible refine hp_drew ?_) | (with_reducible refine hp_below (by with_reducible assumption) ?_)))) (by rfl) (by rfl) (by first | rfl | simp) (by simp)).mono ?_; rintro e w1 ⟨rfl, rfl⟩))
    go_ret
    exact StepR.no (by (repeat' (first | (with_reducible exact PutB.refl HB.out) | (with_reducible exact Chg.refl _ _) | (with_reducible refine PutB.alloc ?_) | (with_reducible refine PutB.drew ?_) | (with_reducible refine Chg.alloc ?_) | (with_reducible refine Chg.drew ?_) | (with_reducible refine PutB.call (by with_reducible assumption) ?_) | (with_reducible refine PutB.then (by with_reducible assumption) ?_) | (with_reducible refine Chg.call (by with_reducible assumption) ?_) | (with_reducible refine Chg.put (by with_reducible assumption) ?_))))
  have hls : s.length < 64 := by simp at hl; omega
  cases hq : anyEq [1] t
  · rw [show stepS x ⟨10, a, bb, n⟩ (s ++ [t]) = none from by (rw [stepS_10]; exact popS_no hq)]
    go_enter Tryz.func64, Tryz.ntmps64
    go_wp2_with (first | (go_at_call 111; refine (pop_lit s t [1] _ _ _ b _ (by (repeat' (first | (with_reducible exact HB.out) | (with_reducible exact PutB.at_ (by with_reducible assumption)) | (with_reducible refine hp_alloc ?_) | (with_reducible refine hp_drew ?_) | (with_reducible refine hp_below (by with_reducible assumption) ?_)))) (by omega) (by rfl) (by rfl) (by first | rfl | simp) (by simp)).mono ?_; rintro e w1 ⟨rfl, hP1⟩; have hqhP1 := pcell hP1; have hzhP1 := hP1.size; (try simp at hzhP1); (try have hw0hP1 : w.heap.size < w1.heap.size := by omega); (try have hw1hP1 : w.heap.size + 1 < w1.heap.size := by omega)))
    go_ret
    exact StepR.no (by (repeat' (first | (with_reducible exact PutB.refl HB.out) | (with_reducible exact Chg.refl _ _) | (with_reducible refine PutB.alloc ?_) | (with_reducible refine PutB.drew ?_) | (with_reducible refine Chg.alloc ?_) | (with_reducible refine Chg.drew ?_) | (with_reducible refine PutB.call (by with_reducible assumption) ?_) | (with_reducible refine PutB.then (by with_reducible assumption) ?_) | (with_reducible refine Chg.call (by with_reducible assumption) ?_) | (with_reducible refine Chg.put (by with_reducible assumption) ?_))))
  rw [show stepS x ⟨10, a, bb, n⟩ (s ++ [t]) = some s from by (rw [stepS_10]; exact popS_yes hq)]
  go_enter Tryz.func64, Tryz.ntmps64
  go_wp2_with (first | (go_at_call 111; refine (pop_lit s t [1] _ _ _ b _ (by (repeat' (first | (with_reducible exact HB.out) | (with_reducible exact PutB.at_ (by with_reducible assumption)) | (with_reducible refine hp_alloc ?_) | (with_reducible refine hp_drew ?_) | (with_reducible refine hp_below (by with_reducible assumption) ?_)))) (by omega) (by rfl) (by rfl) (by first | rfl | simp) (by simp)).mono ?_; rintro e w1 ⟨rfl, hP1⟩; have hqhP1 := pcell hP1; have hzhP1 := hP1.size; (try simp at hzhP1); (try have hw0hP1 : w.heap.size < w1.heap.size := by omega); (try have hw1hP1 : w.heap.size + 1 < w1.heap.size := by omega)))
  go_ret
  exact StepR.yes (by (repeat' (first | (with_reducible exact PutB.refl HB.out) | (with_reducible exact Chg.refl _ _) | (with_reducible refine PutB.alloc ?_) | (with_reducible refine PutB.drew ?_) | (with_reducible refine Chg.alloc ?_) | (with_reducible refine Chg.drew ?_) | (with_reducible refine PutB.call (by with_reducible assumption) ?_) | (with_reducible refine PutB.then (by with_reducible assumption) ?_) | (with_reducible refine Chg.call (by with_reducible assumption) ?_) | (with_reducible refine Chg.put (by with_reducible assumption) ?_))))
set_option maxHeartbeats 1000000 in
theorem step_9 (x : Img) (vx : Value) (a bb n : Int) (st : List Int) (b : Nat) (w0 w : World) (hx : ImgV w0 vx x) (h0 : Below w0.heap.size w0 w) (hb0 : w0.heap.size ≤ b)
    (hb : w.heap[b]? = some (.cells (stk st).toArray 122 (0, 0))) (hl : st.length ≤ 64) :
    Calls Tryz.prog 64 #[.pointer (some ⟨b, 0, none⟩), vx, insV ⟨9, a, bb, n⟩] w (StepR b w (stepS x ⟨9, a, bb, n⟩ st)) := by
  obtain ⟨vt, vf, vi, vo, vc, rfl, -⟩ := hx
  have hbw : b < w.heap.size := (Array.getElem?_eq_some_iff.1 hb).1
  have hq0 : w.heap.size ≠ b := by omega
  have hq1 : w.heap.size + 1 ≠ b := by omega
  have HB := Lib.hid hb
  clear hb
  unfold insV
  rw [show stepS x ⟨9, a, bb, n⟩ st = some st from by rfl]
  go_enter Tryz.func64, Tryz.ntmps64
  go_wp2
  go_ret
  exact StepR.yes (by (repeat' (first | (with_reducible exact PutB.refl HB.out) | (with_reducible exact Chg.refl _ _) | (with_reducible refine PutB.alloc ?_) | (with_reducible refine PutB.drew ?_) | (with_reducible refine Chg.alloc ?_) | (with_reducible refine Chg.drew ?_) | (with_reducible refine PutB.call (by with_reducible assumption) ?_) | (with_reducible refine PutB.then (by with_reducible assumption) ?_) | (with_reducible refine Chg.call (by with_reducible assumption) ?_) | (with_reducible refine Chg.put (by with_reducible assumption) ?_))))
set_option maxHeartbeats 1000000 in
theorem step_11 (x : Img) (vx : Value) (a bb n : Int) (st : List Int) (b : Nat) (w0 w : World) (hx : ImgV w0 vx x) (h0 : Below w0.heap.size w0 w) (hb0 : w0.heap.size ≤ b)
    (hb : w.heap[b]? = some (.cells (stk st).toArray 122 (0, 0))) (hl : st.length ≤ 64) :
    Calls Tryz.prog 64 #[.pointer (some ⟨b, 0, none⟩), vx, insV ⟨11, a, bb, n⟩] w (StepR b w (stepS x ⟨11, a, bb, n⟩ st)) := by
  obtain ⟨vt, vf, vi, vo, vc, rfl, -⟩ := hx
  have hbw : b < w.heap.size := (Array.getElem?_eq_some_iff.1 hb).1
  have hq0 : w.heap.size ≠ b := by omega
  have hq1 : w.heap.size + 1 ≠ b := by omega
  have HB := Lib.hid hb
  clear hb
  unfold insV
  rw [show stepS x ⟨11, a, bb, n⟩ st = some st from by rfl]
  go_enter Tryz.func64, Tryz.ntmps64
  go_wp2
  go_ret
  exact StepR.yes (by (repeat' (first | (with_reducible exact PutB.refl HB.out) | (with_reducible exact Chg.refl _ _) | (with_reducible refine PutB.alloc ?_) | (with_reducible refine PutB.drew ?_) | (with_reducible refine Chg.alloc ?_) | (with_reducible refine Chg.drew ?_) | (with_reducible refine PutB.call (by with_reducible assumption) ?_) | (with_reducible refine PutB.then (by with_reducible assumption) ?_) | (with_reducible refine Chg.call (by with_reducible assumption) ?_) | (with_reducible refine Chg.put (by with_reducible assumption) ?_))))
set_option maxHeartbeats 1000000 in
theorem step_12 (x : Img) (vx : Value) (a bb n : Int) (st : List Int) (b : Nat) (w0 w : World) (hx : ImgV w0 vx x) (h0 : Below w0.heap.size w0 w) (hb0 : w0.heap.size ≤ b)
    (hb : w.heap[b]? = some (.cells (stk st).toArray 122 (0, 0))) (hl : st.length ≤ 64) :
    Calls Tryz.prog 64 #[.pointer (some ⟨b, 0, none⟩), vx, insV ⟨12, a, bb, n⟩] w (StepR b w (stepS x ⟨12, a, bb, n⟩ st)) := by
  obtain ⟨vt, vf, vi, vo, vc, rfl, -⟩ := hx
  have hbw : b < w.heap.size := (Array.getElem?_eq_some_iff.1 hb).1
  have hq0 : w.heap.size ≠ b := by omega
  have hq1 : w.heap.size + 1 ≠ b := by omega
  have HB := Lib.hid hb
  clear hb
  unfold insV
  rw [show stepS x ⟨12, a, bb, n⟩ st = some st from by rfl]
  go_enter Tryz.func64, Tryz.ntmps64
  go_wp2
  go_ret
  exact StepR.yes (by (repeat' (first | (with_reducible exact PutB.refl HB.out) | (with_reducible exact Chg.refl _ _) | (with_reducible refine PutB.alloc ?_) | (with_reducible refine PutB.drew ?_) | (with_reducible refine Chg.alloc ?_) | (with_reducible refine Chg.drew ?_) | (with_reducible refine PutB.call (by with_reducible assumption) ?_) | (with_reducible refine PutB.then (by with_reducible assumption) ?_) | (with_reducible refine Chg.call (by with_reducible assumption) ?_) | (with_reducible refine Chg.put (by with_reducible assumption) ?_))))
end Go.Proofs.YtefpgjocfgeenaaGreatDoor
