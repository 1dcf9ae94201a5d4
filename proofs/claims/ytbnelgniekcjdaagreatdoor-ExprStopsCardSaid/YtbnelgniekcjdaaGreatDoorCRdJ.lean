/- expr.Parse: what its deferred function does. -/
import Derived.Test.YtbnelgniekcjdaaGreatDoorCRdI
import Derived.Recover
set_option linter.unusedSimpArgs false
set_option linter.unusedVariables false
namespace Go.Proofs.YtbnelgniekcjdaaGreatDoor
open Go.RowKit Cap
set_option maxRecDepth 100000

/-- A region's operations, of a deferred call, as a list. -/
def wpListS (P : Program) (ops : Array Oper) (Q : Exit → Act → List Frame → World → Prop) : List Oper → Act → List Frame → World → Prop
  | [], a, cs, w => Q .normal a cs w
  | o :: rest, a, cs, w =>
      if Region.wanted o (yielded ops a.tmps) then
        match (execOp a.eval o).run P w with
        | .ok .recover w' =>
          match recoverD cs with
          | some (v, cs') => wpListS P ops Q rest (a.put o.dst v) cs' w'
          | none => wpListS P ops Q rest (a.put o.dst .nilIface) cs w'
        | r => o.upon P a (fun a' w' => wpListS P ops Q rest a' cs w') (fun e a' w' => Q e a' cs w') r
      else wpListS P ops Q rest (a.put o.dst undef) cs w
section
variable {P : Program} {ops : Array Oper} {Q : Exit → Act → List Frame → World → Prop} {o : Oper} {rest : List Oper} {a : Act} {cs : List Frame} {w w' : World}
theorem wpOpsS_list (l : List Oper) : ∀ k, (∀ j, l[j]? = ops[k + j]?) → wpOpsS P ops Q (List.range' k l.length) = wpListS P ops Q l := by
  induction l with
  | nil => intro k _; funext a cs w; simp [wpOpsS, wpListS]
  | cons o l ih =>
    intro k h
    funext a cs w
    have h0 : ops[k]? = some o := by simpa using (h 0).symm
    have ih' := ih (k + 1) (fun j => by rw [show k + 1 + j = k + (j + 1) by omega]; simpa using h (j + 1))
    rw [List.length_cons, List.range'_succ, wpOpsS, wpListS, h0]
    simp only [ih']
    rfl
theorem wpS_region_list {id : Nat} {L : List Oper} (h : wpListS P L.toArray Q L a cs w) : (Code.region id L.toArray false).wpS P Q a cs w := by
  apply wpS_region
  have e := wpOpsS_list (P := P) (ops := L.toArray) (Q := Q) L 0 (fun j => by simp)
  rw [← List.range_eq_range'] at e
  show wpOpsS P L.toArray Q (List.range L.length) a cs w
  rw [e]
  exact h
theorem listS_value {v : Value} (hg : o.guard = none) (hr : (execOp a.eval o).run P w = .ok (.value v) w') (h : wpListS P ops Q rest (a.put o.dst v) cs w') : wpListS P ops Q (o :: rest) a cs w := by
  unfold wpListS
  rw [if_pos (by simp [Region.wanted, hg]), hr]
  exact h
theorem listS_skip (hg : o.guard = none) (hr : (execOp a.eval o).run P w = .ok .skip w') (h : wpListS P ops Q rest (a.put o.dst undef) cs w') : wpListS P ops Q (o :: rest) a cs w := by
  unfold wpListS
  rw [if_pos (by simp [Region.wanted, hg]), hr]
  exact h
theorem listS_none (hg : o.guard = none) (hr : (execOp a.eval o).run P w = .ok .recover w') (hc : recoverD cs = none) (h : wpListS P ops Q rest (a.put o.dst .nilIface) cs w') : wpListS P ops Q (o :: rest) a cs w := by
  unfold wpListS
  rw [if_pos (by simp [Region.wanted, hg]), hr]
  simp only [hc]
  exact h
theorem listS_some {v : Value} {cs' : List Frame} (hg : o.guard = none) (hr : (execOp a.eval o).run P w = .ok .recover w') (hc : recoverD cs = some (v, cs')) (h : wpListS P ops Q rest (a.put o.dst v) cs' w') : wpListS P ops Q (o :: rest) a cs w := by
  unfold wpListS
  rw [if_pos (by simp [Region.wanted, hg]), hr]
  simp only [hc]
  exact h
theorem listS_of {Q' : Exit → Act → World → Prop} (hq : ∀ e a w, Q' e a w → Q e a cs w) (hn : ∀ a w, ¬ Q' .outgrown a w) : ∀ (l : List Oper) (a : Act) (w : World), wpList P ops Q' l a w → wpListS P ops Q l a cs w := by
  have hl : ¬ LetsOut Q' := fun ⟨a, w, h⟩ => hn a w h
  intro l
  induction l with
  | nil => intro a w h; exact hq _ _ _ h
  | cons o l ih =>
    intro a w h
    rw [wpList] at h
    rw [wpListS]
    by_cases hw : Region.wanted o (yielded ops a.tmps) = true
    · rw [if_pos hw] at h ⊢
      rcases h with h | ⟨_, h⟩
      · unfold Oper.wp at h
        generalize hr : (execOp a.eval o).run P w = r at h ⊢
        cases r with
        | ok x w' =>
          cases x with
          | recover => exact h.elim
          | value v => exact ih _ _ h
          | skip => exact ih _ _ h
          | defer d => exact ih _ _ h
          | enter f args =>
            refine Calls.mono h fun e w'' hR => ?_
            cases e with
            | returned v => exact ih _ _ hR
            | panicked c => exact hq _ _ _ hR
            | outgrown => exact absurd hR hl
          | row r args => exact Rows.mono h fun v w'' hR => ih _ _ hR
          | _ => exact h.elim
        | halt x w' =>
          cases x with
          | panic v => exact hq _ _ _ h
          | _ => exact h.elim
      · exact absurd h hl
    · rw [if_neg hw] at h ⊢
      exact ih _ _ h
/-- A region that begins with 'recover', and what is behind it. -/
theorem wpS_recover_seq {id : Nat} {L : List Oper} {y : Code} {v : Value} {cs' : List Frame} (hg : o.guard = none) (hr : (execOp a.eval o).run P w = .ok .recover w)
    (hc : recoverD cs = some (v, cs') ∨ (recoverD cs = none ∧ v = .nilIface ∧ cs' = cs)) (hn : ∀ a w, ¬ Q .outgrown a cs' w)
    (h : wpList P (o :: L).toArray (Exit.then (y.wp P (fun e a w => Q e a cs' w)) (fun e a w => Q e a cs' w)) L (a.put o.dst v) w) :
    (Code.seq (.region id (o :: L).toArray false) y).wpS P Q a cs w := by
  apply wpS_seq
  apply wpS_region_list
  have h' : wpListS P (o :: L).toArray (Exit.thenS (y.wpS P Q) Q) L (a.put o.dst v) cs' w := by
    apply listS_of (Q' := Exit.then (y.wp P (fun e a w => Q e a cs' w)) (fun e a w => Q e a cs' w)) (Q := Exit.thenS (y.wpS P Q) Q)
    · intro e a w h
      cases e with
      | normal => exact wpS_of_wp h
      | _ => exact h
    · exact hn
    · exact h
  rcases hc with hc | ⟨hc, rfl, rfl⟩
  · exact listS_some hg hr hc h'
  · exact listS_none hg hr hc h'
end
/-- The three results' cells, as they lie. -/
structure Res3 (p : Nat) (x n f c : Value) (w : World) : Prop where
  a : w.heap[p]? = some (.cells #[x] 26 (0, 0))
  b : w.heap[p + 1]? = some (.cells #[n] 3 (0, 0))
  c : w.heap[p + 1 + 1]? = some (.cells #[f, c] 34 (0, 0))
theorem Res3.below {p : Nat} {x n f c : Value} {w w' : World} (h : Res3 p x n f c w) (hb : Below w.heap.size w w') : Res3 p x n f c w' :=
  ⟨(hb.block _ (Array.getElem?_eq_some_iff.1 h.a).1).trans h.a, (hb.block _ (Array.getElem?_eq_some_iff.1 h.b).1).trans h.b, (hb.block _ (Array.getElem?_eq_some_iff.1 h.c).1).trans h.c⟩
theorem Res3.sets {p : Nat} {x n f c : Value} {w : World} (h : Res3 p x n f c w) (v m a b : Value) :
    Res3 p v m a b ((((w.setCell ⟨p, 0, none⟩ v).setCell ⟨p + 1, 0, none⟩ m).setCell ⟨p + 1 + 1, 0, none⟩ a).setCell ⟨p + 1 + 1, 1, none⟩ b) := by
  have o : ∀ (w : World) (q j : Nat) (u : Value) (k : Nat), k ≠ q → (w.setCell ⟨q, j, none⟩ u).heap[k]? = w.heap[k]? := fun w q j u k hk => heap_setCell_other w ⟨q, j, none⟩ k u hk
  refine ⟨?_, ?_, ?_⟩
  · rw [o _ _ _ _ _ (by omega), o _ _ _ _ _ (by omega), o _ _ _ _ _ (by omega)]
    exact heap_setCell_same w p 0 _ _ v h.a
  · rw [o _ _ _ _ _ (by omega), o _ _ _ _ _ (by omega)]
    exact heap_setCell_same _ (p + 1) 0 _ _ m ((o _ _ _ _ _ (by omega)).trans h.b)
  · exact heap_setCell_same _ (p + 1 + 1) 1 _ _ b (heap_setCell_same _ (p + 1 + 1) 0 _ _ a ((o _ _ _ _ _ (by omega)).trans ((o _ _ _ _ _ (by omega)).trans h.c)))
theorem below_weak {B B' : Nat} {a b : World} (h : Below B' a b) (hB : B ≤ B') : Below B a b := ⟨h.os, h.tape, h.output, h.size, fun i hi => h.block i (Nat.lt_of_lt_of_le hi hB)⟩
theorem sets4_below (p : Nat) (w : World) (v m a b : Value) : Below p w ((((w.setCell ⟨p, 0, none⟩ v).setCell ⟨p + 1, 0, none⟩ m).setCell ⟨p + 1 + 1, 0, none⟩ a).setCell ⟨p + 1 + 1, 1, none⟩ b) :=
  ((((Below.refl p w).setCell (show p ≤ p by omega) v).setCell (show p ≤ p + 1 by omega) m).setCell (show p ≤ p + 1 + 1 by omega) a).setCell (show p ≤ p + 1 + 1 by omega) b
set_option maxHeartbeats 4000000 in
theorem catch_idle (p : Nat) (w : World) :
    CallsD Tryz.prog 16 #[.pointer (some ⟨p, 0, none⟩), .pointer (some ⟨p + 1, 0, none⟩), .pointer (some ⟨p + 1 + 1, 0, none⟩)] .returning w fun e u' w' =>
      e = .returned (.tuple #[]) ∧ u' = .returning ∧ Below w.heap.size w w' := by
  have hta : ∀ w : World, (Instr.typeAssert .nilIface 20 53 true).run Tryz.prog w = .ok (.tuple #[.agg #[.int .i64 0, .int .i64 0], .bool false]) w := fun _ => by kernel_rfl
  refine callsD_of_wpS Tryz.func16 rfl fun c₀ cs hu => ?_
  apply wpS_recover_seq (v := .nilIface) (cs' := c₀ :: cs)
  · rfl
  · kernel_rfl
  · exact .inr ⟨by simp only [recoverD, hu], rfl, rfl⟩
  · rintro a w ⟨u', h, _⟩
    cases h
  simp only [Tryz.ntmps16, List.size_toArray, List.length_cons, List.length_nil, Nat.reduceAdd, Nat.reduceSub, Array.replicate_succ, Array.replicate_zero, List.push_toArray, List.append_toArray, List.nil_append, List.cons_append]
  simp only [Act.put, List.setIfInBounds_toArray, List.set_cons_zero, List.set_cons_succ]
  go_wp2
  exact ⟨rfl, .returning, by cases c₀; cases hu; rfl, .tuple #[], results_none rfl _ _ _, rfl, rfl, by (repeat' (first | (with_reducible exact Below.refl _ _) | (with_reducible refine below_alloc ?_) | (with_reducible refine below_drew ?_) | (with_reducible refine below_drewN ?_) | (with_reducible refine below_set (by first | (simp; done) | (simp; omega)) ?_) | (with_reducible refine below_call (by with_reducible assumption) ?_)))⟩
set_option maxHeartbeats 4000000 in
theorem catch_pan (p : Nat) (w : World) (a n : Int) (x y f c : Value) (h : Res3 p x y f c w) :
    CallsD Tryz.prog 16 #[.pointer (some ⟨p, 0, none⟩), .pointer (some ⟨p + 1, 0, none⟩), .pointer (some ⟨p + 1 + 1, 0, none⟩)] (.panicking [{ v := .iface 53 (.agg #[.int .i64 a, .int .i64 n]), recovered := false }]) w fun e u' w' =>
      e = .returned (.tuple #[]) ∧ u' = .panicking [{ v := .iface 53 (.agg #[.int .i64 a, .int .i64 n]), recovered := true }] ∧ Below p w w' ∧ Res3 p (.slice none 0 0) (.int .i64 0) (.int .i64 a) (.int .i64 n) w' := by
  have hta : ∀ w : World, (Instr.typeAssert (.iface 53 (.agg #[.int .i64 a, .int .i64 n])) 20 53 true).run Tryz.prog w = .ok (.tuple #[.agg #[.int .i64 a, .int .i64 n], .bool true]) w := fun _ => by kernel_rfl
  refine callsD_of_wpS Tryz.func16 rfl fun c₀ cs hu => ?_
  apply wpS_recover_seq (v := .iface 53 (.agg #[.int .i64 a, .int .i64 n])) (cs' := { c₀ with mode := .panicking [{ v := .iface 53 (.agg #[.int .i64 a, .int .i64 n]), recovered := true }] } :: cs)
  · rfl
  · kernel_rfl
  · exact .inl (by simp only [recoverD, hu])
  · rintro a w ⟨u', h, _⟩
    cases h
  have ha := h.a
  have hb := h.b
  have hc := h.c
  have c0 := cell_of_row _ _ 0 _ _ _ ha
  have c1 := cell_of_row _ _ 0 _ _ _ hb
  have c2 := cell_of_row _ _ 0 _ _ _ hc
  have c3 := cell_of_row _ _ 1 _ _ _ hc
  have f0 := frozen_of_row _ _ 0 _ _ ha
  have f1 := frozen_of_row _ _ 0 _ _ hb
  have f2 := frozen_of_row _ _ 0 _ _ hc
  have f3 := frozen_of_row _ _ 1 _ _ hc
  simp at c0 c1 c2 c3
  have hlt := (Array.getElem?_eq_some_iff.1 hc).1
  have hlt0 : p < w.heap.size := by omega
  have hlt1 : p + 1 < w.heap.size := by omega
  simp only [Tryz.ntmps16, List.size_toArray, List.length_cons, List.length_nil, Nat.reduceAdd, Nat.reduceSub, Array.replicate_succ, Array.replicate_zero, List.push_toArray, List.append_toArray, List.nil_append, List.cons_append]
  simp only [Act.put, List.setIfInBounds_toArray, List.set_cons_zero, List.set_cons_succ]
  go_upto_region 2 with fail
  go_region_law (fail)
  all_goals
    go_wp2
    exact ⟨rfl, _, rfl, .tuple #[], results_none rfl _ _ _, rfl, rfl, (sets4_below p w _ _ _ _).trans (below_weak (by (repeat' (first | (with_reducible exact Below.refl _ _) | (with_reducible refine below_alloc ?_) | (with_reducible refine below_drew ?_) | (with_reducible refine below_drewN ?_) | (with_reducible refine below_set (by first | (simp; done) | (simp; omega)) ?_) | (with_reducible refine below_call (by with_reducible assumption) ?_)))) (by simp; omega)), (h.sets _ _ _ _).below (by (repeat' (first | (with_reducible exact Below.refl _ _) | (with_reducible refine below_alloc ?_) | (with_reducible refine below_drew ?_) | (with_reducible refine below_drewN ?_) | (with_reducible refine below_set (by first | (simp; done) | (simp; omega)) ?_) | (with_reducible refine below_call (by with_reducible assumption) ?_))))⟩
end Go.Proofs.YtbnelgniekcjdaaGreatDoor
