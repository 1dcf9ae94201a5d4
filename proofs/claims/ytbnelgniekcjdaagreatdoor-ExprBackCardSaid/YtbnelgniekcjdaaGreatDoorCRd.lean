/- The reader of an expression, as it lies: its cells, its row of parts; what its methods keep. -/
import Derived.Test.YtbnelgniekcjdaaGreatDoorCEPLaw
import Derived.Test.YtbnelgniekcjdaaGreatDoorCKit
import Derived.Test.YtbnelgniekcjdaaGreatDoorCFBase
set_option linter.unusedSimpArgs false
set_option linter.unusedVariables false
namespace Go.Proofs.YtbnelgniekcjdaaGreatDoor
open Go.RowKit Cap

theorem hpA {W : World} {b : Nat} {o q : Obj} (h : W.heap[b]? = some o) : (W.alloc q).heap[b]? = some o := by
  rw [heap_alloc_old W q (Array.getElem?_eq_some_iff.1 h).1]
  exact h
theorem hpD {W : World} {b : Nat} {o : Obj} (h : W.heap[b]? = some o) : W.drew.heap[b]? = some o := h
theorem hpG {W W' : World} {b : Nat} {o : Obj} {row : Option Nat} (hg : W.grownBy W' row) (hn : row ≠ some b) (h : W.heap[b]? = some o) : W'.heap[b]? = some o :=
  (hg.block b (Array.getElem?_eq_some_iff.1 h).1 (fun e => hn e.symm)).trans h
/-- Of what was there, block rb and rows of parts alone may have turned. -/
structure St (rb : Nat) (w w' : World) : Prop where
  size : w.heap.size ≤ w'.heap.size
  keeps : ∀ k o, w.heap[k]? = some o → k ≠ rb → (∀ cs fr, o ≠ .cells cs 44 fr) → w'.heap[k]? = some o
theorem St.refl (rb : Nat) (w : World) : St rb w w := ⟨Nat.le_refl _, fun _ _ h _ _ => h⟩
theorem St.trans {rb : Nat} {w w' w'' : World} (h : St rb w w') (h' : St rb w' w'') : St rb w w'' := ⟨Nat.le_trans h.size h'.size, fun k o hk hb ho => h'.keeps k o (h.keeps k o hk hb ho) hb ho⟩
theorem St.drew {rb : Nat} {w w' : World} (h : St rb w w') : St rb w w'.drew := ⟨h.size, h.keeps⟩
theorem St.drewN {rb n : Nat} {w w' : World} (h : St rb w w') : St rb w (w'.drewN n) := ⟨h.size, h.keeps⟩
theorem St.alloc {rb : Nat} {w w' : World} {q : Obj} (h : St rb w w') : St rb w (w'.alloc q) :=
  ⟨by have := h.size; simp; omega, fun k o hk hb ho => by
    have h1 := h.keeps k o hk hb ho
    rw [heap_alloc_old w' q (Array.getElem?_eq_some_iff.1 h1).1]
    exact h1⟩
theorem St.set {rb : Nat} {w w' : World} (h : St rb w w') (j : Nat) (v : Value) : St rb w (w'.setCell ⟨rb, j, none⟩ v) :=
  ⟨by have := h.size; simpa using this, fun k o hk hb ho => (heap_setCell_other w' ⟨rb, j, none⟩ k v hb).trans (h.keeps k o hk hb ho)⟩
theorem St.set_new {rb : Nat} {w w' : World} (h : St rb w w') {a : Addr} {v : Value} (ha : w.heap.size ≤ a.block) : St rb w (w'.setCell a v) :=
  ⟨by have := h.size; simpa using this, fun k o hk hb ho => (heap_setCell_other w' a k v (by have := (Array.getElem?_eq_some_iff.1 hk).1; omega)).trans (h.keeps k o hk hb ho)⟩
theorem St.call {rb : Nat} {w w' w'' : World} (k : Below w'.heap.size w' w'') (h : St rb w w') : St rb w w'' :=
  ⟨Nat.le_trans h.size k.size, fun i o hi hb ho => by
    have h1 := h.keeps i o hi hb ho
    exact (k.block i (Array.getElem?_eq_some_iff.1 h1).1).trans h1⟩
theorem St.grown {rb : Nat} {w w' w'' : World} {row : Option Nat} (h : St rb w w') (hg : w'.grownBy w'' row) (hr : ∀ g, row = some g → ∃ cs fr, w'.heap[g]? = some (.cells cs 44 fr)) : St rb w w'' :=
  ⟨Nat.le_trans h.size hg.size, fun k o hk hb ho => by
    have h1 := h.keeps k o hk hb ho
    refine (hg.block k (Array.getElem?_eq_some_iff.1 h1).1 fun e => ?_).trans h1
    obtain ⟨cs, fr, h2⟩ := hr k e.symm
    rw [h1] at h2
    injection h2 with h2
    exact ho cs fr h2⟩
theorem St.cell {rb : Nat} {w w' : World} (h : St rb w w') {b j : Nat} {cs : Array Value} {T : TypeId} {fr : Nat × Nat} (hb : w.heap[b]? = some (.cells cs T fr)) (h1 : b ≠ rb) (h2 : T ≠ 44) : w'.cell? ⟨b, j, none⟩ = cs[j]? := by
  rw [cell_of_row _ _ _ _ _ _ (h.keeps b _ hb h1 (fun cs' fr' e => by injection e with e1 e2 e3; exact h2 e2))]
/-- The reader: its tokens, where it reads, how deep, what it has put. -/
structure Rd (w0 : World) (rb : Nat) (lv : Value) (a d : Nat) (ov : Value) (o : List Prt) (w : World) : Prop where
  b0 : Below w0.heap.size w0 w
  hr : w0.heap.size ≤ rb
  at_ : w.heap[rb]? = some (.cells #[lv, .int .i64 a, .int .i64 d, ov] 57 (0, 0))
  own : w.ownsRow w0.heap.size 44 5 ov o.length (o.flatMap encPrt)
theorem own_lt {w : World} {base : Nat} {e : TypeId} {k : Nat} {v : Value} {n : Nat} {xs : List Value} (h : w.ownsRow base e k v n xs) : ∀ g, v.ownBlock = some g → base ≤ g ∧ g < w.heap.size := by
  intro g hg
  rcases h.2 with ⟨rfl, _⟩ | ⟨g', cap, cur, rfl, hb', hh, _⟩
  · simp [Value.ownBlock] at hg
  · simp [Value.ownBlock] at hg
    subst hg
    exact ⟨hb', (Array.getElem?_eq_some_iff.1 hh).1⟩
section
variable {w0 w : World} {rb : Nat} {lv ov : Value} {a d : Nat} {o : List Prt}
theorem Rd.lt (h : Rd w0 rb lv a d ov o w) : rb < w.heap.size := (Array.getElem?_eq_some_iff.1 h.at_).1
theorem Rd.ne (h : Rd w0 rb lv a d ov o w) : ov.ownBlock ≠ some rb := by
  intro e
  rcases h.own.2 with ⟨rfl, _⟩ | ⟨g', cap, cur, rfl, hb', hh, _⟩
  · cases e
  · injection e with e
    have e : g' = rb := e
    subst e
    rw [h.at_] at hh
    injection hh with hh
    injection hh with h1 h2 h3
    exact absurd h2 (by decide)
theorem Rd.cells (h : Rd w0 rb lv a d ov o w) : (w.cell? ⟨rb, 0, none⟩ = some lv ∧ w.cell? ⟨rb, 1, none⟩ = some (.int .i64 a) ∧ w.cell? ⟨rb, 2, none⟩ = some (.int .i64 d) ∧ w.cell? ⟨rb, 3, none⟩ = some ov) ∧
    (∀ j, w.frozen? ⟨rb, j, none⟩ = false) := by
  refine ⟨⟨?_, ?_, ?_, ?_⟩, fun j => ?_⟩
  · rw [cell_of_row _ _ _ _ _ _ h.at_]; rfl
  · rw [cell_of_row _ _ _ _ _ _ h.at_]; rfl
  · rw [cell_of_row _ _ _ _ _ _ h.at_]; rfl
  · rw [cell_of_row _ _ _ _ _ _ h.at_]; rfl
  · simp [World.frozen?, h.at_]
theorem Rd.row (h : Rd w0 rb lv a d ov o w) : ∀ g, ov.ownBlock = some g → ∃ cs fr, w.heap[g]? = some (.cells cs 44 fr) := by
  intro g hg
  rcases h.own.2 with ⟨rfl, _⟩ | ⟨g', cap, cur, rfl, hb', hh, _⟩
  · simp [Value.ownBlock] at hg
  · simp [Value.ownBlock] at hg
    subst hg
    exact ⟨_, _, hh⟩
theorem Rd.ge (h : Rd w0 rb lv a d ov o w) : ∀ g, ov.ownBlock = some g → w0.heap.size ≤ g := fun g e => (own_lt h.own g e).1
theorem own_keep {w w' : World} {base : Nat} {e : TypeId} {k : Nat} {v : Value} {n : Nat} {xs : List Value} (h : w.ownsRow base e k v n xs) (hk : ∀ g, v.ownBlock = some g → w'.heap[g]? = w.heap[g]?) : w'.ownsRow base e k v n xs := by
  refine ⟨h.1, ?_⟩
  rcases h.2 with h | ⟨g, cap, cur, rfl, hb, hg, rest⟩
  · exact .inl h
  · exact .inr ⟨g, cap, cur, rfl, hb, (hk g rfl).trans hg, rest⟩
theorem Rd.below (h : Rd w0 rb lv a d ov o w) {w' : World} (hb : Below w.heap.size w w') : Rd w0 rb lv a d ov o w' :=
  ⟨below_call hb h.b0, h.hr, (hb.block rb h.lt).trans h.at_, own_below h.own hb⟩
theorem Rd.set_at (h : Rd w0 rb lv a d ov o w) (b : Nat) : Rd w0 rb lv b d ov o (w.setCell ⟨rb, 1, none⟩ (.int .i64 b)) :=
  ⟨below_set h.hr h.b0, h.hr, heap_setCell_same w rb 1 _ _ _ h.at_, own_keep h.own fun g e => heap_setCell_other w ⟨rb, 1, none⟩ g _ (by rintro rfl; exact h.ne e)⟩
theorem Rd.set_deep (h : Rd w0 rb lv a d ov o w) (b : Nat) : Rd w0 rb lv a b ov o (w.setCell ⟨rb, 2, none⟩ (.int .i64 b)) :=
  ⟨below_set h.hr h.b0, h.hr, heap_setCell_same w rb 2 _ _ _ h.at_, own_keep h.own fun g e => heap_setCell_other w ⟨rb, 2, none⟩ g _ (by rintro rfl; exact h.ne e)⟩
theorem Rd.next (h : Rd w0 rb lv a d ov o w) : Rd w0 rb lv (a + 1) d ov o (w.setCell ⟨rb, 1, none⟩ (.int .i64 ((a : Int) + 1))) := h.set_at (a + 1)
theorem Rd.deeper (h : Rd w0 rb lv a d ov o w) : Rd w0 rb lv a (d + 1) ov o (w.setCell ⟨rb, 2, none⟩ (.int .i64 ((d : Int) + 1))) := h.set_deep (d + 1)
/-- Behind an append to its row, and the store of what came of it. -/
theorem Rd.put (h : Rd w0 rb lv a d ov o w) {w' : World} {v' : Value} {x : Prt} (hg : w.grownBy w' ov.ownBlock) (ho : w'.ownsRow w0.heap.size 44 5 v' (o.length + 1) (o.flatMap encPrt ++ encPrt x)) :
    Rd w0 rb lv a d v' (o ++ [x]) (w'.setCell ⟨rb, 3, none⟩ v') := by
  have hb : w'.heap[rb]? = some (.cells #[lv, .int .i64 a, .int .i64 d, ov] 57 (0, 0)) := (hg.block rb h.lt (fun e => h.ne e.symm)).trans h.at_
  have hne : v'.ownBlock ≠ some rb := by
    intro e
    rcases ho.2 with ⟨rfl, _⟩ | ⟨g', cap, cur, rfl, hb', hh, _⟩
    · cases e
    · injection e with e
      have e : g' = rb := e
      subst e
      rw [hb] at hh
      injection hh with hh
      injection hh with h1 h2 h3
      exact absurd h2 (by decide)
  have hbe : Below w0.heap.size w0 w' := ⟨hg.os.trans h.b0.os, hg.tape.trans h.b0.tape, hg.output.trans h.b0.output, Nat.le_trans h.b0.size hg.size, fun i hi => (hg.block i (Nat.lt_of_lt_of_le hi h.b0.size) (fun e => by have := h.ge i e.symm; omega)).trans (h.b0.block i hi)⟩
  refine ⟨below_set h.hr hbe, h.hr, heap_setCell_same w' rb 3 _ _ _ hb, ?_⟩
  rw [List.length_append, List.flatMap_append]
  refine own_keep (w := w') (by simpa using ho) fun g e => heap_setCell_other w' ⟨rb, 3, none⟩ g _ (by rintro rfl; exact hne e)
/-- Behind a store elsewhere. -/
theorem Rd.set_new (h : Rd w0 rb lv a d ov o w) {q : Addr} {v : Value} (h0 : w0.heap.size ≤ q.block) (h1 : q.block ≠ rb) (h2 : ov.ownBlock ≠ some q.block) : Rd w0 rb lv a d ov o (w.setCell q v) :=
  ⟨below_set h0 h.b0, h.hr, (heap_setCell_other w q rb v (fun e => h1 e.symm)).trans h.at_, own_keep h.own fun g e => heap_setCell_other w q g _ (by rintro rfl; exact h2 e)⟩
end
/-- What a reader's method leaves: it has read, or it has given up. -/
inductive RdE (w0 w : World) (rb : Nat) (lv : Value) (d : Nat) (o : List Prt) : PR → Ending → World → Prop
  | ok {b : Nat} {y : List Prt} {w' : World} {ov' : Value} (h : Rd w0 rb lv b d ov' (o ++ y) w') (hk : St rb w w') : RdE w0 w rb lv d o (.ok b y) (.returned (.tuple #[])) w'
  | no {b : Nat} {e : Int} {w' : World} (hb : Below w0.heap.size w0 w') (hk : St rb w w') : RdE w0 w rb lv d o (.no b e) (.panicked [{ v := .iface 53 (.agg #[.int .i64 b, .int .i64 e]), recovered := false }]) w'
end Go.Proofs.YtbnelgniekcjdaaGreatDoor
