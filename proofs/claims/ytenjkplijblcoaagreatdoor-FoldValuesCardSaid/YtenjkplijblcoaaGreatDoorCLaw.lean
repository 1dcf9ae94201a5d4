/- A range over an iterator that keeps a row of its own in memory and hands out rows of numbers. Over any program. -/
import Derived.Test.YtenjkplijblcoaaGreatDoorCFExpr
import Derived.RangeFuncBound
import Derived.RangeFuncFrom
import Derived.RangeFuncLeaves
import Derived.RangeFuncCalls
import Derived.OrdersIn
import Derived.TacticsInMore
import Derived.Orders
import Derived.OrdersHeld
import Derived.Deep.RegionHeld
set_option linter.unusedSimpArgs false
set_option linter.unusedVariables false
namespace Go.Proofs.YtenjkplijblcoaaGreatDoor
open Go.RowKit Cap
section
variable {P : Program}

/-- The iterator's own row: a block of numbers that lies at or beyond a place. -/
def OwnRow (ti : TypeId) (n1 : Nat) (own : Option Nat) (W : World) : Prop := ∀ r, own = some r → n1 ≤ r ∧ ∃ cells fr, W.heap[r]? = some (.cells cells ti fr)
/-- A row that is handed out. -/
def Handed (ti : TypeId) (n1 : Nat) (own : Option Nat) (W : World) (v : Value) (xs : List Int) : Prop :=
  Sl encI 1 W v xs ∧ ∀ b, v.ownBlock = some b → n1 ≤ b ∧ own ≠ some b ∧ ∃ cells fr, W.heap[b]? = some (.cells cells ti fr)
/-- What a round keeps for the iterator. -/
def KeepE (n0 bx : Nat) (own : Option Nat) (A B : World) : Prop := Below n0 A B ∧ B.heap[bx]? = A.heap[bx]? ∧ ∀ r, own = some r → B.heap[r]? = A.heap[r]?
/-- A step of the iterator's own. -/
def EachStep (ti : TypeId) (n1 : Nat) (own own' : Option Nat) (A B : World) : Prop := A.grownBy B own ∧ OwnRow ti n1 own A ∧ (own' = own ∨ ∃ r, own' = some r ∧ A.heap.size ≤ r)
/-- The iterator's contract. -/
def EachC (P : Program) (ti : TypeId) (g : Nat) (lb : Array Value) (n0 bx N : Nat) (vals : Nat → List Int) (w : World) : Prop :=
  ∀ (l : Nat) (J : Nat → Option Nat → World → Prop) (W : World), Below w.heap.size w W →
    (∀ i own own' A B, J i own A → EachStep ti W.heap.size own own' A B → J i own' B) →
    (∀ i own v W1, i < N → J i own W1 → OwnRow ti W.heap.size own W1 → Handed ti W.heap.size own W1 v (vals i) → YieldAt Fence.wide 3 P l #[.int .i64 (i : Int), v] W1 fun e W' => e = .returned (.bool true) ∧ J (i + 1) own W' ∧ KeepE n0 bx own W1 W') →
    J 0 none W →
    Calls P g (#[.func (.yield l) #[] #[]] ++ lb) W fun e W' => (∃ v, e = .returned v) ∧ ∃ own, J N own W'
/-- How a round of the caller's may be left. -/
def eachPost (n0 bx : Nat) (I : Nat → Option Nat → World → Prop) (i : Nat) (own : Option Nat) (W : World) : Exit → Act → World → Prop
  | .normal, _, W' => KeepsOthers W W' ∧ KeepE n0 bx own W W' ∧ I (i + 1) own W'
  | _, _, _ => False
/-- What a record's turn leaves. -/
theorem keepE_put {n0 bx : Nat} {own : Option Nat} {ti : TypeId} {n1 l : Nat} {W : World} {o o' : Obj} (hl : W.heap[l]? = some o) (ho : o.isCells = false) (hn : n0 ≤ l) (hbx : ∃ q, W.heap[bx]? = some q ∧ q.isCells = true) (hr : OwnRow ti n1 own W) : KeepE n0 bx own W (W.putObj l o') := by
  refine ⟨(Below.refl n0 W).grown (grownBy_putObj' W l o') (by have := (Array.getElem?_eq_some_iff.1 hl).1; omega) (fun k e => by cases e; omega), World.putObj_heap_other (fun e => ?_), fun r e => World.putObj_heap_other (fun e' => ?_)⟩
  · obtain ⟨q, hq, hc⟩ := hbx
    rw [e, hl] at hq
    cases hq
    rw [ho] at hc
    cases hc
  · obtain ⟨_, c, fr, hq⟩ := hr r e
    rw [e', hl] at hq
    cases hq
    cases ho
theorem keepE_trans {n0 bx : Nat} {own : Option Nat} {A B C : World} (h : KeepE n0 bx own A B) (k : KeepE n0 bx own B C) : KeepE n0 bx own A C :=
  ⟨h.1.trans k.1, k.2.1.trans h.2.1, fun r e => (k.2.2 r e).trans (h.2.2 r e)⟩
theorem OwnRow.keep {ti : TypeId} {n1 : Nat} {own : Option Nat} {A B : World} (h : OwnRow ti n1 own A) {n0 bx : Nat} (k : KeepE n0 bx own A B) : OwnRow ti n1 own B := fun r e => by
  obtain ⟨h1, c, fr, h2⟩ := h r e
  exact ⟨h1, c, fr, (k.2.2 r e).trans h2⟩
/-- The caller's statement. -/
theorem wp_rangeFunc_each {g : Operand} {ps : Array Tmp} {assign body : Code} {Q : Exit → Act → World → Prop} {a : Act} {w : World}
    {ti : TypeId} {gf : Nat} {lb : Array Value} (hg : a.eval g = .func (.func gf) #[] lb) (eg : ∀ args w, (callFunc gf args).run P w = .ok (.enter gf args) w)
    {n0 bx N : Nat} {vals : Nat → List Int} {w0 : World} (hseq : EachC P ti gf lb n0 bx N vals w0) (hb0 : Below w0.heap.size w0 w) (hn0 : n0 ≤ w.heap.size) (hbx : ∃ q, w.heap[bx]? = some q ∧ q.isCells = true) (hps : ps.size = 2)
    (I : Nat → Option Nat → World → Prop)
    (hIo : ∀ i own A B row, I i own A → A.grownBy B row → (∀ r, row = some r → w.heap.size ≤ r ∧ ∃ o : Obj, A.heap[r]? = some o ∧ o.isCells = false) → I i own B)
    (hIe : ∀ i own own' A B, I i own A → EachStep ti w.heap.size own own' A B → I i own' B)
    (h0 : I 0 none w) (a₁ : Nat → Value → Act)
    (hassign : ∀ (l i : Nat) (v : Value) (W : World) (K : Act → World → Prop), K (a₁ i v) W →
      assign.wpIn (Fence.wide.inRound l) 3 P (Exit.then K (fun _ _ _ => False)) { tmps := (ps.zip #[.int .i64 (i : Int), v]).foldl (fun t (p, v) => t.setIfInBounds p v) a.tmps, defers := [] } W)
    (hbody : ∀ (l i : Nat) (own : Option Nat) (v : Value) (W : World), i < N → I i own W → OwnRow ti w.heap.size own W → Handed ti w.heap.size own W v (vals i) → body.wpIn (Fence.wide.inRound l) 3 P (eachPost n0 bx I i own W) (a₁ i v) W)
    (hdone : ∀ (D : Nat) (own : Option Nat) (W : World), w.heap.size ≤ D → I N own W → W.heap[D]? = some (.deferred (some [])) → Q .normal { a with defers := { target := .collected D, args := #[] } :: a.defers } W) :
    (Code.rangeFunc g ps assign body).wpIn Fence.wide 4 P Q a w := by
  refine wpIn_rangeFunc ?_
  intro fn hfn
  show ∃ (l : Nat) (mark : List Deferred) (w₁ : World) (d : Deferred) (w₁' : World) (f : FuncId) (args : Array Value) (w₂ : World), (Instr.enterLoop fn a.tmps ps assign body none).run P w = .ok (l, mark) w₁ ∧ _
  obtain ⟨rec, hrec⟩ : ∃ rec : LoopState → Option Code → Loop, rec = fun st pe => { state := st, pending := pe, fn, tmps := a.tmps, params := ps, assign, body, defers := w.heap.size } := ⟨_, rfl⟩
  obtain ⟨W1, hW1⟩ : ∃ W1, (w.alloc (.deferred (some []))).alloc (.loop (rec .ready none)) = W1 := ⟨_, rfl⟩
  have hL1 : W1.heap[w.heap.size + 1]? = some (.loop (rec .ready none)) := by
    rw [← hW1]; have := World.alloc_heap_new (w.alloc (.deferred (some []))) (.loop (rec .ready none)); rwa [World.size_alloc] at this
  have hK1 : W1.heap[w.heap.size]? = some (.deferred (some [])) := by
    rw [← hW1]; exact (Below.heap_alloc _ _ _ (by simp)).trans (World.alloc_heap_new w _)
  have hI1 : I 0 none W1 := by
    rw [← hW1]
    exact hIo 0 none _ _ none (hIo 0 none _ _ none h0 (World.grownBy_alloc w _ none) (fun r e => by cases e)) (World.grownBy_alloc _ _ none) (fun r e => by cases e)
  have hsz1 : W1.heap.size = w.heap.size + 2 := by rw [← hW1]; simp
  have hbw : Below w.heap.size w W1 := by
    rw [← hW1]; exact ((Below.refl _ w).alloc (Nat.le_refl _) _).alloc (by simp) _
  have hb1 : Below w0.heap.size w0 W1 := hb0.trans (hbw.mono hb0.size)
  have hbxlt : bx < w.heap.size := by
    obtain ⟨q, hq, _⟩ := hbx
    exact (Array.getElem?_eq_some_iff.1 hq).1
  have hbx1 : ∃ q, W1.heap[bx]? = some q ∧ q.isCells = true := by
    obtain ⟨q, hq, hc⟩ := hbx
    exact ⟨q, (hbw.block bx hbxlt).trans hq, hc⟩
  have hor : ∀ {own : Option Nat} {A : World}, OwnRow ti W1.heap.size own A → OwnRow ti w.heap.size own A := fun h r e => ⟨by have := (h r e).1; omega, (h r e).2⟩
  refine ⟨w.heap.size + 1, [{ target := .collected w.heap.size, args := #[] }], W1, { target := .fn (.func gf) lb, args := #[.func (.yield (w.heap.size + 1)) #[] #[]] }, W1, gf,
    #[.func (.yield (w.heap.size + 1)) #[] #[]] ++ lb, W1, ?_, ?_, ?_, ?_, (fun _ => by decide), ?_⟩
  · rw [← hW1, hrec]; exact run_enterLoop_outer _ _ _ _ _
  · simp only [resolve, hg]
    simp [go_sem]
  · intro f' hf'; trivial
  · simp [invoke, go_sem, eg]
  · refine callsIn_wide.2 ?_
    refine (hseq (w.heap.size + 1)
      (fun i own W => I i own W ∧ W.heap[w.heap.size + 1]? = some (.loop (rec .ready none)) ∧ W.heap[w.heap.size]? = some (.deferred (some [])) ∧ ∃ q, W.heap[bx]? = some q ∧ q.isCells = true)
      W1 hb1 ?_ ?_ ⟨hI1, hL1, hK1, hbx1⟩).mono ?_
    · -- the iterator's own steps
      rintro i own own' A B ⟨hi, hl, hk, q, hq, hqc⟩ ⟨hg', hr, ho⟩
      have hne : ∀ (k : Nat) (o : Obj), A.heap[k]? = some o → (k < W1.heap.size ∨ o.isCells = false) → B.heap[k]? = some o := by
        intro k o h1 h2
        refine (hg'.block k (Array.getElem?_eq_some_iff.1 h1).1 ?_).trans h1
        intro e
        obtain ⟨h3, c, fr, h4⟩ := hr k e.symm
        rcases h2 with h2 | h2
        · omega
        · rw [h1] at h4
          cases h4
          cases h2
      exact ⟨hIe i own own' A B hi ⟨hg', hor hr, ho⟩, hne _ _ hl (.inr rfl), hne _ _ hk (.inr rfl), q, hne _ _ hq (.inl (by omega)), hqc⟩
    · -- one round
      rintro i own v W hiN ⟨hi, hl, hk, hbq⟩ hrow hv
      have hlt : w.heap.size + 1 < W.heap.size := (Array.getElem?_eq_some_iff.1 hl).1
      have hy := run_yield (P := P) (args := #[.int .i64 (i : Int), v]) hl (by rw [hrec]; simp [hps])
      rw [hrec] at hy
      refine ⟨fn, _, assign, body, hy, roundIn_of_wpIn (F := Fence.wide) (n := 3) trivial (hassign _ i v W _ ⟨_, run_beginRound hl (by rw [hrec]), ?_⟩)⟩
      have hl2 : (W.putObj (w.heap.size + 1) (.loop { rec .ready none with state := .busy })).heap[w.heap.size + 1]? = some (.loop { rec .ready none with state := .busy }) := World.putObj_heap_same hlt
      have hk2 : (W.putObj (w.heap.size + 1) (.loop { rec .ready none with state := .busy })).heap[w.heap.size]? = some (.deferred (some [])) := (World.putObj_heap_other (by omega)).trans hk
      have hw2 : KeepE n0 bx own W (W.putObj (w.heap.size + 1) (.loop { rec .ready none with state := .busy })) := keepE_put hl rfl (by omega) hbq hrow
      have hi2 : I i own (W.putObj (w.heap.size + 1) (.loop { rec .ready none with state := .busy })) := hIo i own _ _ _ hi (grownBy_putObj' W _ _) (fun r e => by cases e; exact ⟨by omega, _, hl, rfl⟩)
      have hrow2 := hrow.keep hw2
      have hv2 : Handed ti w.heap.size own (W.putObj (w.heap.size + 1) (.loop { rec .ready none with state := .busy })) v (vals i) := by
        obtain ⟨hs, hb⟩ := hv
        refine ⟨?_, fun b e => ?_⟩
        · obtain ⟨A, c, rfl, h1, h2, h3⟩ := hs
          refine ⟨A, c, rfl, h1, h2, fun j x hx => ?_⟩
          obtain ⟨b, off, rfl, hlt', hc⟩ := h3 j x hx
          obtain ⟨_, _, cs, fr, hbb⟩ := hb b rfl
          refine ⟨b, off, rfl, by simpa using hlt', fun j' u hu => ?_⟩
          refine (World.cell?_of_block ?_).trans (hc j' u hu)
          exact World.putObj_heap_other (fun e => by
            have hbb' : W.heap[w.heap.size + 1]? = some (.cells cs ti fr) := by rw [← e]; exact hbb
            rw [hl] at hbb'
            cases hbb')
        · obtain ⟨h1, h2, cs, fr, h3⟩ := hb b e
          refine ⟨by omega, h2, cs, fr, (World.putObj_heap_other (fun e' => ?_)).trans h3⟩
          rw [e', hl] at h3
          cases h3
      refine wpIn_mono (hbody _ i own v _ hiN hi2 (hor hrow2) hv2) ?_
      rintro e a3 W3 hp
      cases e with
      | normal =>
        obtain ⟨hk3, hke3, hi3⟩ := hp
        have hl3 := hk3.same _ _ hl2 rfl
        have hend := run_endRound (P := P) none hl3
        rw [hrec] at hend
        have hl4 : (W3.putObj (w.heap.size + 1) (.loop (rec .ready none))).heap[w.heap.size + 1]? = some (.loop (rec .ready none)) := World.putObj_heap_same (Array.getElem?_eq_some_iff.1 hl3).1
        have hk4 : (W3.putObj (w.heap.size + 1) (.loop (rec .ready none))).heap[w.heap.size]? = some (.deferred (some [])) := (World.putObj_heap_other (by omega)).trans (hk3.same _ _ hk2 rfl)
        have hrow3 := hrow2.keep hke3
        have hbq3 : ∃ q, W3.heap[bx]? = some q ∧ q.isCells = true := by
          obtain ⟨q, hq, hc⟩ := hbq
          exact ⟨q, (hke3.2.1.trans hw2.2.1).trans hq, hc⟩
        have hw4 : KeepE n0 bx own W3 (W3.putObj (w.heap.size + 1) (.loop (rec .ready none))) := keepE_put hl3 rfl (by omega) hbq3 hrow3
        rw [hrec] at hl4 hk4 hw4
        have hl3' := hl3
        rw [hrec] at hl3'
        refine ⟨_, _, hend, rfl, ⟨?_, ?_, ?_, ?_⟩, ?_⟩
        · exact hIo (i + 1) own _ _ _ hi3 (grownBy_putObj' W3 _ _) (fun r e => by cases e; exact ⟨by omega, _, hl3', rfl⟩)
        · rw [hrec]
          exact hl4
        · exact hk4
        · obtain ⟨q, hq, hc⟩ := hbq3
          exact ⟨q, hw4.2.1.trans hq, hc⟩
        · exact keepE_trans (keepE_trans hw2 hke3) hw4
      | ret => exact hp.elim
      | exit id => exact hp.elim
      | goto t => exact hp.elim
      | panic ch => exact hp.elim
      | outgrown => exact hp.elim
    · rintro e W2 ⟨⟨v, rfl⟩, own, hi, hl, hk, _⟩
      refine ⟨none, _, by have := run_endLoop (P := P) hl (by rw [hrec]; simp); rw [hrec] at this; exact this, hdone _ own _ (Nat.le_refl _) (hIo N own _ _ _ hi (grownBy_putObj' W2 _ _) (fun r e => by cases e; exact ⟨by omega, _, hl, rfl⟩)) ((World.putObj_heap_other (by omega)).trans hk)⟩
end
end Go.Proofs.YtenjkplijblcoaaGreatDoor

/- A region walked as anywhere, in a round of a range over a function. Over any program. -/
namespace Go.Proofs.YtenjkplijblcoaaGreatDoor
open Go.RowKit Cap
section
variable {P : Program} {ops : Array Oper} {Q : Exit → Act → World → Prop} {md : Region.Mode} {l n : Nat}

/-- No operation of a region puts a call off. -/
def noDefer (ops : Array Oper) : Bool := ops.toList.all fun o => match o.op with
  | .defer _ => false
  | _ => true
theorem noDefer_at {o : Oper} (h : noDefer ops = true) (ho : o ∈ ops.toList) : ∀ c, o.op ≠ .defer c := by
  intro c e
  have := List.all_eq_true.1 h o ho
  rw [e] at this
  cases this
theorem oper_in {o : Oper} {a : Act} {w : World} {K : Act → World → Prop} (hnd : ∀ c, o.op ≠ .defer c) (hlo : ∀ a w, ¬ Q .outgrown a w) (h : o.wp P a w K Q) : o.wpIn (Fence.wide.inRound l) n P a w K Q := by
  refine ⟨fun _ _ => trivial, ?_⟩
  show o.uponIn (Fence.wide.inRound l) n P a K Q ((Oper.semAt (some l) a.eval o).run P w)
  rw [Oper.semAt_eq _ _ _ hnd]
  unfold Oper.wp at h
  generalize (execOp a.eval o).run P w = r at *
  cases r with
  | ok x w' =>
    have hdep : (Fence.wide.inRound l).depth.isSome = true → 1 ≤ n := by
      intro hd
      simp [Fence.wide] at hd
    cases x <;> simp only [Oper.upon, Oper.uponIn] at h ⊢ <;>
      first
        | exact h
        | exact ⟨hdep, CallsIn.inRound l (callsIn_wide.2 (Calls.mono h (fun e w'' he => by cases e <;> exact he)))⟩
        | exact ⟨hdep, fun c cs _ => by
            obtain ⟨v, w'', hr, hs⟩ := h c cs
            exact ⟨v, w'', hr, stepsIn_wide.2 hs⟩⟩
        | exact h.elim
  | halt x w' => cases x <;> exact h
theorem wpOp_in {i : Nat} {a : Act} {w : World} {K : Act → World → Prop} (hnd : noDefer ops = true) (hlo : ∀ a w, ¬ Q .outgrown a w) (h : wpOp P ops Q i K a w) : wpOpIn (Fence.wide.inRound l) n P ops Q i K a w := by
  unfold wpOp at h
  unfold wpOpIn
  cases ho : ops[i]? with
  | none =>
    rw [ho] at h
    exact h
  | some o =>
    rw [ho] at h
    simp only at h ⊢
    have hm : o ∈ ops.toList := by
      have := Array.mem_of_getElem? ho
      simpa using this
    split
    · rename_i hw
      rw [if_pos hw] at h
      rcases h with h | ⟨_, a', w', h⟩
      · exact oper_in (noDefer_at hnd hm) hlo h
      · exact (hlo _ _ h).elim
    · rename_i hw
      rw [if_neg hw] at h
      exact ⟨fun _ _ => trivial, h⟩
theorem wpAny_in (hnd : noDefer ops = true) (hlo : ∀ a w, ¬ Q .outgrown a w) : ∀ (fuel : Nat) (listed : Array Bool) (a : Act) (w : World), wpAny P md ops Q fuel listed a w → wpAnyIn (Fence.wide.inRound l) n P md ops Q fuel listed a w
  | 0, _, _, _, h => h
  | fuel + 1, listed, a, w, h => ⟨h.1, fun i hi => wpOp_in hnd hlo (wpOp_mono (fun a w hk => wpAny_in hnd hlo fuel _ a w hk) (h.2 i hi))⟩
/-- A region that draws its order. -/
theorem region_in {id : Nat} {a : Act} {w : World} (hm : P.follows .mixedOrders = true) (hnd : noDefer ops = true) (hlo : ∀ a w, ¬ Q .outgrown a w)
    (h : wpAny P .any ops Q ops.size (Array.replicate ops.size false) a w.drew) : (Code.region id ops true).wpIn (Fence.wide.inRound l) n P Q a w :=
  wpIn_region_any hm (wpAny_in hnd hlo _ _ _ _ h)
theorem region_in_held {S : World → Prop} {id : Nat} {a : Act} {w : World} (hm : P.follows .mixedOrders = true) (hnd : noDefer ops = true) (hlo : ∀ a w, ¬ Q .outgrown a w) (hS : S w.drew)
    (h : S w.drew → wpAnyH P .any ops Q S ops.size (Array.replicate ops.size false) a w.drew) : (Code.region id ops true).wpIn (Fence.wide.inRound l) n P Q a w :=
  region_in hm hnd hlo (wpAny_of_held _ _ _ _ (h hS))
theorem wpList_in (hlo : ∀ a w, ¬ Q .outgrown a w) : ∀ (os : List Oper) (a : Act) (w : World), (∀ o ∈ os, ∀ c, o.op ≠ .defer c) → wpList P ops Q os a w → wpListIn (Fence.wide.inRound l) n P ops Q os a w
  | [], _, _, _, h => h
  | o :: r, a, w, hnd, h => by
    unfold wpList at h
    unfold wpListIn
    have hr : ∀ a w, wpList P ops Q r a w → wpListIn (Fence.wide.inRound l) n P ops Q r a w := fun a w hk => wpList_in hlo r a w (fun o ho => hnd o (by simp [ho])) hk
    split
    · rename_i hw
      rw [if_pos hw] at h
      rcases h with h | ⟨_, a', w', h⟩
      · exact oper_in (hnd o (by simp)) hlo (Oper.wp_mono hr h)
      · exact (hlo _ _ h).elim
    · rename_i hw
      rw [if_neg hw] at h
      exact ⟨fun _ _ => trivial, hr _ _ h⟩
/-- A region in its order. -/
theorem region_in_list {id : Nat} {os : List Oper} {a : Act} {w : World} (hnd : noDefer os.toArray = true) (hlo : ∀ a w, ¬ Q .outgrown a w)
    (h : wpList P os.toArray Q os a w) : (Code.region id os.toArray false).wpIn (Fence.wide.inRound l) n P Q a w :=
  wpIn_region_lit (wpList_in hlo os a w (fun o ho => noDefer_at hnd (by simpa using ho)) h)
end
end Go.Proofs.YtenjkplijblcoaaGreatDoor
