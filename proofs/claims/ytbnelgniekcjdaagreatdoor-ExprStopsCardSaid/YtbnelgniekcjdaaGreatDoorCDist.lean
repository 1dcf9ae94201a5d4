/- A region that draws its order, walked in one piece: each operation leaves its own fact, whatever came before it; the last one comes behind all. Over any program. -/
import Derived.Test.YtbnelgniekcjdaaGreatDoorCOwn
import Derived.Great.Frames
set_option linter.unusedSimpArgs false
set_option linter.unusedVariables false
namespace Go.Proofs.YtbnelgniekcjdaaGreatDoor
open Go.RowKit
section
variable {P : Program} {ops : Array Oper} {Q : Exit → Act → World → Prop} {md : Region.Mode}

/-- How many have not come up. -/
def unl (n : Nat) (listed : Array Bool) : Nat := ((List.range n).filter fun i => !listed.getD i true).length
theorem getD_set_self {l : Array Bool} {i : Nat} (h : i < l.size) : (l.setIfInBounds i true).getD i true = true := by
  simp [h]
theorem getD_set_other {l : Array Bool} {i j : Nat} {d : Bool} (h : i ≠ j) : (l.setIfInBounds i true).getD j d = l.getD j d := by
  simp only [Array.getD_eq_getD_getElem?]
  rw [Array.getElem?_setIfInBounds_ne h]
theorem unl_set {n i : Nat} {l : Array Bool} (hl : l.size = n) (hi : i < n) (h : l.getD i true = false) : unl n (l.setIfInBounds i true) < unl n l := by
  unfold unl
  rw [← List.countP_eq_length_filter, ← List.countP_eq_length_filter]
  have key : ∀ L : List Nat, (L.countP fun j => !(l.setIfInBounds i true).getD j true) ≤ (L.countP fun j => !l.getD j true) ∧ (i ∈ L → (L.countP fun j => !(l.setIfInBounds i true).getD j true) < (L.countP fun j => !l.getD j true)) := by
    intro L
    induction L with
    | nil => exact ⟨Nat.le_refl _, fun h => by cases h⟩
    | cons x L ih =>
      rw [List.countP_cons, List.countP_cons]
      by_cases e : i = x
      · subst e
        rw [getD_set_self (by omega), h]
        have := ih.1
        simp only [Bool.not_true, Bool.not_false, if_true, Bool.false_eq_true, if_false]
        exact ⟨by omega, fun _ => by omega⟩
      · rw [getD_set_other e]
        refine ⟨by have := ih.1; omega, fun hm => ?_⟩
        rcases List.mem_cons.1 hm with hm | hm
        · exact absurd hm e
        · have := ih.2 hm; omega
  exact (key _).2 (List.mem_range.2 hi)

theorem wpAny_dist (m : Nat) (hm : ops.size = m + 1) (J : Act → World → Prop) (D : Nat → Act → World → Prop)
    (hac : ∀ (i : Nat) (o : Oper), ops[i]? = some o → o.guard = none ∧ ∀ e ∈ o.after, e.on < i)
    (hall : ∀ (o : Oper), ops[m]? = some o → ∀ i, i < m → ∃ e ∈ o.after, Region.binds md e = true ∧ e.on = i)
    (hstep : ∀ (i : Nat) (o : Oper), i < m → ops[i]? = some o → ∀ a w, J a w → (∀ e ∈ o.after, Region.binds md e = true → D e.on a w) → ∀ K' : Act → World → Prop,
      (∀ v w', J (a.put o.dst v) w' → D i (a.put o.dst v) w' → (∀ j, j ≠ i → D j a w → D j (a.put o.dst v) w') → K' (a.put o.dst v) w') → o.wp P a w K' Q)
    (hlast : ∀ (o : Oper), ops[m]? = some o → ∀ a w, J a w → (∀ i, i < m → D i a w) → ∀ K' : Act → World → Prop, (∀ a w', Q .normal a w' → K' a w') → o.wp P a w K' Q) :
    ∀ (fuel : Nat) (listed : Array Bool) (a : Act) (w : World), listed.size = m + 1 → listed.getD m true = false → unl (m + 1) listed ≤ fuel → J a w →
      (∀ i, i < m → listed.getD i true = true → D i a w) → wpAny P md ops Q fuel listed a w := by
  have hne : ∀ listed : Array Bool, listed.size = m + 1 → listed.getD m true = false → Region.ready md ops listed ≠ [] := by
    intro listed hs hl h0
    have : ∀ k i, i < k → i ≤ m → listed.getD i true = true := by
      intro k
      induction k with
      | zero => intro i h; omega
      | succ k ih =>
        intro i hk him
        by_cases hik : i < k
        · exact ih i hik him
        · cases hb : listed.getD i true with
          | true => rfl
          | false =>
            exfalso
            have hio : i < ops.size := by omega
            have hmem : i ∈ Region.ready md ops listed := by
              refine mem_ready.2 ⟨hb, ops[i], Array.getElem?_eq_getElem hio, fun e he _ => ?_⟩
              have h1 := (hac i _ (Array.getElem?_eq_getElem hio)).2 e he
              have h2 := ih e.on (by omega) (by omega)
              rw [Array.getD_eq_getD_getElem?] at h2 ⊢
              rw [Array.getElem?_eq_getElem (by omega)] at h2 ⊢
              exact h2
            rw [h0] at hmem
            cases hmem
    rw [this (m + 1) m (by omega) (Nat.le_refl _)] at hl
    cases hl
  intro fuel
  induction fuel with
  | zero =>
    intro listed a w hs hl hu _ _
    exfalso
    have := unl_set (l := listed) hs (show m < m + 1 by omega) hl
    omega
  | succ fuel ih =>
    intro listed a w hs hl hu hJ hD
    refine ⟨fun h0 => absurd h0 (hne listed hs hl), fun i hi => ?_⟩
    obtain ⟨hli, o, ho, hed⟩ := mem_ready.1 hi
    have hio : i < ops.size := (Array.getElem?_eq_some_iff.1 ho).1
    unfold wpOp
    rw [ho]
    simp only []
    have hw : Region.wanted o (yielded ops a.tmps) = true := by unfold Region.wanted; rw [(hac i o ho).1]
    rw [if_pos hw]
    left
    have hlt : ∀ e ∈ o.after, Region.binds md e = true → listed.getD e.on true = true := by
      intro e he hb
      have h1 := hed e he hb
      have h2 := (hac i o ho).2 e he
      rw [Array.getD_eq_getD_getElem?] at h1 ⊢
      rw [Array.getElem?_eq_getElem (by omega)] at h1 ⊢
      exact h1
    by_cases him : i = m
    · subst him
      refine hlast o ho a w hJ (fun j hj => ?_) _ (fun a' w' hq => ?_)
      · obtain ⟨e, he, hb, rfl⟩ := hall o ho j hj
        exact hD _ hj (hlt e he hb)
      · refine wpAny_done ?_ hq fuel
        have : ∀ j, j ∉ Region.ready md ops (listed.setIfInBounds i true) := by
          intro j hj
          obtain ⟨h1, o', ho', _⟩ := mem_ready.1 hj
          have hjo : j < ops.size := (Array.getElem?_eq_some_iff.1 ho').1
          by_cases hji : i = j
          · subst hji
            rw [getD_set_self (by omega)] at h1
            cases h1
          · rw [getD_set_other hji] at h1
            obtain ⟨e, he, hb, he2⟩ := hall o ho j (by omega)
            have := hlt e he hb
            rw [he2, h1] at this
            cases this
        exact List.eq_nil_iff_forall_not_mem.2 this
    · refine hstep i o (by omega) ho a w hJ (fun e he hb => hD _ (by have := (hac i o ho).2 e he; omega) (hlt e he hb)) _ (fun v w' hJ' hDi hkeep => ?_)
      refine ih _ _ _ (by simpa using hs) (by rw [getD_set_other him]; exact hl) ?_ hJ' (fun j hj hlj => ?_)
      · have := unl_set (l := listed) hs (show i < m + 1 by omega) hli
        omega
      · by_cases hji : i = j
        · subst hji; exact hDi
        · rw [getD_set_other hji] at hlj
          exact hkeep j (fun e => hji e.symm) (hD j hj hlj)
theorem unl_none (n : Nat) : unl n (Array.replicate n false) ≤ n := by
  unfold unl
  exact Nat.le_trans (List.length_filter_le _ _) (by simp)
/-- The whole region. -/
theorem wp_region_dist {id : Nat} (hmx : P.follows .mixedOrders = true) (m : Nat) (hm : ops.size = m + 1) (J : Act → World → Prop) (D : Nat → Act → World → Prop)
    (hac : ∀ (i : Nat) (o : Oper), ops[i]? = some o → o.guard = none ∧ ∀ e ∈ o.after, e.on < i)
    (hall : ∀ (o : Oper), ops[m]? = some o → ∀ i, i < m → ∃ e ∈ o.after, Region.binds .any e = true ∧ e.on = i)
    (hstep : ∀ (i : Nat) (o : Oper), i < m → ops[i]? = some o → ∀ a w, J a w → (∀ e ∈ o.after, Region.binds .any e = true → D e.on a w) → ∀ K' : Act → World → Prop,
      (∀ v w', J (a.put o.dst v) w' → D i (a.put o.dst v) w' → (∀ j, j ≠ i → D j a w → D j (a.put o.dst v) w') → K' (a.put o.dst v) w') → o.wp P a w K' Q)
    (hlast : ∀ (o : Oper), ops[m]? = some o → ∀ a w, J a w → (∀ i, i < m → D i a w) → ∀ K' : Act → World → Prop, (∀ a w', Q .normal a w' → K' a w') → o.wp P a w K' Q)
    (a : Act) (w : World) (hJ : J a w.drew) : (Code.region id ops true).wp P Q a w := by
  refine wp_region_any hmx ?_
  refine wpAny_dist m hm J D hac hall hstep hlast _ _ _ _ (by simp [hm]) (by simp [hm]) (by rw [← hm]; exact unl_none _) hJ (fun i hi hl => ?_)
  rw [Array.getD_eq_getD_getElem?] at hl
  simp [hm, show i < m + 1 by omega] at hl
/-- What an operation waits for. -/
def DepsD (D : Nat → Act → World → Prop) (a : Act) (w : World) : List Edge → Prop
  | [] => True
  | e :: r => (Region.binds .any e = true → D e.on a w) ∧ DepsD D a w r
theorem depsD_of {D : Nat → Act → World → Prop} {a : Act} {w : World} : ∀ {l : List Edge}, (∀ e ∈ l, Region.binds .any e = true → D e.on a w) → DepsD D a w l
  | [], _ => trivial
  | e :: r, h => ⟨h e (by simp), depsD_of fun x hx => h x (by simp [hx])⟩
/-- Each operation of a list leaves its own fact. -/
def StepsOk (P : Program) (Q : Exit → Act → World → Prop) (J : Act → World → Prop) (D : Nat → Act → World → Prop) : Nat → List Oper → Prop
  | _, [] => True
  | i, o :: r => (∀ a w, J a w → DepsD D a w o.after.toList → ∀ K' : Act → World → Prop,
      (∀ v w', J (a.put o.dst v) w' → D i (a.put o.dst v) w' → (∀ j, j ≠ i → D j a w → D j (a.put o.dst v) w') → K' (a.put o.dst v) w') → o.wp P a w K' Q) ∧ StepsOk P Q J D (i + 1) r
theorem stepsOk_at {J : Act → World → Prop} {D : Nat → Act → World → Prop} : ∀ {l : List Oper} {k : Nat}, StepsOk P Q J D k l → ∀ (i : Nat) (o : Oper), l[i]? = some o → ∀ a w, J a w → DepsD D a w o.after.toList → ∀ K' : Act → World → Prop,
      (∀ v w', J (a.put o.dst v) w' → D (k + i) (a.put o.dst v) w' → (∀ j, j ≠ k + i → D j a w → D j (a.put o.dst v) w') → K' (a.put o.dst v) w') → o.wp P a w K' Q
  | [], _, _, _, _, ho => by simp at ho
  | x :: r, k, h, 0, o, ho => by
    obtain rfl : x = o := by simpa using ho
    exact h.1
  | x :: r, k, h, i + 1, o, ho => by
    have := stepsOk_at h.2 i o (by simpa using ho)
    rw [show k + 1 + i = k + (i + 1) from by omega] at this
    exact this
/-- Are all edges backward, no operation guarded, and does the last wait for all? -/
def distB (l : List Oper) (z : Oper) : Bool :=
  ((List.range (l.length + 1)).all fun i => match (l ++ [z])[i]? with | none => true | some o => o.guard.isNone && o.after.toList.all fun e => decide (e.on < i)) &&
    (List.range l.length).all fun i => z.after.toList.any fun e => Region.binds .any e && e.on == i
/-- The whole region, its operations in a list, the last apart. -/
theorem wp_region_list {id : Nat} (hmx : P.follows .mixedOrders = true) {ops : List Oper} (l : List Oper) (z : Oper) (hl : ops = l ++ [z]) (hB : distB l z = true) (J : Act → World → Prop) (D : Nat → Act → World → Prop) (a : Act) (w : World) (hJ : J a w.drew)
    (hsteps : StepsOk P Q J D 0 l)
    (hlast : ∀ a w, J a w → (∀ i, i < l.length → D i a w) → ∀ K' : Act → World → Prop, (∀ a w', Q .normal a w' → K' a w') → z.wp P a w K' Q) : (Code.region id ops.toArray true).wp P Q a w := by
  subst hl
  unfold distB at hB
  rw [Bool.and_eq_true, List.all_eq_true, List.all_eq_true] at hB
  have hz : (l ++ [z]).toArray[l.length]? = some z := by simp
  refine wp_region_dist hmx l.length (by simp) J D ?_ ?_ ?_ ?_ a w hJ
  · intro i o ho
    have ho' : (l ++ [z])[i]? = some o := by simpa using ho
    have hi : i < l.length + 1 := by simpa using (List.getElem?_eq_some_iff.1 ho').1
    have := hB.1 i (List.mem_range.2 hi)
    rw [ho'] at this
    simp only [Bool.and_eq_true, List.all_eq_true, decide_eq_true_eq, Option.isNone_iff_eq_none] at this
    exact ⟨this.1, fun e he => this.2 e (by simpa using he)⟩
  · intro o ho i hi
    obtain rfl : z = o := Option.some.inj (hz.symm.trans ho)
    have := hB.2 i (List.mem_range.2 hi)
    rw [List.any_eq_true] at this
    obtain ⟨e, he, h⟩ := this
    rw [Bool.and_eq_true, beq_iff_eq] at h
    exact ⟨e, by simpa using he, h.1, h.2⟩
  · intro i o hi ho a w hJ hD K' hK
    have ho' : l[i]? = some o := by
      have : (l ++ [z])[i]? = some o := by simpa using ho
      rw [List.getElem?_append_left hi] at this
      exact this
    refine stepsOk_at hsteps i o ho' a w hJ (depsD_of fun e he hb => hD e (by simpa using he) hb) K' ?_
    simpa using hK
  · intro o ho
    obtain rfl : z = o := Option.some.inj (hz.symm.trans ho)
    exact hlast
theorem raw {a : Act} {t : Nat} {v : Value} (h : a.eval (.tmp t) = v) : a.tmps[t]?.getD undef = v := by
  rw [← h]
  simp [Act.eval]
/-- An operation whose run is known. -/
theorem wp_val {o : Oper} {a : Act} {w w' : World} {K : Act → World → Prop} {v : Value} (h : (execOp a.eval o).run P w = .ok (.value v) w') (hk : K (a.put o.dst v) w') : o.wp P a w K Q := by
  unfold Oper.wp
  rw [h]
  exact hk
end
end Go.Proofs.YtbnelgniekcjdaaGreatDoor
