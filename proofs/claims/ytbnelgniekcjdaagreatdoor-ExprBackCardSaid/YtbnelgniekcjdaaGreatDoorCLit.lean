/- A region that draws its order, walked in one piece: each operation leaves its own fact, whatever came before it; the last one comes behind all. Over any program. -/
import Derived.Test.YtbnelgniekcjdaaGreatDoorCKit
import Derived.Great.Frames
import Derived.Test.YtbnelgniekcjdaaGreatDoorCFBase
import Derived.Deep.MidRow
set_option linter.unusedSimpArgs false
set_option linter.unusedVariables false
namespace Go.Proofs.YtbnelgniekcjdaaGreatDoor
open Go.RowKit
section
variable {P : Program} {ops : Array Oper} {Q : Exit → Act → World → Prop} {md : Region.Mode}

/-- How many have not come up. -/
def unl (n : Nat) (listed : Array Bool) : Nat := ((List.range n).filter fun i => !listed.getD i true).length
theorem getD_set_self {l : Array Bool} {i : Nat} (h : i < l.size) : (l.setIfInBounds i true).getD i true = true := by
  simp [h]
theorem getD_set_other {l : Array Bool} {i j : Nat} {d : Bool} (h : i ≠ j) : (l.setIfInBounds i true).getD j d = l.getD j d := by
  simp only [Array.getD_eq_getD_getElem?]
  rw [Array.getElem?_setIfInBounds_ne h]
theorem unl_set {n i : Nat} {l : Array Bool} (hl : l.size = n) (hi : i < n) (h : l.getD i true = false) : unl n (l.setIfInBounds i true) < unl n l := by
  unfold unl
  rw [← List.countP_eq_length_filter, ← List.countP_eq_length_filter]
  have key : ∀ L : List Nat, (L.countP fun j => !(l.setIfInBounds i true).getD j true) ≤ (L.countP fun j => !l.getD j true) ∧ (i ∈ L → (L.countP fun j => !(l.setIfInBounds i true).getD j true) < (L.countP fun j => !l.getD j true)) := by
    intro L
    induction L with
    | nil => exact ⟨Nat.le_refl _, fun h => by cases h⟩
    | cons x L ih =>
      rw [List.countP_cons, List.countP_cons]
      by_cases e : i = x
      · subst e
        rw [getD_set_self (by omega), h]
        have := ih.1
        simp only [Bool.not_true, Bool.not_false, if_true, Bool.false_eq_true, if_false]
        exact ⟨by omega, fun _ => by omega⟩
      · rw [getD_set_other e]
        refine ⟨by have := ih.1; omega, fun hm => ?_⟩
        rcases List.mem_cons.1 hm with hm | hm
        · exact absurd hm e
        · have := ih.2 hm; omega
  exact (key _).2 (List.mem_range.2 hi)

theorem wpAny_dist (m : Nat) (hm : ops.size = m + 1) (J : Act → World → Prop) (D : Nat → Act → World → Prop)
    (hac : ∀ (i : Nat) (o : Oper), ops[i]? = some o → o.guard = none ∧ ∀ e ∈ o.after, e.on < i)
    (hall : ∀ (o : Oper), ops[m]? = some o → ∀ i, i < m → ∃ e ∈ o.after, Region.binds md e = true ∧ e.on = i)
    (hstep : ∀ (i : Nat) (o : Oper), i < m → ops[i]? = some o → ∀ a w, J a w → (∀ e ∈ o.after, Region.binds md e = true → D e.on a w) → ∀ K' : Act → World → Prop,
      (∀ v w', J (a.put o.dst v) w' → D i (a.put o.dst v) w' → (∀ j, j ≠ i → D j a w → D j (a.put o.dst v) w') → K' (a.put o.dst v) w') → o.wp P a w K' Q)
    (hlast : ∀ (o : Oper), ops[m]? = some o → ∀ a w, J a w → (∀ i, i < m → D i a w) → ∀ K' : Act → World → Prop, (∀ a w', Q .normal a w' → K' a w') → o.wp P a w K' Q) :
    ∀ (fuel : Nat) (listed : Array Bool) (a : Act) (w : World), listed.size = m + 1 → listed.getD m true = false → unl (m + 1) listed ≤ fuel → J a w →
      (∀ i, i < m → listed.getD i true = true → D i a w) → wpAny P md ops Q fuel listed a w := by
  have hne : ∀ listed : Array Bool, listed.size = m + 1 → listed.getD m true = false → Region.ready md ops listed ≠ [] := by
    intro listed hs hl h0
    have : ∀ k i, i < k → i ≤ m → listed.getD i true = true := by
      intro k
      induction k with
      | zero => intro i h; omega
      | succ k ih =>
        intro i hk him
        by_cases hik : i < k
        · exact ih i hik him
        · cases hb : listed.getD i true with
          | true => rfl
          | false =>
            exfalso
            have hio : i < ops.size := by omega
            have hmem : i ∈ Region.ready md ops listed := by
              refine mem_ready.2 ⟨hb, ops[i], Array.getElem?_eq_getElem hio, fun e he _ => ?_⟩
              have h1 := (hac i _ (Array.getElem?_eq_getElem hio)).2 e he
              have h2 := ih e.on (by omega) (by omega)
              rw [Array.getD_eq_getD_getElem?] at h2 ⊢
              rw [Array.getElem?_eq_getElem (by omega)] at h2 ⊢
              exact h2
            rw [h0] at hmem
            cases hmem
    rw [this (m + 1) m (by omega) (Nat.le_refl _)] at hl
    cases hl
  intro fuel
  induction fuel with
  | zero =>
    intro listed a w hs hl hu _ _
    exfalso
    have := unl_set (l := listed) hs (show m < m + 1 by omega) hl
    omega
  | succ fuel ih =>
    intro listed a w hs hl hu hJ hD
    refine ⟨fun h0 => absurd h0 (hne listed hs hl), fun i hi => ?_⟩
    obtain ⟨hli, o, ho, hed⟩ := mem_ready.1 hi
    have hio : i < ops.size := (Array.getElem?_eq_some_iff.1 ho).1
    unfold wpOp
    rw [ho]
    simp only []
    have hw : Region.wanted o (yielded ops a.tmps) = true := by unfold Region.wanted; rw [(hac i o ho).1]
    rw [if_pos hw]
    left
    have hlt : ∀ e ∈ o.after, Region.binds md e = true → listed.getD e.on true = true := by
      intro e he hb
      have h1 := hed e he hb
      have h2 := (hac i o ho).2 e he
      rw [Array.getD_eq_getD_getElem?] at h1 ⊢
      rw [Array.getElem?_eq_getElem (by omega)] at h1 ⊢
      exact h1
    by_cases him : i = m
    · subst him
      refine hlast o ho a w hJ (fun j hj => ?_) _ (fun a' w' hq => ?_)
      · obtain ⟨e, he, hb, rfl⟩ := hall o ho j hj
        exact hD _ hj (hlt e he hb)
      · refine wpAny_done ?_ hq fuel
        have : ∀ j, j ∉ Region.ready md ops (listed.setIfInBounds i true) := by
          intro j hj
          obtain ⟨h1, o', ho', _⟩ := mem_ready.1 hj
          have hjo : j < ops.size := (Array.getElem?_eq_some_iff.1 ho').1
          by_cases hji : i = j
          · subst hji
            rw [getD_set_self (by omega)] at h1
            cases h1
          · rw [getD_set_other hji] at h1
            obtain ⟨e, he, hb, he2⟩ := hall o ho j (by omega)
            have := hlt e he hb
            rw [he2, h1] at this
            cases this
        exact List.eq_nil_iff_forall_not_mem.2 this
    · refine hstep i o (by omega) ho a w hJ (fun e he hb => hD _ (by have := (hac i o ho).2 e he; omega) (hlt e he hb)) _ (fun v w' hJ' hDi hkeep => ?_)
      refine ih _ _ _ (by simpa using hs) (by rw [getD_set_other him]; exact hl) ?_ hJ' (fun j hj hlj => ?_)
      · have := unl_set (l := listed) hs (show i < m + 1 by omega) hli
        omega
      · by_cases hji : i = j
        · subst hji; exact hDi
        · rw [getD_set_other hji] at hlj
          exact hkeep j (fun e => hji e.symm) (hD j hj hlj)
theorem unl_none (n : Nat) : unl n (Array.replicate n false) ≤ n := by
  unfold unl
  exact Nat.le_trans (List.length_filter_le _ _) (by simp)
/-- The whole region. -/
theorem wp_region_dist {id : Nat} (hmx : P.follows .mixedOrders = true) (m : Nat) (hm : ops.size = m + 1) (J : Act → World → Prop) (D : Nat → Act → World → Prop)
    (hac : ∀ (i : Nat) (o : Oper), ops[i]? = some o → o.guard = none ∧ ∀ e ∈ o.after, e.on < i)
    (hall : ∀ (o : Oper), ops[m]? = some o → ∀ i, i < m → ∃ e ∈ o.after, Region.binds .any e = true ∧ e.on = i)
    (hstep : ∀ (i : Nat) (o : Oper), i < m → ops[i]? = some o → ∀ a w, J a w → (∀ e ∈ o.after, Region.binds .any e = true → D e.on a w) → ∀ K' : Act → World → Prop,
      (∀ v w', J (a.put o.dst v) w' → D i (a.put o.dst v) w' → (∀ j, j ≠ i → D j a w → D j (a.put o.dst v) w') → K' (a.put o.dst v) w') → o.wp P a w K' Q)
    (hlast : ∀ (o : Oper), ops[m]? = some o → ∀ a w, J a w → (∀ i, i < m → D i a w) → ∀ K' : Act → World → Prop, (∀ a w', Q .normal a w' → K' a w') → o.wp P a w K' Q)
    (a : Act) (w : World) (hJ : J a w.drew) : (Code.region id ops true).wp P Q a w := by
  refine wp_region_any hmx ?_
  refine wpAny_dist m hm J D hac hall hstep hlast _ _ _ _ (by simp [hm]) (by simp [hm]) (by rw [← hm]; exact unl_none _) hJ (fun i hi hl => ?_)
  rw [Array.getD_eq_getD_getElem?] at hl
  simp [hm, show i < m + 1 by omega] at hl
/-- What an operation waits for. -/
def DepsD (D : Nat → Act → World → Prop) (a : Act) (w : World) : List Edge → Prop
  | [] => True
  | e :: r => (Region.binds .any e = true → D e.on a w) ∧ DepsD D a w r
theorem depsD_of {D : Nat → Act → World → Prop} {a : Act} {w : World} : ∀ {l : List Edge}, (∀ e ∈ l, Region.binds .any e = true → D e.on a w) → DepsD D a w l
  | [], _ => trivial
  | e :: r, h => ⟨h e (by simp), depsD_of fun x hx => h x (by simp [hx])⟩
/-- Each operation of a list leaves its own fact. -/
def StepsOk (P : Program) (Q : Exit → Act → World → Prop) (J : Act → World → Prop) (D : Nat → Act → World → Prop) : Nat → List Oper → Prop
  | _, [] => True
  | i, o :: r => (∀ a w, J a w → DepsD D a w o.after.toList → ∀ K' : Act → World → Prop,
      (∀ v w', J (a.put o.dst v) w' → D i (a.put o.dst v) w' → (∀ j, j ≠ i → D j a w → D j (a.put o.dst v) w') → K' (a.put o.dst v) w') → o.wp P a w K' Q) ∧ StepsOk P Q J D (i + 1) r
theorem stepsOk_at {J : Act → World → Prop} {D : Nat → Act → World → Prop} : ∀ {l : List Oper} {k : Nat}, StepsOk P Q J D k l → ∀ (i : Nat) (o : Oper), l[i]? = some o → ∀ a w, J a w → DepsD D a w o.after.toList → ∀ K' : Act → World → Prop,
      (∀ v w', J (a.put o.dst v) w' → D (k + i) (a.put o.dst v) w' → (∀ j, j ≠ k + i → D j a w → D j (a.put o.dst v) w') → K' (a.put o.dst v) w') → o.wp P a w K' Q
  | [], _, _, _, _, ho => by simp at ho
  | x :: r, k, h, 0, o, ho => by
    obtain rfl : x = o := by simpa using ho
    exact h.1
  | x :: r, k, h, i + 1, o, ho => by
    have := stepsOk_at h.2 i o (by simpa using ho)
    rw [show k + 1 + i = k + (i + 1) from by omega] at this
    exact this
/-- Are all edges backward, no operation guarded, and does the last wait for all? -/
def distB (l : List Oper) (z : Oper) : Bool :=
  ((List.range (l.length + 1)).all fun i => match (l ++ [z])[i]? with | none => true | some o => o.guard.isNone && o.after.toList.all fun e => decide (e.on < i)) &&
    (List.range l.length).all fun i => z.after.toList.any fun e => Region.binds .any e && e.on == i
/-- The whole region, its operations in a list, the last apart. -/
theorem wp_region_list {id : Nat} (hmx : P.follows .mixedOrders = true) {ops : List Oper} (l : List Oper) (z : Oper) (hl : ops = l ++ [z]) (hB : distB l z = true) (J : Act → World → Prop) (D : Nat → Act → World → Prop) (a : Act) (w : World) (hJ : J a w.drew)
    (hsteps : StepsOk P Q J D 0 l)
    (hlast : ∀ a w, J a w → (∀ i, i < l.length → D i a w) → ∀ K' : Act → World → Prop, (∀ a w', Q .normal a w' → K' a w') → z.wp P a w K' Q) : (Code.region id ops.toArray true).wp P Q a w := by
  subst hl
  unfold distB at hB
  rw [Bool.and_eq_true, List.all_eq_true, List.all_eq_true] at hB
  have hz : (l ++ [z]).toArray[l.length]? = some z := by simp
  refine wp_region_dist hmx l.length (by simp) J D ?_ ?_ ?_ ?_ a w hJ
  · intro i o ho
    have ho' : (l ++ [z])[i]? = some o := by simpa using ho
    have hi : i < l.length + 1 := by simpa using (List.getElem?_eq_some_iff.1 ho').1
    have := hB.1 i (List.mem_range.2 hi)
    rw [ho'] at this
    simp only [Bool.and_eq_true, List.all_eq_true, decide_eq_true_eq, Option.isNone_iff_eq_none] at this
    exact ⟨this.1, fun e he => this.2 e (by simpa using he)⟩
  · intro o ho i hi
    obtain rfl : z = o := Option.some.inj (hz.symm.trans ho)
    have := hB.2 i (List.mem_range.2 hi)
    rw [List.any_eq_true] at this
    obtain ⟨e, he, h⟩ := this
    rw [Bool.and_eq_true, beq_iff_eq] at h
    exact ⟨e, by simpa using he, h.1, h.2⟩
  · intro i o hi ho a w hJ hD K' hK
    have ho' : l[i]? = some o := by
      have : (l ++ [z])[i]? = some o := by simpa using ho
      rw [List.getElem?_append_left hi] at this
      exact this
    refine stepsOk_at hsteps i o ho' a w hJ (depsD_of fun e he hb => hD e (by simpa using he) hb) K' ?_
    simpa using hK
  · intro o ho
    obtain rfl : z = o := Option.some.inj (hz.symm.trans ho)
    exact hlast
theorem raw {a : Act} {t : Nat} {v : Value} (h : a.eval (.tmp t) = v) : a.tmps[t]?.getD undef = v := by
  rw [← h]
  simp [Act.eval]
/-- An operation whose run is known. -/
theorem wp_val {o : Oper} {a : Act} {w w' : World} {K : Act → World → Prop} {v : Value} (h : (execOp a.eval o).run P w = .ok (.value v) w') (hk : K (a.put o.dst v) w') : o.wp P a w K Q := by
  unfold Oper.wp
  rw [h]
  exact hk
end
end Go.Proofs.YtbnelgniekcjdaaGreatDoor

/- A region that draws its order, and whose operations are a tree: each operation leaves its own fact, kept until the one operation that uses it; and rows made of an empty literal. Over any program. -/
namespace Go.Proofs.YtbnelgniekcjdaaGreatDoor
open Go.RowKit
section
variable {P : Program} {Q : Exit → Act → World → Prop}

/-- For which operations an operation waits. -/
def depsL (o : Oper) : List Nat := (o.after.toList.filter fun e => Region.binds .any e).map Edge.on
/-- .. and for which these, and so on. -/
def needsL (ops : List Oper) : Nat → Nat → List Nat
  | 0, _ => []
  | f + 1, i => match ops[i]? with
    | none => []
    | some o => (depsL o).flatMap fun k => k :: needsL ops f k
/-- Must a fact outlive an operation? Not where that uses it, or what uses it has been. -/
def keepB (ops : List Oper) (i j : Nat) : Bool :=
  (i != j) && (match ops[i]? with | none => true | some o => !(depsL o).contains j) && (!(needsL ops ops.length j).contains i) && (needsL ops ops.length i).all fun k => match ops[k]? with | none => true | some o => !(depsL o).contains j
/-- Are all edges backward, no operation guarded, does the last wait for all, and does each of the others serve one at most? -/
def treeB (l : List Oper) (z : Oper) : Bool :=
  distB l z && (List.range l.length).all fun i => (List.range l.length).all fun i' => i == i' || (match l[i]?, l[i']? with
    | some o, some o' => (depsL o).all fun j => !(depsL o').contains j
    | _, _ => true)
theorem mem_deps {o : Oper} {j : Nat} : j ∈ depsL o ↔ ∃ e ∈ o.after, Region.binds .any e = true ∧ e.on = j := by
  unfold depsL
  simp only [List.mem_map, List.mem_filter, Array.mem_toList_iff]
  exact ⟨fun ⟨e, ⟨h1, h2⟩, h3⟩ => ⟨e, h1, h2, h3⟩, fun ⟨e, h1, h2, h3⟩ => ⟨e, ⟨h1, h2⟩, h3⟩⟩
/-- What is needed has come up. -/
theorem needs_listed {ops : List Oper} {L : Nat → Prop} (hd : ∀ i o, L i → ops[i]? = some o → ∀ k ∈ depsL o, L k) : ∀ (f i : Nat), (∀ o, ops[i]? = some o → ∀ k ∈ depsL o, L k) → ∀ k ∈ needsL ops f i, L k
  | 0, _, _, k, hk => by cases hk
  | f + 1, i, h, k, hk => by
    unfold needsL at hk
    cases ho : ops[i]? with
    | none => rw [ho] at hk; cases hk
    | some o =>
      rw [ho] at hk
      simp only [List.mem_flatMap, List.mem_cons] at hk
      obtain ⟨q, hq, hk⟩ := hk
      have hL := h o ho q hq
      rcases hk with rfl | hk
      · exact hL
      · exact needs_listed hd f q (fun o' ho' k' hk' => hd q o' hL ho' k' hk') k hk
theorem wpAny_tree (l : List Oper) (z : Oper) (J : Act → World → Prop) (D : Nat → Act → World → Prop) (h0 : 0 < l.length)
    (hac : ∀ (i : Nat) (o : Oper), (l ++ [z])[i]? = some o → o.guard = none ∧ ∀ e ∈ o.after, e.on < i)
    (hall : ∀ i, i < l.length → i ∈ depsL z)
    (hone : ∀ (i i' j : Nat) (o o' : Oper), l[i]? = some o → l[i']? = some o' → j ∈ depsL o → j ∈ depsL o' → i = i')
    (hstep : ∀ (i : Nat) (o : Oper), l[i]? = some o → ∀ a w, J a w → (∀ j ∈ depsL o, D j a w) → ∀ K' : Act → World → Prop,
      (∀ v w', J (a.put o.dst v) w' → D i (a.put o.dst v) w' → (∀ j, j < l.length → keepB l i j = true → D j a w → D j (a.put o.dst v) w') → K' (a.put o.dst v) w') → o.wp P a w K' Q)
    (hlast : ∀ a w, J a w → D (l.length - 1) a w → ∀ K' : Act → World → Prop, (∀ a w', Q .normal a w' → K' a w') → z.wp P a w K' Q) :
    ∀ (fuel : Nat) (listed : Array Bool) (a : Act) (w : World), listed.size = l.length + 1 → listed.getD l.length true = false → unl (l.length + 1) listed ≤ fuel → J a w →
      (∀ i o, l[i]? = some o → listed.getD i true = true → ∀ k ∈ depsL o, listed.getD k true = true) →
      (∀ i, i < l.length → listed.getD i true = true → (∀ k o, l[k]? = some o → listed.getD k true = true → ¬ i ∈ depsL o) → D i a w) → wpAny P .any (l ++ [z]).toArray Q fuel listed a w := by
  have hsz : (l ++ [z]).toArray.size = l.length + 1 := by simp
  have hopl : ∀ i, i < l.length → ∃ o, l[i]? = some o := fun i hi => ⟨l[i], List.getElem?_eq_getElem hi⟩
  have hread : ∀ (listed : Array Bool), listed.size = l.length + 1 → ∀ (i : Nat) (o : Oper), (l ++ [z])[i]? = some o → i < l.length + 1 → listed.getD i true = false → (∀ k ∈ depsL o, listed.getD k true = true) → i ∈ Region.ready .any (l ++ [z]).toArray listed := by
    intro listed hs i o ho hi hl hd
    refine mem_ready.2 ⟨hl, o, by simpa using ho, fun e he hb => ?_⟩
    have h1 := hd e.on (mem_deps.2 ⟨e, he, hb, rfl⟩)
    have h2 := (hac i o ho).2 e he
    rw [Array.getD_eq_getD_getElem?] at h1 ⊢
    rw [Array.getElem?_eq_getElem (by omega)] at h1 ⊢
    exact h1
  have hne : ∀ listed : Array Bool, listed.size = l.length + 1 → listed.getD l.length true = false → Region.ready .any (l ++ [z]).toArray listed ≠ [] := by
    intro listed hs hl h0
    have : ∀ k i, i < k → i ≤ l.length → listed.getD i true = true := by
      intro k
      induction k with
      | zero => intro i h; omega
      | succ k ih =>
        intro i hk him
        by_cases hik : i < k
        · exact ih i hik him
        · cases hb : listed.getD i true with
          | true => rfl
          | false =>
            exfalso
            obtain ⟨o, ho⟩ : ∃ o, (l ++ [z])[i]? = some o := ⟨(l ++ [z])[i]'(by simp; omega), List.getElem?_eq_getElem _⟩
            have hmem := hread listed hs i o ho (by omega) hb (fun k hk => by
              obtain ⟨e, he, _, rfl⟩ := mem_deps.1 hk
              have := (hac i o ho).2 e he
              exact ih _ (by omega) (by omega))
            rw [h0] at hmem
            cases hmem
    rw [this (l.length + 1) l.length (by omega) (Nat.le_refl _)] at hl
    cases hl
  intro fuel
  induction fuel with
  | zero =>
    intro listed a w hs hl hu _ _ _
    exfalso
    have := unl_set (l := listed) hs (show l.length < l.length + 1 by omega) hl
    omega
  | succ fuel ih =>
    intro listed a w hs hl hu hJ hC hD
    refine ⟨fun h0 => absurd h0 (hne listed hs hl), fun i hi => ?_⟩
    obtain ⟨hli, o, ho, hed⟩ := mem_ready.1 hi
    have hio : i < (l ++ [z]).toArray.size := (Array.getElem?_eq_some_iff.1 ho).1
    rw [hsz] at hio
    have ho' : (l ++ [z])[i]? = some o := by simpa using ho
    unfold wpOp
    rw [ho]
    simp only []
    have hw : Region.wanted o (yielded (l ++ [z]).toArray a.tmps) = true := by unfold Region.wanted; rw [(hac i o ho').1]
    rw [if_pos hw]
    left
    have hlt : ∀ j ∈ depsL o, listed.getD j true = true := by
      intro j hj
      obtain ⟨e, he, hb, rfl⟩ := mem_deps.1 hj
      have h1 := hed e he hb
      have h2 := (hac i o ho').2 e he
      rw [Array.getD_eq_getD_getElem?] at h1 ⊢
      rw [Array.getElem?_eq_getElem (by omega)] at h1 ⊢
      exact h1
    by_cases him : i = l.length
    · subst him
      obtain rfl : z = o := by simpa using ho'
      refine hlast a w hJ (hD _ (by omega) (hlt _ (hall _ (by omega))) (fun k o hk _ hb => ?_)) _ (fun a' w' hq => ?_)
      · have hk1 := (List.getElem?_eq_some_iff.1 hk).1
        obtain ⟨e, he, _, hee⟩ := mem_deps.1 hb
        have := (hac k o (by rw [List.getElem?_append_left hk1]; exact hk)).2 e he
        omega
      · refine wpAny_done ?_ hq fuel
        have : ∀ j, j ∉ Region.ready .any (l ++ [z]).toArray (listed.setIfInBounds l.length true) := by
          intro j hj
          obtain ⟨h1, o', ho', _⟩ := mem_ready.1 hj
          have hjo : j < (l ++ [z]).toArray.size := (Array.getElem?_eq_some_iff.1 ho').1
          rw [hsz] at hjo
          by_cases hji : l.length = j
          · subst hji
            rw [getD_set_self (by omega)] at h1
            cases h1
          · rw [getD_set_other hji] at h1
            have := hlt j (hall j (by omega))
            rw [h1] at this
            cases this
        exact List.eq_nil_iff_forall_not_mem.2 this
    · have hil : i < l.length := by omega
      have hol : l[i]? = some o := by rw [List.getElem?_append_left hil] at ho'; exact ho'
      refine hstep i o hol a w hJ (fun j hj => ?_) _ (fun v w' hJ' hDi hkeep => ?_)
      · have hjl : j < l.length := by
          obtain ⟨e, he, _, rfl⟩ := mem_deps.1 hj
          have := (hac i o ho').2 e he
          omega
        refine hD j hjl (hlt j hj) (fun k o' hk hkl hb => ?_)
        obtain rfl := hone i k j o o' hol hk hj hb
        rw [hli] at hkl
        cases hkl
      · refine ih _ _ _ (by simpa using hs) (by rw [getD_set_other him]; exact hl) ?_ hJ' (fun k o' hk hkl q hq => ?_) (fun j hj hlj hno => ?_)
        · have := unl_set (l := listed) hs (show i < l.length + 1 by omega) hli
          omega
        · by_cases hiq : i = q
          · subst hiq
            exact getD_set_self (by omega)
          · rw [getD_set_other hiq]
            by_cases hki : i = k
            · subst hki
              obtain rfl : o = o' := Option.some.inj (hol.symm.trans hk)
              exact hlt q hq
            · rw [getD_set_other hki] at hkl
              exact hC k o' hk hkl q hq
        · by_cases hji : i = j
          · subst hji; exact hDi
          · rw [getD_set_other hji] at hlj
            have hno' : ∀ k o, l[k]? = some o → listed.getD k true = true → ¬ j ∈ depsL o := fun k o' hk hkl => by
              refine hno k o' hk ?_
              by_cases hki : i = k
              · subst hki
                exact getD_set_self (by omega)
              · rw [getD_set_other hki]; exact hkl
            refine hkeep j hj ?_ (hD j hj hlj hno')
            unfold keepB
            rw [Bool.and_eq_true, Bool.and_eq_true, Bool.and_eq_true]
            refine ⟨⟨⟨by simpa using hji, ?_⟩, ?_⟩, ?_⟩
            · rw [hol]
              have := hno i o hol (getD_set_self (by omega))
              simpa using this
            · have hnj : ¬ i ∈ needsL l l.length j := fun hm => by
                have := needs_listed (L := fun k => listed.getD k true = true) (fun i o hL ho k hk => hC i o ho hL k hk) l.length j (fun o' ho' k hk => hC j o' ho' hlj k hk) i hm
                rw [hli] at this
                cases this
              simpa using hnj
            · rw [List.all_eq_true]
              intro k hk
              have hkL := needs_listed (L := fun k => listed.getD k true = true) (fun i o hL ho k hk => hC i o ho hL k hk) l.length i (fun o' ho' k hk => by
                obtain rfl : o = o' := Option.some.inj (hol.symm.trans ho')
                exact hlt k hk) k hk
              cases hq : l[k]? with
              | none => rfl
              | some o' =>
                have := hno' k o' hq hkL
                simpa using this
/-- Each operation of a list leaves its own fact, and keeps those that are still wanted. -/
def StepsT (P : Program) (Q : Exit → Act → World → Prop) (J : Act → World → Prop) (D : Nat → Act → World → Prop) (ops : List Oper) : Nat → List Oper → Prop
  | _, [] => True
  | i, o :: r => (∀ a w, J a w → DepsD D a w o.after.toList → ∀ K' : Act → World → Prop,
      (∀ v w', J (a.put o.dst v) w' → D i (a.put o.dst v) w' → (∀ j, j < ops.length → keepB ops i j = true → D j a w → D j (a.put o.dst v) w') → K' (a.put o.dst v) w') → o.wp P a w K' Q) ∧ StepsT P Q J D ops (i + 1) r
theorem stepsT_at {J : Act → World → Prop} {D : Nat → Act → World → Prop} {ops : List Oper} : ∀ {l : List Oper} {k : Nat}, StepsT P Q J D ops k l → ∀ (i : Nat) (o : Oper), l[i]? = some o → ∀ a w, J a w → DepsD D a w o.after.toList → ∀ K' : Act → World → Prop,
      (∀ v w', J (a.put o.dst v) w' → D (k + i) (a.put o.dst v) w' → (∀ j, j < ops.length → keepB ops (k + i) j = true → D j a w → D j (a.put o.dst v) w') → K' (a.put o.dst v) w') → o.wp P a w K' Q
  | [], _, _, _, _, ho => by simp at ho
  | x :: r, k, h, 0, o, ho => by
    obtain rfl : x = o := by simpa using ho
    exact h.1
  | x :: r, k, h, i + 1, o, ho => by
    have := stepsT_at h.2 i o (by simpa using ho)
    rw [show k + 1 + i = k + (i + 1) from by omega] at this
    exact this
/-- The whole region, its operations in a list, the last apart. -/
theorem wp_region_tree {id : Nat} (hmx : P.follows .mixedOrders = true) {ops : List Oper} (l : List Oper) (z : Oper) (hl : ops = l ++ [z]) (hB : treeB l z = true) (h0 : 0 < l.length) (J : Act → World → Prop) (D : Nat → Act → World → Prop) (a : Act) (w : World) (hJ : J a w.drew)
    (hsteps : StepsT P Q J D l 0 l)
    (hlast : ∀ a w, J a w → D (l.length - 1) a w → ∀ K' : Act → World → Prop, (∀ a w', Q .normal a w' → K' a w') → z.wp P a w K' Q) : (Code.region id ops.toArray true).wp P Q a w := by
  subst hl
  unfold treeB at hB
  rw [Bool.and_eq_true] at hB
  obtain ⟨hB, hT⟩ := hB
  unfold distB at hB
  rw [Bool.and_eq_true, List.all_eq_true, List.all_eq_true] at hB
  refine wp_region_any hmx ?_
  have hac : ∀ (i : Nat) (o : Oper), (l ++ [z])[i]? = some o → o.guard = none ∧ ∀ e ∈ o.after, e.on < i := by
    intro i o ho'
    have hi : i < l.length + 1 := by simpa using (List.getElem?_eq_some_iff.1 ho').1
    have := hB.1 i (List.mem_range.2 hi)
    rw [ho'] at this
    simp only [Bool.and_eq_true, List.all_eq_true, decide_eq_true_eq, Option.isNone_iff_eq_none] at this
    exact ⟨this.1, fun e he => this.2 e (by simpa using he)⟩
  refine wpAny_tree (P := P) (Q := Q) l z J D h0 hac ?_ ?_ ?_ hlast _ _ _ _ (by simp) (by simp) (by rw [show l.length + 1 = (l ++ [z]).toArray.size by simp]; exact unl_none _) hJ ?_ ?_
  · intro i hi
    have := hB.2 i (List.mem_range.2 hi)
    rw [List.any_eq_true] at this
    obtain ⟨e, he, h⟩ := this
    rw [Bool.and_eq_true, beq_iff_eq] at h
    exact mem_deps.2 ⟨e, by simpa using he, h.1, h.2⟩
  · intro i i' j o o' ho ho' hj hj'
    rw [List.all_eq_true] at hT
    have hi := (List.getElem?_eq_some_iff.1 ho).1
    have hi' := (List.getElem?_eq_some_iff.1 ho').1
    have h1 := hT i (List.mem_range.2 hi)
    rw [List.all_eq_true] at h1
    have h2 := h1 i' (List.mem_range.2 hi')
    rw [Bool.or_eq_true, beq_iff_eq] at h2
    rcases h2 with h2 | h2
    · exact h2
    · rw [ho, ho'] at h2
      simp only [List.all_eq_true] at h2
      have := h2 j hj
      simp [hj'] at this
  · intro i o ho a w hJ hD K' hK
    refine stepsT_at hsteps i o ho a w hJ (depsD_of fun e he hb => hD e.on (mem_deps.2 ⟨e, by simpa using he, hb, rfl⟩)) K' ?_
    simpa using hK
  · intro i o ho hli
    have hi := (List.getElem?_eq_some_iff.1 ho).1
    rw [Array.getD_eq_getD_getElem?] at hli
    simp [show i < l.length + 1 by omega] at hli
  · intro i hi hli
    rw [Array.getD_eq_getD_getElem?] at hli
    simp [show i < l.length + 1 by omega] at hli

/-! ### Facts on consecutive slots -/
theorem below_drew_refl (w : World) : Below w.heap.size w w.drew := below_drew (Below.refl _ _)
/-- What stays in a region whose operations fill the slots from d0 on. -/
structure TreeJ (d0 n : Nat) (a0 : Act) (w0 : World) (a : Act) (w : World) : Prop where
  sz : a.tmps.size = a0.tmps.size
  d : a.defers = a0.defers
  old : ∀ t, t < d0 ∨ d0 + n ≤ t → a.eval (.tmp t) = a0.eval (.tmp t)
  b : Below w0.heap.size w0 w
def TreeD (F : Nat → Value → World → Prop) (d0 : Nat) (i : Nat) (a : Act) (w : World) : Prop := F i (a.eval (.tmp (i + d0))) w
theorem TreeJ.put {d0 n : Nat} {a0 a : Act} {w0 w w' : World} (h : TreeJ d0 n a0 w0 a w) {i : Nat} (hi : i < n) (v : Value) (hb : Below w0.heap.size w w') : TreeJ d0 n a0 w0 (a.put (some (i + d0)) v) w' :=
  ⟨by rw [Act.size_put]; exact h.sz, by rw [Act.defers_put']; exact h.d, fun t ht => by rw [Act.eval_put_ne _ _ _ _ (by omega)]; exact h.old t ht, h.b.trans hb⟩
theorem tree_next {F : Nat → Value → World → Prop} (hF : ∀ i v w w', F i v w → Below w.heap.size w w' → F i v w') {d0 n : Nat} {a0 a : Act} {w0 w : World} {ops : List Oper} (hJ : TreeJ d0 n a0 w0 a w) {i : Nat} (hn : i < n) (hi : i + d0 < a0.tmps.size) {K' : Act → World → Prop}
    (h : ∀ v w', TreeJ d0 n a0 w0 (a.put (some (i + d0)) v) w' → TreeD F d0 i (a.put (some (i + d0)) v) w' →
      (∀ j, j < ops.length → keepB ops i j = true → TreeD F d0 j a w → TreeD F d0 j (a.put (some (i + d0)) v) w') → K' (a.put (some (i + d0)) v) w')
    (v : Value) (w' : World) (hb : Below w.heap.size w w') (hf : F i v w') : K' (a.put (some (i + d0)) v) w' := by
  refine h v w' (hJ.put hn v ⟨hb.os, hb.tape, hb.output, hb.size, fun b hb' => hb.block b (Nat.lt_of_lt_of_le hb' hJ.b.size)⟩) ?_ (fun j _ hj hd => ?_)
  · unfold TreeD
    rw [Act.eval_put_same _ _ _ (by rw [hJ.sz]; exact hi)]
    exact hf
  · have hji : j ≠ i := by
      rintro rfl
      unfold keepB at hj
      simp at hj
    unfold TreeD at *
    rw [Act.eval_put_ne _ _ _ _ (by omega)]
    exact hF _ _ _ _ hd hb
/-- .. where an operation turns a row of its own. -/
theorem tree_row {F : Nat → Value → World → Prop} {d0 n : Nat} {a0 a : Act} {w0 w : World} {ops : List Oper} (hJ : TreeJ d0 n a0 w0 a w) {i : Nat} (hn : i < n) (hi : i + d0 < a0.tmps.size) {K' : Act → World → Prop}
    (h : ∀ v w', TreeJ d0 n a0 w0 (a.put (some (i + d0)) v) w' → TreeD F d0 i (a.put (some (i + d0)) v) w' →
      (∀ j, j < ops.length → keepB ops i j = true → TreeD F d0 j a w → TreeD F d0 j (a.put (some (i + d0)) v) w') → K' (a.put (some (i + d0)) v) w')
    (v : Value) (w' : World) (hb : Below w0.heap.size w w') (hf : F i v w') (hk : ∀ j, j < ops.length → keepB ops i j = true → ∀ u, F j u w → F j u w') : K' (a.put (some (i + d0)) v) w' := by
  refine h v w' (hJ.put hn v hb) ?_ (fun j hjl hj hd => ?_)
  · unfold TreeD
    rw [Act.eval_put_same _ _ _ (by rw [hJ.sz]; exact hi)]
    exact hf
  · have hji : j ≠ i := by
      rintro rfl
      unfold keepB at hj
      simp at hj
    unfold TreeD at *
    rw [Act.eval_put_ne _ _ _ _ (by omega)]
    exact hk j hjl hj _ hd
/-- .. at the root: nothing else is wanted any more. -/
theorem tree_root {F : Nat → Value → World → Prop} {d0 n : Nat} {a0 a : Act} {w0 w : World} {ops : List Oper} (hJ : TreeJ d0 n a0 w0 a w) {i : Nat} (hn : i < n) (hi : i + d0 < a0.tmps.size) (hno : ((List.range ops.length).all fun j => !keepB ops i j) = true) {K' : Act → World → Prop}
    (h : ∀ v w', TreeJ d0 n a0 w0 (a.put (some (i + d0)) v) w' → TreeD F d0 i (a.put (some (i + d0)) v) w' →
      (∀ j, j < ops.length → keepB ops i j = true → TreeD F d0 j a w → TreeD F d0 j (a.put (some (i + d0)) v) w') → K' (a.put (some (i + d0)) v) w')
    (v : Value) (w' : World) (hb : Below w0.heap.size w w') (hf : F i v w') : K' (a.put (some (i + d0)) v) w' := by
  refine tree_row hJ hn hi h v w' hb hf (fun j hj hk => ?_)
  rw [List.all_eq_true] at hno
  have := hno j (List.mem_range.2 hj)
  rw [hk] at this
  cases this
/-- The whole region, its operations' slots from d0 on. -/
theorem wp_region_treeF {id : Nat} (hmx : P.follows .mixedOrders = true) {ops : List Oper} (l : List Oper) (z : Oper) (hl : ops = l ++ [z]) (hB : treeB l z = true) (h0 : 0 < l.length) (F : Nat → Value → World → Prop) (d0 : Nat) (a : Act) (w : World)
    (hsteps : StepsT P Q (TreeJ d0 l.length a w) (TreeD F d0) l 0 l)
    (hlast : ∀ a' w', TreeJ d0 l.length a w a' w' → F (l.length - 1) (a'.eval (.tmp (l.length - 1 + d0))) w' → ∀ K' : Act → World → Prop, (∀ a w', Q .normal a w' → K' a w') → z.wp P a' w' K' Q) : (Code.region id ops.toArray true).wp P Q a w :=
  wp_region_tree hmx l z hl hB h0 (TreeJ d0 l.length a w) (TreeD F d0) a w ⟨rfl, rfl, fun _ _ => rfl, below_drew_refl w⟩ hsteps (fun a' w' hJ hD K' hK => hlast a' w' hJ hD K' hK)
/-- The frame behind: as it was but for the region's own slots. -/
theorem act_tree {d0 n : Nat} {l0 : List Value} {ds : List Deferred} {w0 : World} {a : Act} {w : World} (hJ : TreeJ d0 n { tmps := l0.toArray, defers := ds } w0 a w) (hd : d0 + n ≤ l0.length) :
    ∃ tl : List Value, tl.length = n ∧ a = { tmps := (l0.take d0 ++ (tl ++ l0.drop (d0 + n))).toArray, defers := ds } := by
  obtain ⟨tm, df⟩ := a
  obtain ⟨tl⟩ := tm
  have hds := hJ.d
  have hsz := hJ.sz
  simp at hds hsz
  subst hds
  refine ⟨(tl.drop d0).take n, by rw [List.length_take, List.length_drop, hsz]; omega, ?_⟩
  congr 1
  congr 1
  have hold : ∀ t, t < d0 ∨ d0 + n ≤ t → tl[t]? = l0[t]? := by
    intro t ht
    by_cases htl : t < l0.length
    · have h1 := hJ.old t ht
      simp [Act.eval] at h1
      rw [List.getElem?_eq_getElem (by omega), List.getElem?_eq_getElem (by omega)] at h1 ⊢
      simpa using h1
    · rw [List.getElem?_eq_none (by omega), List.getElem?_eq_none (by omega)]
  refine List.ext_getElem? fun i => ?_
  by_cases hi : i < d0
  · rw [List.getElem?_append_left (by rw [List.length_take]; omega), List.getElem?_take_of_lt hi]
    exact hold i (.inl hi)
  · rw [List.getElem?_append_right (by rw [List.length_take]; omega), List.length_take, Nat.min_eq_left (by omega)]
    by_cases hi2 : i < d0 + n
    · rw [List.getElem?_append_left (by rw [List.length_take, List.length_drop]; omega), List.getElem?_take_of_lt (by omega), List.getElem?_drop]
      congr 1
      omega
    · rw [List.getElem?_append_right (by rw [List.length_take]; omega), List.length_take, List.length_drop, List.getElem?_drop, hold i (.inr (by omega))]
      congr 1
      omega
theorem list_cons_of {α : Type} {n : Nat} {l : List α} (h : l.length = n + 1) : ∃ x t, t.length = n ∧ l = x :: t := by
  cases l with
  | nil => cases h
  | cons x t => exact ⟨x, t, by simpa using h, rfl⟩
theorem dropLast_last {α : Type} (l : List α) (h : l ≠ []) : l = l.dropLast ++ [l.getLast h] := (List.dropLast_concat_getLast h).symm
theorem wp_move {o : Oper} {a : Act} {w : World} {K : Act → World → Prop} {x : Operand} (ho : o.op = .move x) (hk : K (a.put o.dst (a.eval x)) w) : o.wp P a w K Q := by
  refine wp_val (v := a.eval x) (w' := w) ?_ hk
  unfold execOp
  rw [ho]
  rfl
theorem wp_assign {o : Oper} {a : Act} {w : World} {K : Act → World → Prop} {x : Operand} (ho : o.op = .assign x) (hk : K (a.put o.dst (a.eval x)) w) : o.wp P a w K Q := by
  refine wp_val (v := a.eval x) (w' := w) ?_ hk
  unfold execOp
  rw [ho]
  rfl
/-- A call, by its contract. -/
theorem wp_calls {o : Oper} {a : Act} {w w' : World} {K : Act → World → Prop} {f : FuncId} {args : Array Value} {R : Ending → World → Prop} (h : (execOp a.eval o).run P w = .ok (.enter f args) w') (hc : Calls P f args w' R)
    (hr : ∀ e w'', R e w'' → ∃ v, e = .returned v ∧ K (a.put o.dst v) w'') : o.wp P a w K Q := by
  unfold Oper.wp
  rw [h, Oper.upon_enter]
  refine hc.mono fun e w'' hR => ?_
  obtain ⟨v, rfl, hk⟩ := hr e w'' hR
  exact hk
/-- A frame, slot by slot. -/
def FrameIs (a : Act) : Nat → List Value → Prop
  | _, [] => True
  | k, v :: r => a.eval (.tmp k) = v ∧ FrameIs a (k + 1) r
theorem frame_at {a : Act} : ∀ {l : List Value} {k : Nat}, FrameIs a k l → ∀ (i : Nat) (v : Value), l[i]? = some v → a.eval (.tmp (k + i)) = v
  | [], _, _, i, v, h => by simp at h
  | x :: r, k, hf, 0, v, h => by
    obtain rfl : x = v := by simpa using h
    exact hf.1
  | x :: r, k, hf, i + 1, v, h => by
    have := frame_at hf.2 i v (by simpa using h)
    rw [show k + 1 + i = k + (i + 1) by omega] at this
    exact this
theorem act_is {a : Act} {l : List Value} {ds : List Deferred} (hs : a.tmps.size = l.length) (hd : a.defers = ds) (h : FrameIs a 0 l) : a = { tmps := l.toArray, defers := ds } := by
  obtain ⟨tm, df⟩ := a
  obtain ⟨tl⟩ := tm
  simp only at hd
  subst hd
  congr 1
  congr 1
  refine List.ext_getElem? fun i => ?_
  simp at hs
  cases hl : l[i]? with
  | none =>
    rw [List.getElem?_eq_none_iff] at hl ⊢
    omega
  | some v =>
    have h1 := frame_at h i v hl
    have hi : i < tl.length := by rw [hs]; exact (List.getElem?_eq_some_iff.1 hl).1
    rw [List.getElem?_eq_getElem hi, ← h1]
    simp [Act.eval, hi]

/-! ### .. where a row of its own is turned in the middle: the literal in slot 's' lies apart from the row in slot 'r' -/
structure TreeJ2 (r d0 n : Nat) (a0 : Act) (w0 : World) (a : Act) (w : World) : Prop where
  base : TreeJ d0 n a0 w0 a w
  blk : ∀ g, (a.eval (.tmp r)).ownBlock = some g → g < w.heap.size
def TreeD2 (F : Nat → Value → World → Prop) (r s d0 : Nat) (i : Nat) (a : Act) (w : World) : Prop := TreeD F d0 i a w ∧ (i + d0 = s → ∀ g, (a.eval (.tmp r)).ownBlock = some g → (a.eval (.tmp s)).ownBlock ≠ some g)
theorem wp_region_treeF2 {id : Nat} (hmx : P.follows .mixedOrders = true) {ops : List Oper} (l : List Oper) (z : Oper) (hl : ops = l ++ [z]) (hB : treeB l z = true) (h0 : 0 < l.length) (F : Nat → Value → World → Prop) (r s d0 : Nat) (a : Act) (w : World) (hr : (a.eval (.tmp r)).ownBlock = none)
    (hsteps : StepsT P Q (TreeJ2 r d0 l.length a w) (TreeD2 F r s d0) l 0 l)
    (hlast : ∀ a' w', TreeJ d0 l.length a w a' w' → F (l.length - 1) (a'.eval (.tmp (l.length - 1 + d0))) w' → ∀ K' : Act → World → Prop, (∀ a w', Q .normal a w' → K' a w') → z.wp P a' w' K' Q) : (Code.region id ops.toArray true).wp P Q a w :=
  wp_region_tree hmx l z hl hB h0 (TreeJ2 r d0 l.length a w) (TreeD2 F r s d0) a w ⟨⟨rfl, rfl, fun _ _ => rfl, below_drew_refl w⟩, fun g hg => by rw [hr] at hg; cases hg⟩ hsteps (fun a' w' hJ hD K' hK => hlast a' w' hJ.base hD.1 K' hK)
theorem keep_ne {ops : List Oper} {i j : Nat} (h : keepB ops i j = true) : j ≠ i := by
  rintro rfl
  unfold keepB at h
  simp at h
/-- An operation that is neither the row's nor the literal's. -/
theorem tree2_next {F : Nat → Value → World → Prop} (hF : ∀ i v w w', F i v w → Below w.heap.size w w' → F i v w') {r s d0 n : Nat} {a0 a : Act} {w0 w : World} {ops : List Oper} (hJ : TreeJ2 r d0 n a0 w0 a w) {i : Nat} (hn : i < n) (hi : i + d0 < a0.tmps.size) (hir : i + d0 ≠ r) (his : i + d0 ≠ s) {K' : Act → World → Prop}
    (h : ∀ v w', TreeJ2 r d0 n a0 w0 (a.put (some (i + d0)) v) w' → TreeD2 F r s d0 i (a.put (some (i + d0)) v) w' →
      (∀ j, j < ops.length → keepB ops i j = true → TreeD2 F r s d0 j a w → TreeD2 F r s d0 j (a.put (some (i + d0)) v) w') → K' (a.put (some (i + d0)) v) w')
    (v : Value) (w' : World) (hb : Below w.heap.size w w') (hf : F i v w') : K' (a.put (some (i + d0)) v) w' := by
  refine h v w' ⟨hJ.base.put hn v ⟨hb.os, hb.tape, hb.output, hb.size, fun b hb' => hb.block b (Nat.lt_of_lt_of_le hb' hJ.base.b.size)⟩, fun g hg => ?_⟩ ⟨?_, fun e => absurd e his⟩ (fun j _ hj hd => ?_)
  · rw [Act.eval_put_ne _ _ _ _ hir] at hg
    exact Nat.lt_of_lt_of_le (hJ.blk g hg) hb.size
  · unfold TreeD
    rw [Act.eval_put_same _ _ _ (by rw [hJ.base.sz]; exact hi)]
    exact hf
  · have hji := keep_ne hj
    refine ⟨?_, fun e g hg => ?_⟩
    · unfold TreeD
      rw [Act.eval_put_ne _ _ _ _ (by omega)]
      exact hF _ _ _ _ hd.1 hb
    · rw [Act.eval_put_ne _ _ _ _ hir] at hg
      rw [Act.eval_put_ne _ _ _ _ his]
      exact hd.2 e g hg
/-- The row's own: in a new block. -/
theorem tree2_row {F : Nat → Value → World → Prop} (hF : ∀ i v w w', F i v w → Below w.heap.size w w' → F i v w') {r s d0 n : Nat} {a0 a : Act} {w0 w : World} {ops : List Oper} (hJ : TreeJ2 r d0 n a0 w0 a w) {i : Nat} (hn : i < n) (hi : i + d0 < a0.tmps.size) (hir : i + d0 = r) (hrs : r ≠ s)
    (hFs : ∀ j v w, j + d0 = s → F j v w → ∀ g, v.ownBlock = some g → g < w.heap.size) {K' : Act → World → Prop}
    (h : ∀ v w', TreeJ2 r d0 n a0 w0 (a.put (some (i + d0)) v) w' → TreeD2 F r s d0 i (a.put (some (i + d0)) v) w' →
      (∀ j, j < ops.length → keepB ops i j = true → TreeD2 F r s d0 j a w → TreeD2 F r s d0 j (a.put (some (i + d0)) v) w') → K' (a.put (some (i + d0)) v) w')
    (v : Value) (w' : World) (hb : Below w.heap.size w w') (hf : F i v w') (hv : ∀ g, v.ownBlock = some g → w.heap.size ≤ g ∧ g < w'.heap.size) : K' (a.put (some (i + d0)) v) w' := by
  have hsame := Act.eval_put_same a (i + d0) v (by rw [hJ.base.sz]; exact hi)
  refine h v w' ⟨hJ.base.put hn v ⟨hb.os, hb.tape, hb.output, hb.size, fun b hb' => hb.block b (Nat.lt_of_lt_of_le hb' hJ.base.b.size)⟩, fun g hg => ?_⟩ ⟨?_, fun e => absurd (hir.symm.trans e) hrs⟩ (fun j _ hj hd => ?_)
  · rw [← hir, hsame] at hg
    exact (hv g hg).2
  · unfold TreeD
    rw [hsame]
    exact hf
  · have hji := keep_ne hj
    refine ⟨?_, fun e g hg => ?_⟩
    · unfold TreeD
      rw [Act.eval_put_ne _ _ _ _ (by omega)]
      exact hF _ _ _ _ hd.1 hb
    · rw [← hir, hsame] at hg
      rw [Act.eval_put_ne _ _ _ _ (by omega)]
      intro e2
      have h1 := hFs j _ _ e hd.1 g (by rw [e]; exact e2)
      have h2 := (hv g hg).1
      omega
/-- The literal's own: in a new block. -/
theorem tree2_lit {F : Nat → Value → World → Prop} (hF : ∀ i v w w', F i v w → Below w.heap.size w w' → F i v w') {r s d0 n : Nat} {a0 a : Act} {w0 w : World} {ops : List Oper} (hJ : TreeJ2 r d0 n a0 w0 a w) {i : Nat} (hn : i < n) (hi : i + d0 < a0.tmps.size) (his : i + d0 = s) (hrs : r ≠ s) {K' : Act → World → Prop}
    (h : ∀ v w', TreeJ2 r d0 n a0 w0 (a.put (some (i + d0)) v) w' → TreeD2 F r s d0 i (a.put (some (i + d0)) v) w' →
      (∀ j, j < ops.length → keepB ops i j = true → TreeD2 F r s d0 j a w → TreeD2 F r s d0 j (a.put (some (i + d0)) v) w') → K' (a.put (some (i + d0)) v) w')
    (v : Value) (w' : World) (hb : Below w.heap.size w w') (hf : F i v w') (hv : ∀ g, v.ownBlock = some g → w.heap.size ≤ g) : K' (a.put (some (i + d0)) v) w' := by
  have hsame := Act.eval_put_same a (i + d0) v (by rw [hJ.base.sz]; exact hi)
  refine h v w' ⟨hJ.base.put hn v ⟨hb.os, hb.tape, hb.output, hb.size, fun b hb' => hb.block b (Nat.lt_of_lt_of_le hb' hJ.base.b.size)⟩, fun g hg => ?_⟩ ⟨?_, fun e g hg => ?_⟩ (fun j _ hj hd => ?_)
  · rw [Act.eval_put_ne _ _ _ _ (by omega)] at hg
    exact Nat.lt_of_lt_of_le (hJ.blk g hg) hb.size
  · unfold TreeD
    rw [hsame]
    exact hf
  · rw [Act.eval_put_ne _ _ _ _ (by omega)] at hg
    rw [← his, hsame]
    intro e2
    have h1 := hJ.blk g hg
    have h2 := hv g e2
    omega
  · have hji := keep_ne hj
    refine ⟨?_, fun e => absurd (e.trans his.symm) (by omega)⟩
    unfold TreeD
    rw [Act.eval_put_ne _ _ _ _ (by omega)]
    exact hF _ _ _ _ hd.1 hb
/-- The row is turned in place: what is still wanted stays. -/
theorem tree2_turn {F : Nat → Value → World → Prop} {r s d0 n : Nat} {a0 a : Act} {w0 w : World} {ops : List Oper} (hJ : TreeJ2 r d0 n a0 w0 a w) {i : Nat} (hn : i < n) (hi : i + d0 < a0.tmps.size) (hir : i + d0 ≠ r) (his : i + d0 ≠ s) {K' : Act → World → Prop}
    (h : ∀ v w', TreeJ2 r d0 n a0 w0 (a.put (some (i + d0)) v) w' → TreeD2 F r s d0 i (a.put (some (i + d0)) v) w' →
      (∀ j, j < ops.length → keepB ops i j = true → TreeD2 F r s d0 j a w → TreeD2 F r s d0 j (a.put (some (i + d0)) v) w') → K' (a.put (some (i + d0)) v) w')
    (v : Value) (w' : World) (hb : Below w0.heap.size w w') (hsz : w.heap.size ≤ w'.heap.size) (hf : F i v w')
    (hk : ∀ j, j < ops.length → keepB ops i j = true → ∀ u, F j u w → (j + d0 = s → ∀ g, (a.eval (.tmp r)).ownBlock = some g → u.ownBlock ≠ some g) → F j u w') : K' (a.put (some (i + d0)) v) w' := by
  refine h v w' ⟨hJ.base.put hn v hb, fun g hg => ?_⟩ ⟨?_, fun e => absurd e his⟩ (fun j hjl hj hd => ?_)
  · rw [Act.eval_put_ne _ _ _ _ hir] at hg
    exact Nat.lt_of_lt_of_le (hJ.blk g hg) hsz
  · unfold TreeD
    rw [Act.eval_put_same _ _ _ (by rw [hJ.base.sz]; exact hi)]
    exact hf
  · have hji := keep_ne hj
    refine ⟨?_, fun e g hg => ?_⟩
    · unfold TreeD
      rw [Act.eval_put_ne _ _ _ _ (by omega)]
      exact hk j hjl hj _ hd.1 (fun e g hg => by rw [e]; exact hd.2 e g hg)
    · rw [Act.eval_put_ne _ _ _ _ hir] at hg
      rw [Act.eval_put_ne _ _ _ _ his]
      exact hd.2 e g hg
/-- Which facts must outlive an operation. -/
theorem keep_only {ops : List Oper} {i j : Nat} (L : List Nat) (h : ((List.range ops.length).all fun j => !keepB ops i j || L.contains j) = true) (hj : j < ops.length) (hk : keepB ops i j = true) : j ∈ L := by
  rw [List.all_eq_true] at h
  have := h j (List.mem_range.2 hj)
  rw [hk] at this
  simpa using this
theorem tree2_root {F : Nat → Value → World → Prop} {r s d0 n : Nat} {a0 a : Act} {w0 w : World} {ops : List Oper} (hJ : TreeJ2 r d0 n a0 w0 a w) {i : Nat} (hn : i < n) (hi : i + d0 < a0.tmps.size) (hir : i + d0 ≠ r) (his : i + d0 ≠ s) (hno : ((List.range ops.length).all fun j => !keepB ops i j) = true) {K' : Act → World → Prop}
    (h : ∀ v w', TreeJ2 r d0 n a0 w0 (a.put (some (i + d0)) v) w' → TreeD2 F r s d0 i (a.put (some (i + d0)) v) w' →
      (∀ j, j < ops.length → keepB ops i j = true → TreeD2 F r s d0 j a w → TreeD2 F r s d0 j (a.put (some (i + d0)) v) w') → K' (a.put (some (i + d0)) v) w')
    (v : Value) (w' : World) (hb : Below w0.heap.size w w') (hsz : w.heap.size ≤ w'.heap.size) (hf : F i v w') : K' (a.put (some (i + d0)) v) w' := by
  refine tree2_turn hJ hn hi hir his h v w' hb hsz hf (fun j hj hk => ?_)
  rw [List.all_eq_true] at hno
  have := hno j (List.mem_range.2 hj)
  rw [hk] at this
  cases this
end
end Go.Proofs.YtbnelgniekcjdaaGreatDoor

/- A region that draws its order, whose operations' facts are told one by one: which of them each operation uses, and which stay for good; each other is kept until its one user has been. Over any program. -/
namespace Go.Proofs.YtbnelgniekcjdaaGreatDoor
open Go.RowKit
section
variable {P : Program} {Q : Exit → Act → World → Prop}
/-- Must a fact outlive an operation? -/
def keepP (pers : List Nat) (U : List (List Nat)) (ops : List Oper) (i j : Nat) : Bool :=
  (i != j) && (!(needsL ops ops.length j).contains i) && (pers.contains j || ((!(U.getD i []).contains j) && (needsL ops ops.length i).all fun k => !(U.getD k []).contains j))
/-- Are all binding edges backward, no operation guarded, and does the last wait for all? -/
def distP (l : List Oper) (z : Oper) : Bool :=
  ((List.range (l.length + 1)).all fun i => match (l ++ [z])[i]? with | none => true | some o => o.guard.isNone && o.after.toList.all fun e => !Region.binds .any e || decide (e.on < i)) &&
    (List.range l.length).all fun i => z.after.toList.any fun e => Region.binds .any e && e.on == i
/-- Is what stands so, is what is used waited for, and does each fact that does not stay serve one at most? -/
def perB (l : List Oper) (z : Oper) (pers : List Nat) (U : List (List Nat)) : Bool :=
  distP l z && (U.length == l.length) && ((List.range l.length).all fun i => match l[i]? with | none => true | some o => (U.getD i []).all fun j => (depsL o).contains j) &&
    (List.range l.length).all fun i => (List.range l.length).all fun i' => i == i' || (U.getD i []).all fun j => pers.contains j || !(U.getD i' []).contains j
def UseD (D : Nat → Act → World → Prop) (a : Act) (w : World) : List Nat → Prop
  | [] => True
  | j :: r => D j a w ∧ UseD D a w r
theorem useD_of {D : Nat → Act → World → Prop} {a : Act} {w : World} : ∀ {l : List Nat}, (∀ j ∈ l, D j a w) → UseD D a w l
  | [], _ => trivial
  | j :: _, h => ⟨h j (List.mem_cons_self ..), useD_of fun i hi => h i (List.mem_cons_of_mem _ hi)⟩
theorem wpAny_per (l : List Oper) (z : Oper) (J : Act → World → Prop) (D : Nat → Act → World → Prop) (pers : List Nat) (U : List (List Nat))
    (hac : ∀ (i : Nat) (o : Oper), (l ++ [z])[i]? = some o → o.guard = none ∧ ∀ e ∈ o.after, Region.binds .any e = true → e.on < i)
    (hall : ∀ i, i < l.length → i ∈ depsL z)
    (husz : U.length = l.length) (huse : ∀ (i : Nat) (o : Oper), l[i]? = some o → ∀ j ∈ U.getD i [], j ∈ depsL o)
    (hone : ∀ (i i' j : Nat), i < l.length → i' < l.length → j ∈ U.getD i [] → j ∈ U.getD i' [] → pers.contains j = false → i = i')
    (hstep : ∀ (i : Nat) (o : Oper), l[i]? = some o → ∀ a w, J a w → (∀ j ∈ U.getD i [], D j a w) → ∀ K' : Act → World → Prop,
      (∀ v w', J (a.put o.dst v) w' → D i (a.put o.dst v) w' → (∀ j, j < l.length → keepP pers U l i j = true → D j a w → D j (a.put o.dst v) w') → K' (a.put o.dst v) w') → o.wp P a w K' Q)
    (hlast : ∀ a w, J a w → (∀ j, j < l.length → pers.contains j = true → D j a w) → ∀ K' : Act → World → Prop, (∀ a w', Q .normal a w' → K' a w') → z.wp P a w K' Q) :
    ∀ (fuel : Nat) (listed : Array Bool) (a : Act) (w : World), listed.size = l.length + 1 → listed.getD l.length true = false → unl (l.length + 1) listed ≤ fuel → J a w →
      (∀ i o, l[i]? = some o → listed.getD i true = true → ∀ k ∈ depsL o, listed.getD k true = true) →
      (∀ i, i < l.length → listed.getD i true = true → (pers.contains i = true ∨ ∀ k, k < l.length → listed.getD k true = true → ¬ i ∈ U.getD k []) → D i a w) → wpAny P .any (l ++ [z]).toArray Q fuel listed a w := by
  have hsz : (l ++ [z]).toArray.size = l.length + 1 := by simp
  have hopl : ∀ i, i < l.length → ∃ o, l[i]? = some o := fun i hi => ⟨l[i], List.getElem?_eq_getElem hi⟩
  have hread : ∀ (listed : Array Bool), listed.size = l.length + 1 → ∀ (i : Nat) (o : Oper), (l ++ [z])[i]? = some o → i < l.length + 1 → listed.getD i true = false → (∀ k ∈ depsL o, listed.getD k true = true) → i ∈ Region.ready .any (l ++ [z]).toArray listed := by
    intro listed hs i o ho hi hl hd
    refine mem_ready.2 ⟨hl, o, by simpa using ho, fun e he hb => ?_⟩
    have h1 := hd e.on (mem_deps.2 ⟨e, he, hb, rfl⟩)
    have h2 := (hac i o ho).2 e he hb
    rw [Array.getD_eq_getD_getElem?] at h1 ⊢
    rw [Array.getElem?_eq_getElem (by omega)] at h1 ⊢
    exact h1
  have hne : ∀ listed : Array Bool, listed.size = l.length + 1 → listed.getD l.length true = false → Region.ready .any (l ++ [z]).toArray listed ≠ [] := by
    intro listed hs hl h0
    have : ∀ k i, i < k → i ≤ l.length → listed.getD i true = true := by
      intro k
      induction k with
      | zero => intro i h; omega
      | succ k ih =>
        intro i hk him
        by_cases hik : i < k
        · exact ih i hik him
        · cases hb : listed.getD i true with
          | true => rfl
          | false =>
            exfalso
            obtain ⟨o, ho⟩ : ∃ o, (l ++ [z])[i]? = some o := ⟨(l ++ [z])[i]'(by simp; omega), List.getElem?_eq_getElem _⟩
            have hmem := hread listed hs i o ho (by omega) hb (fun k hk => by
              obtain ⟨e, he, hb, rfl⟩ := mem_deps.1 hk
              have := (hac i o ho).2 e he hb
              exact ih _ (by omega) (by omega))
            rw [h0] at hmem
            cases hmem
    rw [this (l.length + 1) l.length (by omega) (Nat.le_refl _)] at hl
    cases hl
  intro fuel
  induction fuel with
  | zero =>
    intro listed a w hs hl hu _ _ _
    exfalso
    have := unl_set (l := listed) hs (show l.length < l.length + 1 by omega) hl
    omega
  | succ fuel ih =>
    intro listed a w hs hl hu hJ hC hD
    refine ⟨fun h0 => absurd h0 (hne listed hs hl), fun i hi => ?_⟩
    obtain ⟨hli, o, ho, hed⟩ := mem_ready.1 hi
    have hio : i < (l ++ [z]).toArray.size := (Array.getElem?_eq_some_iff.1 ho).1
    rw [hsz] at hio
    have ho' : (l ++ [z])[i]? = some o := by simpa using ho
    unfold wpOp
    rw [ho]
    simp only []
    have hw : Region.wanted o (yielded (l ++ [z]).toArray a.tmps) = true := by unfold Region.wanted; rw [(hac i o ho').1]
    rw [if_pos hw]
    left
    have hlt : ∀ j ∈ depsL o, listed.getD j true = true := by
      intro j hj
      obtain ⟨e, he, hb, rfl⟩ := mem_deps.1 hj
      have h1 := hed e he hb
      have h2 := (hac i o ho').2 e he hb
      rw [Array.getD_eq_getD_getElem?] at h1 ⊢
      rw [Array.getElem?_eq_getElem (by omega)] at h1 ⊢
      exact h1
    by_cases him : i = l.length
    · subst him
      obtain rfl : z = o := by simpa using ho'
      refine hlast a w hJ (fun j hj hp => hD j hj (hlt j (hall j hj)) (.inl hp)) _ (fun a' w' hq => ?_)
      · refine wpAny_done ?_ hq fuel
        have : ∀ j, j ∉ Region.ready .any (l ++ [z]).toArray (listed.setIfInBounds l.length true) := by
          intro j hj
          obtain ⟨h1, o', ho', _⟩ := mem_ready.1 hj
          have hjo : j < (l ++ [z]).toArray.size := (Array.getElem?_eq_some_iff.1 ho').1
          rw [hsz] at hjo
          by_cases hji : l.length = j
          · subst hji
            rw [getD_set_self (by omega)] at h1
            cases h1
          · rw [getD_set_other hji] at h1
            have := hlt j (hall j (by omega))
            rw [h1] at this
            cases this
        exact List.eq_nil_iff_forall_not_mem.2 this
    · have hil : i < l.length := by omega
      have hol : l[i]? = some o := by rw [List.getElem?_append_left hil] at ho'; exact ho'
      refine hstep i o hol a w hJ (fun j hj => ?_) _ (fun v w' hJ' hDi hkeep => ?_)
      · have hjd := huse i o hol j hj
        have hjl : j < l.length := by
          obtain ⟨e, he, hb, rfl⟩ := mem_deps.1 hjd
          have := (hac i o ho').2 e he hb
          omega
        cases hp : pers.contains j with
        | true => exact hD j hjl (hlt j hjd) (.inl hp)
        | false =>
          refine hD j hjl (hlt j hjd) (.inr fun k hk hkl hb => ?_)
          obtain rfl := hone i k j hil hk hj hb hp
          rw [hli] at hkl
          cases hkl
      · refine ih _ _ _ (by simpa using hs) (by rw [getD_set_other him]; exact hl) ?_ hJ' (fun k o' hk hkl q hq => ?_) (fun j hj hlj hno => ?_)
        · have := unl_set (l := listed) hs (show i < l.length + 1 by omega) hli
          omega
        · by_cases hiq : i = q
          · subst hiq
            exact getD_set_self (by omega)
          · rw [getD_set_other hiq]
            by_cases hki : i = k
            · subst hki
              obtain rfl : o = o' := Option.some.inj (hol.symm.trans hk)
              exact hlt q hq
            · rw [getD_set_other hki] at hkl
              exact hC k o' hk hkl q hq
        · by_cases hji : i = j
          · subst hji; exact hDi
          · rw [getD_set_other hji] at hlj
            have hno' : pers.contains j = true ∨ ∀ k, k < l.length → listed.getD k true = true → ¬ j ∈ U.getD k [] := hno.imp id fun h k hk hkl => by
              refine h k hk ?_
              by_cases hki : i = k
              · subst hki
                exact getD_set_self (by omega)
              · rw [getD_set_other hki]; exact hkl
            refine hkeep j hj ?_ (hD j hj hlj hno')
            unfold keepP
            rw [Bool.and_eq_true, Bool.and_eq_true]
            refine ⟨⟨by simpa using hji, ?_⟩, ?_⟩
            · have hnj : ¬ i ∈ needsL l l.length j := fun hm => by
                have := needs_listed (L := fun k => listed.getD k true = true) (fun i o hL ho k hk => hC i o ho hL k hk) l.length j (fun o' ho' k hk => hC j o' ho' hlj k hk) i hm
                rw [hli] at this
                cases this
              simpa using hnj
            · rw [Bool.or_eq_true]
              rcases hno with hp | hno
              · exact .inl hp
              right
              rw [Bool.and_eq_true]
              constructor
              · have := hno i hil (getD_set_self (by omega))
                simpa using this
              · rw [List.all_eq_true]
                intro k hk
                have hkL := needs_listed (L := fun k => listed.getD k true = true) (fun i o hL ho k hk => hC i o ho hL k hk) l.length i (fun o' ho' k hk => by
                  obtain rfl : o = o' := Option.some.inj (hol.symm.trans ho')
                  exact hlt k hk) k hk
                by_cases hkl : k < l.length
                · have := hno k hkl (by
                    by_cases hki : i = k
                    · subst hki
                      exact getD_set_self (by omega)
                    · rw [getD_set_other hki]; exact hkL)
                  simpa using this
                · rw [List.getD_eq_getElem?_getD, List.getElem?_eq_none (by omega)]
                  rfl
/-- Each operation of a list leaves its own fact, and keeps those that are still wanted. -/
def StepsP (P : Program) (Q : Exit → Act → World → Prop) (J : Act → World → Prop) (D : Nat → Act → World → Prop) (pers : List Nat) (U : List (List Nat)) (ops : List Oper) : Nat → List Oper → Prop
  | _, [] => True
  | i, o :: r => (∀ a w, J a w → UseD D a w (U.getD i []) → ∀ K' : Act → World → Prop,
      (∀ v w', J (a.put o.dst v) w' → D i (a.put o.dst v) w' → (∀ j, j < ops.length → keepP pers U ops i j = true → D j a w → D j (a.put o.dst v) w') → K' (a.put o.dst v) w') → o.wp P a w K' Q) ∧ StepsP P Q J D pers U ops (i + 1) r
theorem stepsP_at {J : Act → World → Prop} {D : Nat → Act → World → Prop} {pers : List Nat} {U : List (List Nat)} {ops : List Oper} : ∀ {l : List Oper} {k : Nat}, StepsP P Q J D pers U ops k l → ∀ (i : Nat) (o : Oper), l[i]? = some o → ∀ a w, J a w → UseD D a w (U.getD (k + i) []) → ∀ K' : Act → World → Prop,
      (∀ v w', J (a.put o.dst v) w' → D (k + i) (a.put o.dst v) w' → (∀ j, j < ops.length → keepP pers U ops (k + i) j = true → D j a w → D j (a.put o.dst v) w') → K' (a.put o.dst v) w') → o.wp P a w K' Q
  | [], _, _, _, _, ho => by simp at ho
  | x :: r, k, h, 0, o, ho => by
    obtain rfl : x = o := by simpa using ho
    exact h.1
  | x :: r, k, h, i + 1, o, ho => by
    have := stepsP_at h.2 i o (by simpa using ho)
    rw [show k + 1 + i = k + (i + 1) from by omega] at this
    exact this
/-- The whole region, its operations in a list, the last apart: U says whose facts an operation uses, pers which facts stay for good. -/
theorem wp_region_per {id : Nat} (hmx : P.follows .mixedOrders = true) {ops : List Oper} (l : List Oper) (z : Oper) (hl : ops = l ++ [z]) (pers : List Nat) (U : List (List Nat)) (hB : perB l z pers U = true) (J : Act → World → Prop) (D : Nat → Act → World → Prop) (a : Act) (w : World) (hJ : J a w.drew)
    (hsteps : StepsP P Q J D pers U l 0 l)
    (hlast : ∀ a w, J a w → (∀ j, j < l.length → pers.contains j = true → D j a w) → ∀ K' : Act → World → Prop, (∀ a w', Q .normal a w' → K' a w') → z.wp P a w K' Q) : (Code.region id ops.toArray true).wp P Q a w := by
  subst hl
  unfold perB at hB
  rw [Bool.and_eq_true, Bool.and_eq_true, Bool.and_eq_true, beq_iff_eq, List.all_eq_true, List.all_eq_true] at hB
  obtain ⟨⟨⟨hB, hU⟩, hD⟩, hT⟩ := hB
  unfold distP at hB
  rw [Bool.and_eq_true, List.all_eq_true, List.all_eq_true] at hB
  refine wp_region_any hmx ?_
  have hac : ∀ (i : Nat) (o : Oper), (l ++ [z])[i]? = some o → o.guard = none ∧ ∀ e ∈ o.after, Region.binds .any e = true → e.on < i := by
    intro i o ho'
    have hi : i < l.length + 1 := by simpa using (List.getElem?_eq_some_iff.1 ho').1
    have := hB.1 i (List.mem_range.2 hi)
    rw [ho'] at this
    simp only [Bool.and_eq_true, List.all_eq_true, Bool.or_eq_true, Bool.not_eq_true', decide_eq_true_eq, Option.isNone_iff_eq_none] at this
    exact ⟨this.1, fun e he hb => (this.2 e (by simpa using he)).resolve_left (by rw [hb]; decide)⟩
  refine wpAny_per (P := P) (Q := Q) l z J D pers U hac ?_ hU ?_ ?_ ?_ hlast _ _ _ _ (by simp) (by simp) (by rw [show l.length + 1 = (l ++ [z]).toArray.size by simp]; exact unl_none _) hJ ?_ ?_
  · intro i hi
    have := hB.2 i (List.mem_range.2 hi)
    rw [List.any_eq_true] at this
    obtain ⟨e, he, h⟩ := this
    rw [Bool.and_eq_true, beq_iff_eq] at h
    exact mem_deps.2 ⟨e, by simpa using he, h.1, h.2⟩
  · intro i o ho j hj
    have hi := (List.getElem?_eq_some_iff.1 ho).1
    have := hD i (List.mem_range.2 hi)
    rw [ho, List.all_eq_true] at this
    simpa using this j hj
  · intro i i' j hi hi' hj hj' hp
    have h1 := hT i (List.mem_range.2 hi)
    rw [List.all_eq_true] at h1
    have h2 := h1 i' (List.mem_range.2 hi')
    rw [Bool.or_eq_true, beq_iff_eq] at h2
    rcases h2 with h2 | h2
    · exact h2
    · rw [List.all_eq_true] at h2
      have := h2 j hj
      rw [hp] at this
      simp at this
      exact absurd hj' (by simpa using this)
  · intro i o ho a w hJ hD K' hK
    refine stepsP_at hsteps i o ho a w hJ (useD_of ?_) K' ?_
    · simpa using hD
    · simpa using hK
  · intro i o ho hli
    have hi := (List.getElem?_eq_some_iff.1 ho).1
    rw [Array.getD_eq_getD_getElem?] at hli
    simp [show i < l.length + 1 by omega] at hli
  · intro i hi hli
    rw [Array.getD_eq_getD_getElem?] at hli
    simp [show i < l.length + 1 by omega] at hli

/-! ### Facts on slots -/
/-- What stays in a region whose operations fill the slots S. -/
structure PerJ (S : List Nat) (r : Nat) (a0 : Act) (w0 : World) (a : Act) (w : World) : Prop where
  sz : a.tmps.size = a0.tmps.size
  d : a.defers = a0.defers
  old : ∀ t, t ∉ S → a.eval (.tmp t) = a0.eval (.tmp t)
  b : Below w0.heap.size w0 w
  blk : ∀ g, (a.eval (.tmp r)).ownBlock = some g → g < w.heap.size
/-- A fact on an operation's slot, and on the slot of the row that is turned. -/
def PerD (F : Nat → Value → Value → World → Prop) (S : List Nat) (r : Nat) (i : Nat) (a : Act) (w : World) : Prop := F i (a.eval (.tmp (S.getD i 0))) (a.eval (.tmp r)) w
theorem below_le {B B' : Nat} {a b : World} (h : Below B' a b) (hB : B ≤ B') : Below B a b := ⟨h.os, h.tape, h.output, h.size, fun i hi => h.block i (Nat.lt_of_lt_of_le hi hB)⟩
theorem PerJ.put {S : List Nat} {r : Nat} {a0 a : Act} {w0 w w' : World} (h : PerJ S r a0 w0 a w) {s : Nat} (hs : s ∈ S) (v : Value) (hb : Below w0.heap.size w w') (hk : ∀ g, ((a.put (some s) v).eval (.tmp r)).ownBlock = some g → g < w'.heap.size) : PerJ S r a0 w0 (a.put (some s) v) w' :=
  ⟨by rw [Act.size_put]; exact h.sz, by rw [Act.defers_put']; exact h.d, fun t ht => by rw [Act.eval_put_ne _ _ _ _ (fun e => ht (by rw [← e]; exact hs))]; exact h.old t ht, h.b.trans hb, hk⟩
theorem PerJ.other {S : List Nat} {r : Nat} {a0 a : Act} {w0 w w' : World} (h : PerJ S r a0 w0 a w) {s : Nat} (hr : s ≠ r) (v : Value) (hz : w.heap.size ≤ w'.heap.size) : ∀ g, ((a.put (some s) v).eval (.tmp r)).ownBlock = some g → g < w'.heap.size := fun g hg => by
  rw [Act.eval_put_ne _ _ _ _ hr] at hg
  exact Nat.lt_of_lt_of_le (h.blk g hg) hz
theorem getD_ne {S : List Nat} (hnd : S.Nodup) {i j : Nat} (hi : i < S.length) (hj : j < S.length) (h : j ≠ i) : S.getD i 0 ≠ S.getD j 0 := by
  rw [List.getD_eq_getElem?_getD, List.getD_eq_getElem?_getD, List.getElem?_eq_getElem hi, List.getElem?_eq_getElem hj]
  intro e
  exact h ((List.getElem_inj hnd).1 e).symm
theorem getD_mem {S : List Nat} {i : Nat} (hi : i < S.length) : S.getD i 0 ∈ S := by
  rw [List.getD_eq_getElem?_getD, List.getElem?_eq_getElem hi]
  exact List.getElem_mem hi
theorem keepP_ne {pers : List Nat} {U : List (List Nat)} {ops : List Oper} {i j : Nat} (h : keepP pers U ops i j = true) : j ≠ i := by
  rintro rfl
  unfold keepP at h
  simp at h
section
variable {F : Nat → Value → Value → World → Prop} {S : List Nat} {r : Nat} {a0 a : Act} {w0 w : World} {pers : List Nat} {U : List (List Nat)} {ops : List Oper} {K' : Act → World → Prop}
/-- An operation that fills its slot, and turns nothing: every fact stays. -/
theorem per_next (hF : ∀ j v x w w', F j v x w → Below w.heap.size w w' → F j v x w') (hnd : S.Nodup) (hlen : ops.length = S.length) (i s : Nat) (hi : i < S.length) (hs : S.getD i 0 = s) (hr : s ≠ r) (hJ : PerJ S r a0 w0 a w) (hz : s < a0.tmps.size)
    (h : ∀ v w', PerJ S r a0 w0 (a.put (some s) v) w' → PerD F S r i (a.put (some s) v) w' → (∀ j, j < ops.length → keepP pers U ops i j = true → PerD F S r j a w → PerD F S r j (a.put (some s) v) w') → K' (a.put (some s) v) w')
    (v : Value) (w' : World) (hb : Below w.heap.size w w') (hf : F i v (a.eval (.tmp r)) w') : K' (a.put (some s) v) w' := by
  subst hs
  refine h v w' (hJ.put (getD_mem hi) v (below_le hb hJ.b.size) (hJ.other hr v hb.size)) ?_ (fun j hj hk hd => ?_)
  · unfold PerD
    rw [Act.eval_put_same _ _ _ (by rw [hJ.sz]; exact hz), Act.eval_put_ne _ _ _ _ hr]
    exact hf
  · unfold PerD at *
    rw [Act.eval_put_ne _ _ _ _ (getD_ne hnd hi (by omega) (keepP_ne hk)), Act.eval_put_ne _ _ _ _ hr]
    exact hF _ _ _ _ _ hd hb
/-- The row's own operation: it lies in a new block. -/
theorem per_row (hF : ∀ j v x w w', F j v x w → Below w.heap.size w w' → F j v x w') (hX : ∀ j v x x' w, F j v x w → (∀ g, x'.ownBlock = some g → w.heap.size ≤ g) → F j v x' w) (hnd : S.Nodup) (hlen : ops.length = S.length) (i : Nat) (hi : i < S.length) (hs : S.getD i 0 = r) (hJ : PerJ S r a0 w0 a w) (hz : r < a0.tmps.size)
    (h : ∀ v w', PerJ S r a0 w0 (a.put (some r) v) w' → PerD F S r i (a.put (some r) v) w' → (∀ j, j < ops.length → keepP pers U ops i j = true → PerD F S r j a w → PerD F S r j (a.put (some r) v) w') → K' (a.put (some r) v) w')
    (v : Value) (w' : World) (hb : Below w.heap.size w w') (hv : ∀ g, v.ownBlock = some g → w.heap.size ≤ g ∧ g < w'.heap.size) (hf : F i v v w') : K' (a.put (some r) v) w' := by
  have hsame := Act.eval_put_same a r v (by rw [hJ.sz]; exact hz)
  refine h v w' (hJ.put (hs ▸ getD_mem hi) v (below_le hb hJ.b.size) (fun g hg => by rw [hsame] at hg; exact (hv g hg).2)) ?_ (fun j hj hk hd => ?_)
  · unfold PerD
    rw [hs, hsame]
    exact hf
  · unfold PerD at *
    rw [Act.eval_put_ne _ _ _ _ (hs ▸ getD_ne hnd hi (by omega) (keepP_ne hk)), hsame]
    exact hF _ _ _ _ _ (hX _ _ _ _ _ hd fun g hg => (hv g hg).1) hb
/-- The row is turned in place: what is still wanted stays. -/
theorem per_turn (hnd : S.Nodup) (hlen : ops.length = S.length) (i s : Nat) (hi : i < S.length) (hs : S.getD i 0 = s) (hr : s ≠ r) (hJ : PerJ S r a0 w0 a w) (hz : s < a0.tmps.size)
    (h : ∀ v w', PerJ S r a0 w0 (a.put (some s) v) w' → PerD F S r i (a.put (some s) v) w' → (∀ j, j < ops.length → keepP pers U ops i j = true → PerD F S r j a w → PerD F S r j (a.put (some s) v) w') → K' (a.put (some s) v) w')
    (v : Value) (w' : World) (hb : Below w0.heap.size w w') (hsz : w.heap.size ≤ w'.heap.size) (hf : F i v (a.eval (.tmp r)) w') (hk : ∀ j, j < ops.length → keepP pers U ops i j = true → ∀ u, F j u (a.eval (.tmp r)) w → F j u (a.eval (.tmp r)) w') : K' (a.put (some s) v) w' := by
  subst hs
  refine h v w' (hJ.put (getD_mem hi) v hb (hJ.other hr v hsz)) ?_ (fun j hj hq hd => ?_)
  · unfold PerD
    rw [Act.eval_put_same _ _ _ (by rw [hJ.sz]; exact hz), Act.eval_put_ne _ _ _ _ hr]
    exact hf
  · unfold PerD at *
    rw [Act.eval_put_ne _ _ _ _ (getD_ne hnd hi (by omega) (keepP_ne hq)), Act.eval_put_ne _ _ _ _ hr]
    exact hk j hj hq _ hd
end
theorem keepP_only {pers : List Nat} {U : List (List Nat)} {ops : List Oper} {i j : Nat} (L : List Nat) (h : ((List.range ops.length).all fun j => !keepP pers U ops i j || L.contains j) = true) (hj : j < ops.length) (hk : keepP pers U ops i j = true) : j ∈ L := by
  rw [List.all_eq_true] at h
  have := h j (List.mem_range.2 hj)
  rw [hk] at this
  simpa using this
/-- The frame behind: as it was but for the region's own slots. -/
def patch (f : Nat → Value) (l0 : List Value) : List Nat → List Value
  | [] => l0
  | s :: S => (patch f l0 S).set s (f s)
theorem patch_at (f : Nat → Value) (l0 : List Value) : ∀ (S : List Nat) (i : Nat), i < l0.length → (patch f l0 S)[i]? = if i ∈ S then some (f i) else l0[i]?
  | [], i, _ => by simp [patch]
  | s :: S, i, hi => by
    have ih := patch_at f l0 S i hi
    by_cases h : s = i
    · subst h
      have hl : s < (patch f l0 S).length := by
        have h2 : (patch f l0 S)[s]? ≠ none := by
          rw [ih]
          split
          · simp
          · rw [List.getElem?_eq_getElem hi]; simp
        exact Nat.lt_of_not_le fun hle => h2 (List.getElem?_eq_none hle)
      simp [patch, List.getElem?_set_self hl]
    · simp only [patch, List.getElem?_set_ne h, ih, List.mem_cons]
      by_cases hm : i ∈ S
      · simp [hm]
      · simp [hm, Ne.symm h]
theorem patch_len (f : Nat → Value) (l0 : List Value) : ∀ S : List Nat, (patch f l0 S).length = l0.length
  | [] => rfl
  | s :: S => by rw [patch, List.length_set, patch_len f l0 S]
theorem act_per {S : List Nat} {r : Nat} {l0 : List Value} {ds : List Deferred} {w0 : World} {a : Act} {w : World} (hJ : PerJ S r { tmps := l0.toArray, defers := ds } w0 a w) : a = { tmps := (patch (fun s => a.eval (.tmp s)) l0 S).toArray, defers := ds } := by
  have hd := hJ.d
  have hsz := hJ.sz
  have hold := hJ.old
  obtain ⟨tm, df⟩ := a
  obtain ⟨tl⟩ := tm
  simp at hd hsz
  subst hd
  congr 1
  congr 1
  refine List.ext_getElem? fun i => ?_
  by_cases hi : i < l0.length
  · rw [patch_at _ _ _ _ hi]
    have hi' : i < tl.length := by omega
    split
    · simp [Act.eval, hi']
    · rename_i hm
      have h1 := hold i hm
      simp [Act.eval, hi, hi'] at h1
      rw [List.getElem?_eq_getElem hi, List.getElem?_eq_getElem hi', h1]
  · rw [List.getElem?_eq_none (by omega), List.getElem?_eq_none (by rw [patch_len]; omega)]
/-- The whole region, its facts on slots. -/
theorem wp_region_perF {id : Nat} (hmx : P.follows .mixedOrders = true) {ops : List Oper} (l : List Oper) (z : Oper) (hl : ops = l ++ [z]) (pers : List Nat) (U : List (List Nat)) (hB : perB l z pers U = true) (F : Nat → Value → Value → World → Prop) (S : List Nat) (r : Nat) (a : Act) (w : World) (hr : (a.eval (.tmp r)).ownBlock = none)
    (hsteps : StepsP P Q (PerJ S r a w) (PerD F S r) pers U l 0 l)
    (hlast : ∀ a' w', PerJ S r a w a' w' → (∀ j, j < l.length → pers.contains j = true → PerD F S r j a' w') → ∀ K' : Act → World → Prop, (∀ a w', Q .normal a w' → K' a w') → z.wp P a' w' K' Q) : (Code.region id ops.toArray true).wp P Q a w :=
  wp_region_per hmx l z hl pers U hB (PerJ S r a w) (PerD F S r) a w ⟨rfl, rfl, fun _ _ => rfl, below_drew_refl w, fun g hg => by rw [hr] at hg; cases hg⟩ hsteps hlast
end
end Go.Proofs.YtbnelgniekcjdaaGreatDoor

/- Rows made of an empty literal: 'append([]T{}, xs...)', wherever it stands. Over any program. -/
namespace Go.Proofs.YtbnelgniekcjdaaGreatDoor
open Go.RowKit Cap
set_option maxRecDepth 100000

/-- An empty literal, wherever it lies. -/
def LitAt (base : Nat) (T : TypeId) (w : World) (v : Value) : Prop := ∃ B, v = .slice (some ⟨B, 0, none⟩) 0 0 ∧ base ≤ B ∧ w.heap[B]? = some (.cells #[] T (0, 0))
theorem LitAt.below {base : Nat} {T : TypeId} {w w' : World} {v : Value} (h : LitAt base T w v) (hb : Below w.heap.size w w') : LitAt base T w' v := by
  obtain ⟨B, rfl, h1, h2⟩ := h
  have hlt : B < w.heap.size := (Array.getElem?_eq_some_iff.1 h2).1
  exact ⟨B, rfl, h1, (hb.block B hlt).trans h2⟩
section
variable {P : Program} {α : Type}
/-- 'append([]T{}, src...)': a row of the call's own; nothing that was there turns. -/
theorem run_lit_app (w : World) (base : Nat) (t ty e : TypeId) (z : Value) (k bytes : Nat) (ht : P.underlying t = some (.slice e)) (hi : InfoIs P e z k bytes) (hzs : z.cells.size = k) (hsz : 0 < k)
    (v : Value) (hv : LitAt base e w v) (enc : α → List Value) (hk : ∀ x, (enc x).length = k) (h1 : ∀ x, ∀ u ∈ enc x, u.oneCell' = true) (x : Value) (ys : List α) (hs : Sl enc k w x ys)
    (h63 : ys.length ≤ maxLen) (hbytes : ys.length * bytes ≤ 140737488355328) :
    ∃ v' w', (Builtin.append_ #[t, t] ty #[v, x]).run P w = .ok v' w' ∧ w'.ownsRow base e k v' ys.length (ys.flatMap enc) ∧ Below w.heap.size w w' := by
  obtain ⟨B, rfl, hB, hcell⟩ := hv
  have hlt : B < w.heap.size := (Array.getElem?_eq_some_iff.1 hcell).1
  have hown : w.ownsRow base e k (.slice (some ⟨B, 0, none⟩) 0 0) 0 [] := ⟨by simp, .inr ⟨B, 0, #[], rfl, hB, hcell, Nat.le_refl _, by decide, by simp, by simp⟩⟩
  obtain ⟨v', w', hr, ho, hg⟩ := run_own_app (P := P) w base t ty e z k bytes ht hi hzs hsz _ 0 [] hown enc hk h1 x ys hs (by simpa using h63) (by simpa using hbytes) (by omega)
  refine ⟨v', w', hr, by simpa using ho, ?_⟩
  obtain ⟨i, hi1, hi2, hi3, hi4⟩ := hi.parts
  have hlen := flatMap_len hk ys
  have hs' := hs
  obtain ⟨A, c, rfl, h2, h3, _⟩ := hs
  rcases Nat.eq_zero_or_pos ys.length with h0 | h0
  · obtain rfl : ys = [] := List.eq_nil_of_length_eq_zero h0
    have hsrc : Src P i.size t (.slice A 0 c) 0 [] w := by
      cases A with
      | none => exact Src.ofNil w ht c
      | some a => exact Src.ofSlice w ht a 0 c [] (by simp) (by simp) (by simp)
    have hr' := run_append_nothing (P := P) w t t ty e i ht hi1 (some ⟨B, 0, none⟩) 0 0 (Nat.le_refl _) _ hsrc
    have hr2 := hr.symm.trans hr'
    injection hr2 with _ hw
    subst hw
    exact Below.refl _ _
  · obtain ⟨a, rfl, hcs⟩ := Sl.src hk hs' h0
    have hsrc : Src P i.size t (.slice (some a) ys.length c) ys.length (ys.flatMap enc) w := Src.ofSlice w ht a _ c _ (by rw [hlen, hi3]) hcs (fun u hu => by
      obtain ⟨y, _, hy⟩ := List.mem_flatMap.1 hu
      exact h1 y u hy)
    have hr' := run_append_grow_src (P := P) w t t ty e i z ht hi1 hi2 (some ⟨B, 0, none⟩) 0 0 [] (run_firstCells_some w.drew i.size 0 ⟨B, 0, none⟩ 0 0 [] (by simp) (by simp)) _ _ _ hsrc (by omega) (by unfold maxLen at h63; omega) (growslice_fits (by omega) (by rw [hi4]; simpa using hbytes))
    have hr2 := hr.symm.trans hr'
    injection hr2 with _ hw
    subst hw
    exact below_alloc (below_drew (Below.refl _ _))
/-- .. at the operation. -/
theorem wp_lit_app {o : Oper} {a : Act} {K : Act → World → Prop} {Q : Exit → Act → World → Prop} (w : World) (s x : Operand) (t : TypeId)
    (ho : o.op = .call { callee := .builtin .append, args := #[s, x], argTypes := #[t, t] })
    (base : Nat) (e : TypeId) (z : Value) (k bytes : Nat) (ht : P.underlying t = some (.slice e)) (hi : InfoIs P e z k bytes) (hzs : z.cells.size = k) (hsz : 0 < k)
    (enc : α → List Value) (hk : ∀ x, (enc x).length = k) (h1 : ∀ x, ∀ u ∈ enc x, u.oneCell' = true)
    (hs : LitAt base e w (a.eval s)) (ys : List α) (hsl : Sl enc k w (a.eval x) ys)
    (h63 : ys.length ≤ maxLen) (hbytes : ys.length * bytes ≤ 140737488355328)
    (h : ∀ v' w', w'.ownsRow base e k v' ys.length (ys.flatMap enc) → Below w.heap.size w w' → K (a.put o.dst v') w') : o.wp P a w K Q := by
  obtain ⟨v', w', hr, h2, h3⟩ := run_lit_app (P := P) w base t o.type e z k bytes ht hi hzs hsz _ hs enc hk h1 _ ys hsl h63 hbytes
  unfold Oper.wp execOp
  simp only [ho, resolve, invoke, builtin, Sem.run_bind, Sem.run_pure, Result.andThen_ok, List.map_toArray, List.map_cons, List.map_nil, hr]
  exact h _ _ h2 h3

/-- .. of elements that are there: in a new block. -/
theorem run_lit_new (w : World) (base : Nat) (t ty e : TypeId) (z : Value) (k bytes : Nat) (ht : P.underlying t = some (.slice e)) (hi : InfoIs P e z k bytes) (hzs : z.cells.size = k) (hsz : 0 < k)
    (v : Value) (hv : LitAt base e w v) (enc : α → List Value) (hk : ∀ x, (enc x).length = k) (h1 : ∀ x, ∀ u ∈ enc x, u.oneCell' = true) (x : Value) (ys : List α) (hs : Sl enc k w x ys) (hne : 0 < ys.length)
    (h63 : ys.length ≤ maxLen) (hbytes : ys.length * bytes ≤ 140737488355328) :
    ∃ v' w', (Builtin.append_ #[t, t] ty #[v, x]).run P w = .ok v' w' ∧ w'.ownsRow w.heap.size e k v' ys.length (ys.flatMap enc) ∧ Below w.heap.size w w' := by
  obtain ⟨v', w', hr, ho, hb⟩ := run_lit_app (P := P) w base t ty e z k bytes ht hi hzs hsz v hv enc hk h1 x ys hs h63 hbytes
  refine ⟨v', w', hr, ⟨ho.1, ?_⟩, hb⟩
  obtain ⟨B, rfl, hB, hcell⟩ := hv
  have hlt : B < w.heap.size := (Array.getElem?_eq_some_iff.1 hcell).1
  rcases ho.2 with h | ⟨g, cap, cur, rfl, hbg, hg, hc, hm, hsx, htx⟩
  · exact .inl h
  · refine .inr ⟨g, cap, cur, rfl, ?_, hg, hc, hm, hsx, htx⟩
    obtain ⟨i, hi1, hi2, hi3, hi4⟩ := hi.parts
    have hlen := flatMap_len hk ys
    obtain ⟨A, c, rfl, h2, h3, _⟩ := (id hs)
    obtain ⟨a, rfl, hcs⟩ := Sl.src hk hs hne
    have hsrc : Src P i.size t (.slice (some a) ys.length c) ys.length (ys.flatMap enc) w := Src.ofSlice w ht a _ c _ (by rw [hlen, hi3]) hcs (fun u hu => by
      obtain ⟨y, _, hy⟩ := List.mem_flatMap.1 hu
      exact h1 y u hy)
    have hr' := run_append_grow_src (P := P) w t t ty e i z ht hi1 hi2 (some ⟨B, 0, none⟩) 0 0 [] (run_firstCells_some w.drew i.size 0 ⟨B, 0, none⟩ 0 0 [] (by simp) (by simp)) _ _ _ hsrc (by omega) (by unfold maxLen at h63; omega) (growslice_fits (by omega) (by rw [hi4]; simpa using hbytes))
    have hr2 := hr.symm.trans hr'
    injection hr2 with hv _
    injection hv with hv
    injection hv with hv
    injection hv with hv
    rw [hv]
    exact Nat.le_refl _
theorem wp_lit_new {o : Oper} {a : Act} {K : Act → World → Prop} {Q : Exit → Act → World → Prop} (w : World) (s x : Operand) (t : TypeId)
    (ho : o.op = .call { callee := .builtin .append, args := #[s, x], argTypes := #[t, t] })
    (base : Nat) (e : TypeId) (z : Value) (k bytes : Nat) (ht : P.underlying t = some (.slice e)) (hi : InfoIs P e z k bytes) (hzs : z.cells.size = k) (hsz : 0 < k)
    (enc : α → List Value) (hk : ∀ x, (enc x).length = k) (h1 : ∀ x, ∀ u ∈ enc x, u.oneCell' = true)
    (hs : LitAt base e w (a.eval s)) (ys : List α) (hsl : Sl enc k w (a.eval x) ys) (hne : 0 < ys.length)
    (h63 : ys.length ≤ maxLen) (hbytes : ys.length * bytes ≤ 140737488355328)
    (h : ∀ v' w', w'.ownsRow w.heap.size e k v' ys.length (ys.flatMap enc) → Below w.heap.size w w' → K (a.put o.dst v') w') : o.wp P a w K Q := by
  obtain ⟨v', w', hr, h2, h3⟩ := run_lit_new (P := P) w base t o.type e z k bytes ht hi hzs hsz _ hs enc hk h1 _ ys hsl hne h63 hbytes
  unfold Oper.wp execOp
  simp only [ho, resolve, invoke, builtin, Sem.run_bind, Sem.run_pure, Result.andThen_ok, List.map_toArray, List.map_cons, List.map_nil, hr]
  exact h _ _ h2 h3
theorem wp_own_app {P : Program} {α : Type} {o : Oper} {a : Act} {K : Act → World → Prop} {Q : Exit → Act → World → Prop} (w : World) (s x : Operand) (t : TypeId)
    (ho : o.op = .call { callee := .builtin .append, args := #[s, x], argTypes := #[t, t] })
    (base : Nat) (e : TypeId) (z : Value) (k bytes : Nat) (ht : P.underlying t = some (.slice e)) (hi : InfoIs P e z k bytes) (hzs : z.cells.size = k) (hsz : 0 < k)
    (enc : α → List Value) (hk : ∀ x, (enc x).length = k) (h1 : ∀ x, ∀ u ∈ enc x, u.oneCell' = true)
    (v : Value) (n : Nat) (xs : List Value) (hs : a.eval s = v) (hown : w.ownsRow base e k v n xs)
    (vx : Value) (ys : List α) (hx : a.eval x = vx) (hsl : Sl enc k w vx ys)
    (h63 : n + ys.length ≤ maxLen) (hbytes : (n + ys.length) * bytes ≤ 140737488355328) (hbase : base ≤ w.heap.size)
    (h : ∀ v' w', w'.ownsRow base e k v' (n + ys.length) (xs ++ ys.flatMap enc) → w.grownBy w' v.ownBlock → K (a.put o.dst v') w') : o.wp P a w K Q := by
  obtain ⟨v', w', hr, h2, h3⟩ := run_own_app (P := P) w base t o.type e z k bytes ht hi hzs hsz v n xs hown enc hk h1 vx ys hsl h63 hbytes hbase
  unfold Oper.wp execOp
  simp only [ho, resolve, invoke, builtin, Sem.run_bind, Sem.run_pure, Result.andThen_ok, List.map_toArray, List.map_cons, List.map_nil, hs, hx, hr]
  exact h _ _ h2 h3
theorem own_blk {w : World} {base : Nat} {e : TypeId} {k : Nat} {v : Value} {n : Nat} {xs : List Value} (h : w.ownsRow base e k v n xs) : ∀ g, v.ownBlock = some g → base ≤ g ∧ g < w.heap.size := by
  intro g hg
  rcases h.2 with ⟨rfl, _⟩ | ⟨g', cap, cur, rfl, hb', hh, _⟩
  · simp [Value.ownBlock] at hg
  · simp [Value.ownBlock] at hg
    subst hg
    exact ⟨hb', (Array.getElem?_eq_some_iff.1 hh).1⟩
theorem sl_block {enc : α → List Value} {k : Nat} (hk : ∀ x, (enc x).length = k) {w : World} {B : Nat} {x : α} {cs : Array Value} {T : TypeId} {fr : Nat × Nat} (h : w.heap[B]? = some (.cells cs T fr)) (hc : cs.toList = enc x) : Sl enc k w (.slice (some ⟨B, 0, none⟩) 1 1) [x] := by
  refine ⟨_, _, rfl, Nat.le_refl _, by decide, fun i y hy => ?_⟩
  have hi : i = 0 := by
    have := (List.getElem?_eq_some_iff.1 hy).1
    simp at this
    exact this
  subst hi
  obtain rfl : x = y := by simpa using hy
  refine ⟨B, 0, rfl, (Array.getElem?_eq_some_iff.1 h).1, fun j v hv => ?_⟩
  rw [show 0 + 0 * k + j = j by omega, cell_of_row w B j cs T fr h, ← Array.getElem?_toList, hc]
  exact hv
theorem box3 (w : World) (a b c : Obj) : (((w.alloc a).alloc b).alloc c).heap[w.heap.size + 1 + 1]? = some c := by
  have h := heap_alloc_new ((w.alloc a).alloc b) c
  simpa using h
theorem box3a (w : World) (a b c : Obj) : (((w.alloc a).alloc b).alloc c).heap[w.heap.size]? = some a := by
  rw [heap_alloc_old _ _ (by simp; omega), heap_alloc_old _ _ (by simp), heap_alloc_new]
theorem box3b (w : World) (a b c : Obj) : (((w.alloc a).alloc b).alloc c).heap[w.heap.size + 1]? = some b := by
  rw [heap_alloc_old _ _ (by simp)]
  have h := heap_alloc_new (w.alloc a) b
  simpa using h
theorem box2 (w : World) (a b : Obj) : ((w.alloc a).alloc b).heap[w.heap.size + 1]? = some b := by
  have h := heap_alloc_new (w.alloc a) b
  simpa using h
/-- A store elsewhere leaves a slice's list. -/
theorem Sl.set {enc : α → List Value} {k : Nat} {w : World} {A : Option Addr} {n c : Nat} {xs : List α} (h : Sl enc k w (.slice A n c) xs) {q : Addr} {u : Value} (ha : ∀ g, (Value.slice A n c).ownBlock = some g → q.block < g) : Sl enc k (w.setCell q u) (.slice A n c) xs := by
  obtain ⟨A', c', e, h1, h2, h3⟩ := h
  refine ⟨A', c', e, h1, h2, fun i x hx => ?_⟩
  obtain ⟨b, off, rfl, hb, hc⟩ := h3 i x hx
  refine ⟨b, off, rfl, by simpa using hb, fun j v hv => ?_⟩
  rw [World.cell?_setCell_other]
  · exact hc j v hv
  · rintro rfl
    injection e with e1 e2 e3
    subst e1
    have := ha b (by simp [Value.ownBlock])
    simp at this
end
end Go.Proofs.YtbnelgniekcjdaaGreatDoor
