/- Rows made of an empty literal: 'append([]T{}, xs...)', wherever it stands. Over any program. -/
import Derived.Test.YtbnelgniekcjdaaGreatDoorCRegT
import Derived.Test.YtbnelgniekcjdaaGreatDoorCFBase
import Derived.Deep.MidRow
import Derived.Test.YtbnelgniekcjdaaGreatDoorCEStops
import Derived.Test.YtbnelgniekcjdaaGreatDoorCEPLaw2
import Derived.Test.YtbnelgniekcjdaaGreatDoorCRdK
import Derived.Test.YtbnelgniekcjdaaGreatDoorCE06A
set_option linter.unusedSimpArgs false
set_option linter.unusedVariables false
namespace Go.Proofs.YtbnelgniekcjdaaGreatDoor
open Go.RowKit Cap
set_option maxRecDepth 100000

/-- An empty literal, wherever it lies. -/
def LitAt (base : Nat) (T : TypeId) (w : World) (v : Value) : Prop := ∃ B, v = .slice (some ⟨B, 0, none⟩) 0 0 ∧ base ≤ B ∧ w.heap[B]? = some (.cells #[] T (0, 0))
theorem LitAt.below {base : Nat} {T : TypeId} {w w' : World} {v : Value} (h : LitAt base T w v) (hb : Below w.heap.size w w') : LitAt base T w' v := by
  obtain ⟨B, rfl, h1, h2⟩ := h
  have hlt : B < w.heap.size := (Array.getElem?_eq_some_iff.1 h2).1
  exact ⟨B, rfl, h1, (hb.block B hlt).trans h2⟩
section
variable {P : Program} {α : Type}
/-- 'append([]T{}, src...)': a row of the call's own; nothing that was there turns. -/
theorem run_lit_app (w : World) (base : Nat) (t ty e : TypeId) (z : Value) (k bytes : Nat) (ht : P.underlying t = some (.slice e)) (hi : InfoIs P e z k bytes) (hzs : z.cells.size = k) (hsz : 0 < k)
    (v : Value) (hv : LitAt base e w v) (enc : α → List Value) (hk : ∀ x, (enc x).length = k) (h1 : ∀ x, ∀ u ∈ enc x, u.oneCell' = true) (x : Value) (ys : List α) (hs : Sl enc k w x ys)
    (h63 : ys.length ≤ maxLen) (hbytes : ys.length * bytes ≤ 140737488355328) :
    ∃ v' w', (Builtin.append_ #[t, t] ty #[v, x]).run P w = .ok v' w' ∧ w'.ownsRow base e k v' ys.length (ys.flatMap enc) ∧ Below w.heap.size w w' := by
  obtain ⟨B, rfl, hB, hcell⟩ := hv
  have hlt : B < w.heap.size := (Array.getElem?_eq_some_iff.1 hcell).1
  have hown : w.ownsRow base e k (.slice (some ⟨B, 0, none⟩) 0 0) 0 [] := ⟨by simp, .inr ⟨B, 0, #[], rfl, hB, hcell, Nat.le_refl _, by decide, by simp, by simp⟩⟩
  obtain ⟨v', w', hr, ho, hg⟩ := run_own_app (P := P) w base t ty e z k bytes ht hi hzs hsz _ 0 [] hown enc hk h1 x ys hs (by simpa using h63) (by simpa using hbytes) (by omega)
  refine ⟨v', w', hr, by simpa using ho, ?_⟩
  obtain ⟨i, hi1, hi2, hi3, hi4⟩ := hi.parts
  have hlen := flatMap_len hk ys
  have hs' := hs
  obtain ⟨A, c, rfl, h2, h3, _⟩ := hs
  rcases Nat.eq_zero_or_pos ys.length with h0 | h0
  · obtain rfl : ys = [] := List.eq_nil_of_length_eq_zero h0
    have hsrc : Src P i.size t (.slice A 0 c) 0 [] w := by
      cases A with
      | none => exact Src.ofNil w ht c
      | some a => exact Src.ofSlice w ht a 0 c [] (by simp) (by simp) (by simp)
    have hr' := run_append_nothing (P := P) w t t ty e i ht hi1 (some ⟨B, 0, none⟩) 0 0 (Nat.le_refl _) _ hsrc
    have hr2 := hr.symm.trans hr'
    injection hr2 with _ hw
    subst hw
    exact Below.refl _ _
  · obtain ⟨a, rfl, hcs⟩ := Sl.src hk hs' h0
    have hsrc : Src P i.size t (.slice (some a) ys.length c) ys.length (ys.flatMap enc) w := Src.ofSlice w ht a _ c _ (by rw [hlen, hi3]) hcs (fun u hu => by
      obtain ⟨y, _, hy⟩ := List.mem_flatMap.1 hu
      exact h1 y u hy)
    have hr' := run_append_grow_src (P := P) w t t ty e i z ht hi1 hi2 (some ⟨B, 0, none⟩) 0 0 [] (run_firstCells_some w.drew i.size 0 ⟨B, 0, none⟩ 0 0 [] (by simp) (by simp)) _ _ _ hsrc (by omega) (by unfold maxLen at h63; omega) (growslice_fits (by omega) (by rw [hi4]; simpa using hbytes))
    have hr2 := hr.symm.trans hr'
    injection hr2 with _ hw
    subst hw
    exact below_alloc (below_drew (Below.refl _ _))
/-- .. at the operation. -/
theorem wp_lit_app {o : Oper} {a : Act} {K : Act → World → Prop} {Q : Exit → Act → World → Prop} (w : World) (s x : Operand) (t : TypeId)
    (ho : o.op = .call { callee := .builtin .append, args := #[s, x], argTypes := #[t, t] })
    (base : Nat) (e : TypeId) (z : Value) (k bytes : Nat) (ht : P.underlying t = some (.slice e)) (hi : InfoIs P e z k bytes) (hzs : z.cells.size = k) (hsz : 0 < k)
    (enc : α → List Value) (hk : ∀ x, (enc x).length = k) (h1 : ∀ x, ∀ u ∈ enc x, u.oneCell' = true)
    (hs : LitAt base e w (a.eval s)) (ys : List α) (hsl : Sl enc k w (a.eval x) ys)
    (h63 : ys.length ≤ maxLen) (hbytes : ys.length * bytes ≤ 140737488355328)
    (h : ∀ v' w', w'.ownsRow base e k v' ys.length (ys.flatMap enc) → Below w.heap.size w w' → K (a.put o.dst v') w') : o.wp P a w K Q := by
  obtain ⟨v', w', hr, h2, h3⟩ := run_lit_app (P := P) w base t o.type e z k bytes ht hi hzs hsz _ hs enc hk h1 _ ys hsl h63 hbytes
  unfold Oper.wp execOp
  simp only [ho, resolve, invoke, builtin, Sem.run_bind, Sem.run_pure, Result.andThen_ok, List.map_toArray, List.map_cons, List.map_nil, hr]
  exact h _ _ h2 h3

/-- .. of elements that are there: in a new block. -/
theorem run_lit_new (w : World) (base : Nat) (t ty e : TypeId) (z : Value) (k bytes : Nat) (ht : P.underlying t = some (.slice e)) (hi : InfoIs P e z k bytes) (hzs : z.cells.size = k) (hsz : 0 < k)
    (v : Value) (hv : LitAt base e w v) (enc : α → List Value) (hk : ∀ x, (enc x).length = k) (h1 : ∀ x, ∀ u ∈ enc x, u.oneCell' = true) (x : Value) (ys : List α) (hs : Sl enc k w x ys) (hne : 0 < ys.length)
    (h63 : ys.length ≤ maxLen) (hbytes : ys.length * bytes ≤ 140737488355328) :
    ∃ v' w', (Builtin.append_ #[t, t] ty #[v, x]).run P w = .ok v' w' ∧ w'.ownsRow w.heap.size e k v' ys.length (ys.flatMap enc) ∧ Below w.heap.size w w' := by
  obtain ⟨v', w', hr, ho, hb⟩ := run_lit_app (P := P) w base t ty e z k bytes ht hi hzs hsz v hv enc hk h1 x ys hs h63 hbytes
  refine ⟨v', w', hr, ⟨ho.1, ?_⟩, hb⟩
  obtain ⟨B, rfl, hB, hcell⟩ := hv
  have hlt : B < w.heap.size := (Array.getElem?_eq_some_iff.1 hcell).1
  rcases ho.2 with h | ⟨g, cap, cur, rfl, hbg, hg, hc, hm, hsx, htx⟩
  · exact .inl h
  · refine .inr ⟨g, cap, cur, rfl, ?_, hg, hc, hm, hsx, htx⟩
    obtain ⟨i, hi1, hi2, hi3, hi4⟩ := hi.parts
    have hlen := flatMap_len hk ys
    obtain ⟨A, c, rfl, h2, h3, _⟩ := (id hs)
    obtain ⟨a, rfl, hcs⟩ := Sl.src hk hs hne
    have hsrc : Src P i.size t (.slice (some a) ys.length c) ys.length (ys.flatMap enc) w := Src.ofSlice w ht a _ c _ (by rw [hlen, hi3]) hcs (fun u hu => by
      obtain ⟨y, _, hy⟩ := List.mem_flatMap.1 hu
      exact h1 y u hy)
    have hr' := run_append_grow_src (P := P) w t t ty e i z ht hi1 hi2 (some ⟨B, 0, none⟩) 0 0 [] (run_firstCells_some w.drew i.size 0 ⟨B, 0, none⟩ 0 0 [] (by simp) (by simp)) _ _ _ hsrc (by omega) (by unfold maxLen at h63; omega) (growslice_fits (by omega) (by rw [hi4]; simpa using hbytes))
    have hr2 := hr.symm.trans hr'
    injection hr2 with hv _
    injection hv with hv
    injection hv with hv
    injection hv with hv
    rw [hv]
    exact Nat.le_refl _
theorem wp_lit_new {o : Oper} {a : Act} {K : Act → World → Prop} {Q : Exit → Act → World → Prop} (w : World) (s x : Operand) (t : TypeId)
    (ho : o.op = .call { callee := .builtin .append, args := #[s, x], argTypes := #[t, t] })
    (base : Nat) (e : TypeId) (z : Value) (k bytes : Nat) (ht : P.underlying t = some (.slice e)) (hi : InfoIs P e z k bytes) (hzs : z.cells.size = k) (hsz : 0 < k)
    (enc : α → List Value) (hk : ∀ x, (enc x).length = k) (h1 : ∀ x, ∀ u ∈ enc x, u.oneCell' = true)
    (hs : LitAt base e w (a.eval s)) (ys : List α) (hsl : Sl enc k w (a.eval x) ys) (hne : 0 < ys.length)
    (h63 : ys.length ≤ maxLen) (hbytes : ys.length * bytes ≤ 140737488355328)
    (h : ∀ v' w', w'.ownsRow w.heap.size e k v' ys.length (ys.flatMap enc) → Below w.heap.size w w' → K (a.put o.dst v') w') : o.wp P a w K Q := by
  obtain ⟨v', w', hr, h2, h3⟩ := run_lit_new (P := P) w base t o.type e z k bytes ht hi hzs hsz _ hs enc hk h1 _ ys hsl hne h63 hbytes
  unfold Oper.wp execOp
  simp only [ho, resolve, invoke, builtin, Sem.run_bind, Sem.run_pure, Result.andThen_ok, List.map_toArray, List.map_cons, List.map_nil, hr]
  exact h _ _ h2 h3
theorem wp_own_app {P : Program} {α : Type} {o : Oper} {a : Act} {K : Act → World → Prop} {Q : Exit → Act → World → Prop} (w : World) (s x : Operand) (t : TypeId)
    (ho : o.op = .call { callee := .builtin .append, args := #[s, x], argTypes := #[t, t] })
    (base : Nat) (e : TypeId) (z : Value) (k bytes : Nat) (ht : P.underlying t = some (.slice e)) (hi : InfoIs P e z k bytes) (hzs : z.cells.size = k) (hsz : 0 < k)
    (enc : α → List Value) (hk : ∀ x, (enc x).length = k) (h1 : ∀ x, ∀ u ∈ enc x, u.oneCell' = true)
    (v : Value) (n : Nat) (xs : List Value) (hs : a.eval s = v) (hown : w.ownsRow base e k v n xs)
    (vx : Value) (ys : List α) (hx : a.eval x = vx) (hsl : Sl enc k w vx ys)
    (h63 : n + ys.length ≤ maxLen) (hbytes : (n + ys.length) * bytes ≤ 140737488355328) (hbase : base ≤ w.heap.size)
    (h : ∀ v' w', w'.ownsRow base e k v' (n + ys.length) (xs ++ ys.flatMap enc) → w.grownBy w' v.ownBlock → K (a.put o.dst v') w') : o.wp P a w K Q := by
  obtain ⟨v', w', hr, h2, h3⟩ := run_own_app (P := P) w base t o.type e z k bytes ht hi hzs hsz v n xs hown enc hk h1 vx ys hsl h63 hbytes hbase
  unfold Oper.wp execOp
  simp only [ho, resolve, invoke, builtin, Sem.run_bind, Sem.run_pure, Result.andThen_ok, List.map_toArray, List.map_cons, List.map_nil, hs, hx, hr]
  exact h _ _ h2 h3
theorem own_blk {w : World} {base : Nat} {e : TypeId} {k : Nat} {v : Value} {n : Nat} {xs : List Value} (h : w.ownsRow base e k v n xs) : ∀ g, v.ownBlock = some g → base ≤ g ∧ g < w.heap.size := by
  intro g hg
  rcases h.2 with ⟨rfl, _⟩ | ⟨g', cap, cur, rfl, hb', hh, _⟩
  · simp [Value.ownBlock] at hg
  · simp [Value.ownBlock] at hg
    subst hg
    exact ⟨hb', (Array.getElem?_eq_some_iff.1 hh).1⟩
theorem sl_block {enc : α → List Value} {k : Nat} (hk : ∀ x, (enc x).length = k) {w : World} {B : Nat} {x : α} {cs : Array Value} {T : TypeId} {fr : Nat × Nat} (h : w.heap[B]? = some (.cells cs T fr)) (hc : cs.toList = enc x) : Sl enc k w (.slice (some ⟨B, 0, none⟩) 1 1) [x] := by
  refine ⟨_, _, rfl, Nat.le_refl _, by decide, fun i y hy => ?_⟩
  have hi : i = 0 := by
    have := (List.getElem?_eq_some_iff.1 hy).1
    simp at this
    exact this
  subst hi
  obtain rfl : x = y := by simpa using hy
  refine ⟨B, 0, rfl, (Array.getElem?_eq_some_iff.1 h).1, fun j v hv => ?_⟩
  rw [show 0 + 0 * k + j = j by omega, cell_of_row w B j cs T fr h, ← Array.getElem?_toList, hc]
  exact hv
theorem box3 (w : World) (a b c : Obj) : (((w.alloc a).alloc b).alloc c).heap[w.heap.size + 1 + 1]? = some c := by
  have h := heap_alloc_new ((w.alloc a).alloc b) c
  simpa using h
theorem box3a (w : World) (a b c : Obj) : (((w.alloc a).alloc b).alloc c).heap[w.heap.size]? = some a := by
  rw [heap_alloc_old _ _ (by simp; omega), heap_alloc_old _ _ (by simp), heap_alloc_new]
theorem box3b (w : World) (a b c : Obj) : (((w.alloc a).alloc b).alloc c).heap[w.heap.size + 1]? = some b := by
  rw [heap_alloc_old _ _ (by simp)]
  have h := heap_alloc_new (w.alloc a) b
  simpa using h
theorem box2 (w : World) (a b : Obj) : ((w.alloc a).alloc b).heap[w.heap.size + 1]? = some b := by
  have h := heap_alloc_new (w.alloc a) b
  simpa using h
/-- A store elsewhere leaves a slice's list. -/
theorem Sl.set {enc : α → List Value} {k : Nat} {w : World} {A : Option Addr} {n c : Nat} {xs : List α} (h : Sl enc k w (.slice A n c) xs) {q : Addr} {u : Value} (ha : ∀ g, (Value.slice A n c).ownBlock = some g → q.block < g) : Sl enc k (w.setCell q u) (.slice A n c) xs := by
  obtain ⟨A', c', e, h1, h2, h3⟩ := h
  refine ⟨A', c', e, h1, h2, fun i x hx => ?_⟩
  obtain ⟨b, off, rfl, hb, hc⟩ := h3 i x hx
  refine ⟨b, off, rfl, by simpa using hb, fun j v hv => ?_⟩
  rw [World.cell?_setCell_other]
  · exact hc j v hv
  · rintro rfl
    injection e with e1 e2 e3
    subst e1
    have := ha b (by simp [Value.ownBlock])
    simp at this
end
end Go.Proofs.YtbnelgniekcjdaaGreatDoor

/- A region that draws its order, whose operations' facts are told one by one: which of them each operation uses, and which stay for good; each other is kept until its one user has been. Over any program. -/
namespace Go.Proofs.YtbnelgniekcjdaaGreatDoor
open Go.RowKit
section
variable {P : Program} {Q : Exit → Act → World → Prop}
/-- Must a fact outlive an operation? -/
def keepP (pers : List Nat) (U : List (List Nat)) (ops : List Oper) (i j : Nat) : Bool :=
  (i != j) && (!(needsL ops ops.length j).contains i) && (pers.contains j || ((!(U.getD i []).contains j) && (needsL ops ops.length i).all fun k => !(U.getD k []).contains j))
/-- Are all binding edges backward, no operation guarded, and does the last wait for all? -/
def distP (l : List Oper) (z : Oper) : Bool :=
  ((List.range (l.length + 1)).all fun i => match (l ++ [z])[i]? with | none => true | some o => o.guard.isNone && o.after.toList.all fun e => !Region.binds .any e || decide (e.on < i)) &&
    (List.range l.length).all fun i => z.after.toList.any fun e => Region.binds .any e && e.on == i
/-- Is what stands so, is what is used waited for, and does each fact that does not stay serve one at most? -/
def perB (l : List Oper) (z : Oper) (pers : List Nat) (U : List (List Nat)) : Bool :=
  distP l z && (U.length == l.length) && ((List.range l.length).all fun i => match l[i]? with | none => true | some o => (U.getD i []).all fun j => (depsL o).contains j) &&
    (List.range l.length).all fun i => (List.range l.length).all fun i' => i == i' || (U.getD i []).all fun j => pers.contains j || !(U.getD i' []).contains j
def UseD (D : Nat → Act → World → Prop) (a : Act) (w : World) : List Nat → Prop
  | [] => True
  | j :: r => D j a w ∧ UseD D a w r
theorem useD_of {D : Nat → Act → World → Prop} {a : Act} {w : World} : ∀ {l : List Nat}, (∀ j ∈ l, D j a w) → UseD D a w l
  | [], _ => trivial
  | j :: _, h => ⟨h j (List.mem_cons_self ..), useD_of fun i hi => h i (List.mem_cons_of_mem _ hi)⟩
theorem wpAny_per (l : List Oper) (z : Oper) (J : Act → World → Prop) (D : Nat → Act → World → Prop) (pers : List Nat) (U : List (List Nat))
    (hac : ∀ (i : Nat) (o : Oper), (l ++ [z])[i]? = some o → o.guard = none ∧ ∀ e ∈ o.after, Region.binds .any e = true → e.on < i)
    (hall : ∀ i, i < l.length → i ∈ depsL z)
    (husz : U.length = l.length) (huse : ∀ (i : Nat) (o : Oper), l[i]? = some o → ∀ j ∈ U.getD i [], j ∈ depsL o)
    (hone : ∀ (i i' j : Nat), i < l.length → i' < l.length → j ∈ U.getD i [] → j ∈ U.getD i' [] → pers.contains j = false → i = i')
    (hstep : ∀ (i : Nat) (o : Oper), l[i]? = some o → ∀ a w, J a w → (∀ j ∈ U.getD i [], D j a w) → ∀ K' : Act → World → Prop,
      (∀ v w', J (a.put o.dst v) w' → D i (a.put o.dst v) w' → (∀ j, j < l.length → keepP pers U l i j = true → D j a w → D j (a.put o.dst v) w') → K' (a.put o.dst v) w') → o.wp P a w K' Q)
    (hlast : ∀ a w, J a w → (∀ j, j < l.length → pers.contains j = true → D j a w) → ∀ K' : Act → World → Prop, (∀ a w', Q .normal a w' → K' a w') → z.wp P a w K' Q) :
    ∀ (fuel : Nat) (listed : Array Bool) (a : Act) (w : World), listed.size = l.length + 1 → listed.getD l.length true = false → unl (l.length + 1) listed ≤ fuel → J a w →
      (∀ i o, l[i]? = some o → listed.getD i true = true → ∀ k ∈ depsL o, listed.getD k true = true) →
      (∀ i, i < l.length → listed.getD i true = true → (pers.contains i = true ∨ ∀ k, k < l.length → listed.getD k true = true → ¬ i ∈ U.getD k []) → D i a w) → wpAny P .any (l ++ [z]).toArray Q fuel listed a w := by
  have hsz : (l ++ [z]).toArray.size = l.length + 1 := by simp
  have hopl : ∀ i, i < l.length → ∃ o, l[i]? = some o := fun i hi => ⟨l[i], List.getElem?_eq_getElem hi⟩
  have hread : ∀ (listed : Array Bool), listed.size = l.length + 1 → ∀ (i : Nat) (o : Oper), (l ++ [z])[i]? = some o → i < l.length + 1 → listed.getD i true = false → (∀ k ∈ depsL o, listed.getD k true = true) → i ∈ Region.ready .any (l ++ [z]).toArray listed := by
    intro listed hs i o ho hi hl hd
    refine mem_ready.2 ⟨hl, o, by simpa using ho, fun e he hb => ?_⟩
    have h1 := hd e.on (mem_deps.2 ⟨e, he, hb, rfl⟩)
    have h2 := (hac i o ho).2 e he hb
    rw [Array.getD_eq_getD_getElem?] at h1 ⊢
    rw [Array.getElem?_eq_getElem (by omega)] at h1 ⊢
    exact h1
  have hne : ∀ listed : Array Bool, listed.size = l.length + 1 → listed.getD l.length true = false → Region.ready .any (l ++ [z]).toArray listed ≠ [] := by
    intro listed hs hl h0
    have : ∀ k i, i < k → i ≤ l.length → listed.getD i true = true := by
      intro k
      induction k with
      | zero => intro i h; omega
      | succ k ih =>
        intro i hk him
        by_cases hik : i < k
        · exact ih i hik him
        · cases hb : listed.getD i true with
          | true => rfl
          | false =>
            exfalso
            obtain ⟨o, ho⟩ : ∃ o, (l ++ [z])[i]? = some o := ⟨(l ++ [z])[i]'(by simp; omega), List.getElem?_eq_getElem _⟩
            have hmem := hread listed hs i o ho (by omega) hb (fun k hk => by
              obtain ⟨e, he, hb, rfl⟩ := mem_deps.1 hk
              have := (hac i o ho).2 e he hb
              exact ih _ (by omega) (by omega))
            rw [h0] at hmem
            cases hmem
    rw [this (l.length + 1) l.length (by omega) (Nat.le_refl _)] at hl
    cases hl
  intro fuel
  induction fuel with
  | zero =>
    intro listed a w hs hl hu _ _ _
    exfalso
    have := unl_set (l := listed) hs (show l.length < l.length + 1 by omega) hl
    omega
  | succ fuel ih =>
    intro listed a w hs hl hu hJ hC hD
    refine ⟨fun h0 => absurd h0 (hne listed hs hl), fun i hi => ?_⟩
    obtain ⟨hli, o, ho, hed⟩ := mem_ready.1 hi
    have hio : i < (l ++ [z]).toArray.size := (Array.getElem?_eq_some_iff.1 ho).1
    rw [hsz] at hio
    have ho' : (l ++ [z])[i]? = some o := by simpa using ho
    unfold wpOp
    rw [ho]
    simp only []
    have hw : Region.wanted o (yielded (l ++ [z]).toArray a.tmps) = true := by unfold Region.wanted; rw [(hac i o ho').1]
    rw [if_pos hw]
    left
    have hlt : ∀ j ∈ depsL o, listed.getD j true = true := by
      intro j hj
      obtain ⟨e, he, hb, rfl⟩ := mem_deps.1 hj
      have h1 := hed e he hb
      have h2 := (hac i o ho').2 e he hb
      rw [Array.getD_eq_getD_getElem?] at h1 ⊢
      rw [Array.getElem?_eq_getElem (by omega)] at h1 ⊢
      exact h1
    by_cases him : i = l.length
    · subst him
      obtain rfl : z = o := by simpa using ho'
      refine hlast a w hJ (fun j hj hp => hD j hj (hlt j (hall j hj)) (.inl hp)) _ (fun a' w' hq => ?_)
      · refine wpAny_done ?_ hq fuel
        have : ∀ j, j ∉ Region.ready .any (l ++ [z]).toArray (listed.setIfInBounds l.length true) := by
          intro j hj
          obtain ⟨h1, o', ho', _⟩ := mem_ready.1 hj
          have hjo : j < (l ++ [z]).toArray.size := (Array.getElem?_eq_some_iff.1 ho').1
          rw [hsz] at hjo
          by_cases hji : l.length = j
          · subst hji
            rw [getD_set_self (by omega)] at h1
            cases h1
          · rw [getD_set_other hji] at h1
            have := hlt j (hall j (by omega))
            rw [h1] at this
            cases this
        exact List.eq_nil_iff_forall_not_mem.2 this
    · have hil : i < l.length := by omega
      have hol : l[i]? = some o := by rw [List.getElem?_append_left hil] at ho'; exact ho'
      refine hstep i o hol a w hJ (fun j hj => ?_) _ (fun v w' hJ' hDi hkeep => ?_)
      · have hjd := huse i o hol j hj
        have hjl : j < l.length := by
          obtain ⟨e, he, hb, rfl⟩ := mem_deps.1 hjd
          have := (hac i o ho').2 e he hb
          omega
        cases hp : pers.contains j with
        | true => exact hD j hjl (hlt j hjd) (.inl hp)
        | false =>
          refine hD j hjl (hlt j hjd) (.inr fun k hk hkl hb => ?_)
          obtain rfl := hone i k j hil hk hj hb hp
          rw [hli] at hkl
          cases hkl
      · refine ih _ _ _ (by simpa using hs) (by rw [getD_set_other him]; exact hl) ?_ hJ' (fun k o' hk hkl q hq => ?_) (fun j hj hlj hno => ?_)
        · have := unl_set (l := listed) hs (show i < l.length + 1 by omega) hli
          omega
        · by_cases hiq : i = q
          · subst hiq
            exact getD_set_self (by omega)
          · rw [getD_set_other hiq]
            by_cases hki : i = k
            · subst hki
              obtain rfl : o = o' := Option.some.inj (hol.symm.trans hk)
              exact hlt q hq
            · rw [getD_set_other hki] at hkl
              exact hC k o' hk hkl q hq
        · by_cases hji : i = j
          · subst hji; exact hDi
          · rw [getD_set_other hji] at hlj
            have hno' : pers.contains j = true ∨ ∀ k, k < l.length → listed.getD k true = true → ¬ j ∈ U.getD k [] := hno.imp id fun h k hk hkl => by
              refine h k hk ?_
              by_cases hki : i = k
              · subst hki
                exact getD_set_self (by omega)
              · rw [getD_set_other hki]; exact hkl
            refine hkeep j hj ?_ (hD j hj hlj hno')
            unfold keepP
            rw [Bool.and_eq_true, Bool.and_eq_true]
            refine ⟨⟨by simpa using hji, ?_⟩, ?_⟩
            · have hnj : ¬ i ∈ needsL l l.length j := fun hm => by
                have := needs_listed (L := fun k => listed.getD k true = true) (fun i o hL ho k hk => hC i o ho hL k hk) l.length j (fun o' ho' k hk => hC j o' ho' hlj k hk) i hm
                rw [hli] at this
                cases this
              simpa using hnj
            · rw [Bool.or_eq_true]
              rcases hno with hp | hno
              · exact .inl hp
              right
              rw [Bool.and_eq_true]
              constructor
              · have := hno i hil (getD_set_self (by omega))
                simpa using this
              · rw [List.all_eq_true]
                intro k hk
                have hkL := needs_listed (L := fun k => listed.getD k true = true) (fun i o hL ho k hk => hC i o ho hL k hk) l.length i (fun o' ho' k hk => by
                  obtain rfl : o = o' := Option.some.inj (hol.symm.trans ho')
                  exact hlt k hk) k hk
                by_cases hkl : k < l.length
                · have := hno k hkl (by
                    by_cases hki : i = k
                    · subst hki
                      exact getD_set_self (by omega)
                    · rw [getD_set_other hki]; exact hkL)
                  simpa using this
                · rw [List.getD_eq_getElem?_getD, List.getElem?_eq_none (by omega)]
                  rfl
/-- Each operation of a list leaves its own fact, and keeps those that are still wanted. -/
def StepsP (P : Program) (Q : Exit → Act → World → Prop) (J : Act → World → Prop) (D : Nat → Act → World → Prop) (pers : List Nat) (U : List (List Nat)) (ops : List Oper) : Nat → List Oper → Prop
  | _, [] => True
  | i, o :: r => (∀ a w, J a w → UseD D a w (U.getD i []) → ∀ K' : Act → World → Prop,
      (∀ v w', J (a.put o.dst v) w' → D i (a.put o.dst v) w' → (∀ j, j < ops.length → keepP pers U ops i j = true → D j a w → D j (a.put o.dst v) w') → K' (a.put o.dst v) w') → o.wp P a w K' Q) ∧ StepsP P Q J D pers U ops (i + 1) r
theorem stepsP_at {J : Act → World → Prop} {D : Nat → Act → World → Prop} {pers : List Nat} {U : List (List Nat)} {ops : List Oper} : ∀ {l : List Oper} {k : Nat}, StepsP P Q J D pers U ops k l → ∀ (i : Nat) (o : Oper), l[i]? = some o → ∀ a w, J a w → UseD D a w (U.getD (k + i) []) → ∀ K' : Act → World → Prop,
      (∀ v w', J (a.put o.dst v) w' → D (k + i) (a.put o.dst v) w' → (∀ j, j < ops.length → keepP pers U ops (k + i) j = true → D j a w → D j (a.put o.dst v) w') → K' (a.put o.dst v) w') → o.wp P a w K' Q
  | [], _, _, _, _, ho => by simp at ho
  | x :: r, k, h, 0, o, ho => by
    obtain rfl : x = o := by simpa using ho
    exact h.1
  | x :: r, k, h, i + 1, o, ho => by
    have := stepsP_at h.2 i o (by simpa using ho)
    rw [show k + 1 + i = k + (i + 1) from by omega] at this
    exact this
/-- The whole region, its operations in a list, the last apart: U says whose facts an operation uses, pers which facts stay for good. -/
theorem wp_region_per {id : Nat} (hmx : P.follows .mixedOrders = true) {ops : List Oper} (l : List Oper) (z : Oper) (hl : ops = l ++ [z]) (pers : List Nat) (U : List (List Nat)) (hB : perB l z pers U = true) (J : Act → World → Prop) (D : Nat → Act → World → Prop) (a : Act) (w : World) (hJ : J a w.drew)
    (hsteps : StepsP P Q J D pers U l 0 l)
    (hlast : ∀ a w, J a w → (∀ j, j < l.length → pers.contains j = true → D j a w) → ∀ K' : Act → World → Prop, (∀ a w', Q .normal a w' → K' a w') → z.wp P a w K' Q) : (Code.region id ops.toArray true).wp P Q a w := by
  subst hl
  unfold perB at hB
  rw [Bool.and_eq_true, Bool.and_eq_true, Bool.and_eq_true, beq_iff_eq, List.all_eq_true, List.all_eq_true] at hB
  obtain ⟨⟨⟨hB, hU⟩, hD⟩, hT⟩ := hB
  unfold distP at hB
  rw [Bool.and_eq_true, List.all_eq_true, List.all_eq_true] at hB
  refine wp_region_any hmx ?_
  have hac : ∀ (i : Nat) (o : Oper), (l ++ [z])[i]? = some o → o.guard = none ∧ ∀ e ∈ o.after, Region.binds .any e = true → e.on < i := by
    intro i o ho'
    have hi : i < l.length + 1 := by simpa using (List.getElem?_eq_some_iff.1 ho').1
    have := hB.1 i (List.mem_range.2 hi)
    rw [ho'] at this
    simp only [Bool.and_eq_true, List.all_eq_true, Bool.or_eq_true, Bool.not_eq_true', decide_eq_true_eq, Option.isNone_iff_eq_none] at this
    exact ⟨this.1, fun e he hb => (this.2 e (by simpa using he)).resolve_left (by rw [hb]; decide)⟩
  refine wpAny_per (P := P) (Q := Q) l z J D pers U hac ?_ hU ?_ ?_ ?_ hlast _ _ _ _ (by simp) (by simp) (by rw [show l.length + 1 = (l ++ [z]).toArray.size by simp]; exact unl_none _) hJ ?_ ?_
  · intro i hi
    have := hB.2 i (List.mem_range.2 hi)
    rw [List.any_eq_true] at this
    obtain ⟨e, he, h⟩ := this
    rw [Bool.and_eq_true, beq_iff_eq] at h
    exact mem_deps.2 ⟨e, by simpa using he, h.1, h.2⟩
  · intro i o ho j hj
    have hi := (List.getElem?_eq_some_iff.1 ho).1
    have := hD i (List.mem_range.2 hi)
    rw [ho, List.all_eq_true] at this
    simpa using this j hj
  · intro i i' j hi hi' hj hj' hp
    have h1 := hT i (List.mem_range.2 hi)
    rw [List.all_eq_true] at h1
    have h2 := h1 i' (List.mem_range.2 hi')
    rw [Bool.or_eq_true, beq_iff_eq] at h2
    rcases h2 with h2 | h2
    · exact h2
    · rw [List.all_eq_true] at h2
      have := h2 j hj
      rw [hp] at this
      simp at this
      exact absurd hj' (by simpa using this)
  · intro i o ho a w hJ hD K' hK
    refine stepsP_at hsteps i o ho a w hJ (useD_of ?_) K' ?_
    · simpa using hD
    · simpa using hK
  · intro i o ho hli
    have hi := (List.getElem?_eq_some_iff.1 ho).1
    rw [Array.getD_eq_getD_getElem?] at hli
    simp [show i < l.length + 1 by omega] at hli
  · intro i hi hli
    rw [Array.getD_eq_getD_getElem?] at hli
    simp [show i < l.length + 1 by omega] at hli

/-! ### Facts on slots -/
/-- What stays in a region whose operations fill the slots S. -/
structure PerJ (S : List Nat) (r : Nat) (a0 : Act) (w0 : World) (a : Act) (w : World) : Prop where
  sz : a.tmps.size = a0.tmps.size
  d : a.defers = a0.defers
  old : ∀ t, t ∉ S → a.eval (.tmp t) = a0.eval (.tmp t)
  b : Below w0.heap.size w0 w
  blk : ∀ g, (a.eval (.tmp r)).ownBlock = some g → g < w.heap.size
/-- A fact on an operation's slot, and on the slot of the row that is turned. -/
def PerD (F : Nat → Value → Value → World → Prop) (S : List Nat) (r : Nat) (i : Nat) (a : Act) (w : World) : Prop := F i (a.eval (.tmp (S.getD i 0))) (a.eval (.tmp r)) w
theorem below_le {B B' : Nat} {a b : World} (h : Below B' a b) (hB : B ≤ B') : Below B a b := ⟨h.os, h.tape, h.output, h.size, fun i hi => h.block i (Nat.lt_of_lt_of_le hi hB)⟩
theorem PerJ.put {S : List Nat} {r : Nat} {a0 a : Act} {w0 w w' : World} (h : PerJ S r a0 w0 a w) {s : Nat} (hs : s ∈ S) (v : Value) (hb : Below w0.heap.size w w') (hk : ∀ g, ((a.put (some s) v).eval (.tmp r)).ownBlock = some g → g < w'.heap.size) : PerJ S r a0 w0 (a.put (some s) v) w' :=
  ⟨by rw [Act.size_put]; exact h.sz, by rw [Act.defers_put']; exact h.d, fun t ht => by rw [Act.eval_put_ne _ _ _ _ (fun e => ht (by rw [← e]; exact hs))]; exact h.old t ht, h.b.trans hb, hk⟩
theorem PerJ.other {S : List Nat} {r : Nat} {a0 a : Act} {w0 w w' : World} (h : PerJ S r a0 w0 a w) {s : Nat} (hr : s ≠ r) (v : Value) (hz : w.heap.size ≤ w'.heap.size) : ∀ g, ((a.put (some s) v).eval (.tmp r)).ownBlock = some g → g < w'.heap.size := fun g hg => by
  rw [Act.eval_put_ne _ _ _ _ hr] at hg
  exact Nat.lt_of_lt_of_le (h.blk g hg) hz
theorem getD_ne {S : List Nat} (hnd : S.Nodup) {i j : Nat} (hi : i < S.length) (hj : j < S.length) (h : j ≠ i) : S.getD i 0 ≠ S.getD j 0 := by
  rw [List.getD_eq_getElem?_getD, List.getD_eq_getElem?_getD, List.getElem?_eq_getElem hi, List.getElem?_eq_getElem hj]
  intro e
  exact h ((List.getElem_inj hnd).1 e).symm
theorem getD_mem {S : List Nat} {i : Nat} (hi : i < S.length) : S.getD i 0 ∈ S := by
  rw [List.getD_eq_getElem?_getD, List.getElem?_eq_getElem hi]
  exact List.getElem_mem hi
theorem keepP_ne {pers : List Nat} {U : List (List Nat)} {ops : List Oper} {i j : Nat} (h : keepP pers U ops i j = true) : j ≠ i := by
  rintro rfl
  unfold keepP at h
  simp at h
section
variable {F : Nat → Value → Value → World → Prop} {S : List Nat} {r : Nat} {a0 a : Act} {w0 w : World} {pers : List Nat} {U : List (List Nat)} {ops : List Oper} {K' : Act → World → Prop}
/-- An operation that fills its slot, and turns nothing: every fact stays. -/
theorem per_next (hF : ∀ j v x w w', F j v x w → Below w.heap.size w w' → F j v x w') (hnd : S.Nodup) (hlen : ops.length = S.length) (i s : Nat) (hi : i < S.length) (hs : S.getD i 0 = s) (hr : s ≠ r) (hJ : PerJ S r a0 w0 a w) (hz : s < a0.tmps.size)
    (h : ∀ v w', PerJ S r a0 w0 (a.put (some s) v) w' → PerD F S r i (a.put (some s) v) w' → (∀ j, j < ops.length → keepP pers U ops i j = true → PerD F S r j a w → PerD F S r j (a.put (some s) v) w') → K' (a.put (some s) v) w')
    (v : Value) (w' : World) (hb : Below w.heap.size w w') (hf : F i v (a.eval (.tmp r)) w') : K' (a.put (some s) v) w' := by
  subst hs
  refine h v w' (hJ.put (getD_mem hi) v (below_le hb hJ.b.size) (hJ.other hr v hb.size)) ?_ (fun j hj hk hd => ?_)
  · unfold PerD
    rw [Act.eval_put_same _ _ _ (by rw [hJ.sz]; exact hz), Act.eval_put_ne _ _ _ _ hr]
    exact hf
  · unfold PerD at *
    rw [Act.eval_put_ne _ _ _ _ (getD_ne hnd hi (by omega) (keepP_ne hk)), Act.eval_put_ne _ _ _ _ hr]
    exact hF _ _ _ _ _ hd hb
/-- The row's own operation: it lies in a new block. -/
theorem per_row (hF : ∀ j v x w w', F j v x w → Below w.heap.size w w' → F j v x w') (hX : ∀ j v x x' w, F j v x w → (∀ g, x'.ownBlock = some g → w.heap.size ≤ g) → F j v x' w) (hnd : S.Nodup) (hlen : ops.length = S.length) (i : Nat) (hi : i < S.length) (hs : S.getD i 0 = r) (hJ : PerJ S r a0 w0 a w) (hz : r < a0.tmps.size)
    (h : ∀ v w', PerJ S r a0 w0 (a.put (some r) v) w' → PerD F S r i (a.put (some r) v) w' → (∀ j, j < ops.length → keepP pers U ops i j = true → PerD F S r j a w → PerD F S r j (a.put (some r) v) w') → K' (a.put (some r) v) w')
    (v : Value) (w' : World) (hb : Below w.heap.size w w') (hv : ∀ g, v.ownBlock = some g → w.heap.size ≤ g ∧ g < w'.heap.size) (hf : F i v v w') : K' (a.put (some r) v) w' := by
  have hsame := Act.eval_put_same a r v (by rw [hJ.sz]; exact hz)
  refine h v w' (hJ.put (hs ▸ getD_mem hi) v (below_le hb hJ.b.size) (fun g hg => by rw [hsame] at hg; exact (hv g hg).2)) ?_ (fun j hj hk hd => ?_)
  · unfold PerD
    rw [hs, hsame]
    exact hf
  · unfold PerD at *
    rw [Act.eval_put_ne _ _ _ _ (hs ▸ getD_ne hnd hi (by omega) (keepP_ne hk)), hsame]
    exact hF _ _ _ _ _ (hX _ _ _ _ _ hd fun g hg => (hv g hg).1) hb
/-- The row is turned in place: what is still wanted stays. -/
theorem per_turn (hnd : S.Nodup) (hlen : ops.length = S.length) (i s : Nat) (hi : i < S.length) (hs : S.getD i 0 = s) (hr : s ≠ r) (hJ : PerJ S r a0 w0 a w) (hz : s < a0.tmps.size)
    (h : ∀ v w', PerJ S r a0 w0 (a.put (some s) v) w' → PerD F S r i (a.put (some s) v) w' → (∀ j, j < ops.length → keepP pers U ops i j = true → PerD F S r j a w → PerD F S r j (a.put (some s) v) w') → K' (a.put (some s) v) w')
    (v : Value) (w' : World) (hb : Below w0.heap.size w w') (hsz : w.heap.size ≤ w'.heap.size) (hf : F i v (a.eval (.tmp r)) w') (hk : ∀ j, j < ops.length → keepP pers U ops i j = true → ∀ u, F j u (a.eval (.tmp r)) w → F j u (a.eval (.tmp r)) w') : K' (a.put (some s) v) w' := by
  subst hs
  refine h v w' (hJ.put (getD_mem hi) v hb (hJ.other hr v hsz)) ?_ (fun j hj hq hd => ?_)
  · unfold PerD
    rw [Act.eval_put_same _ _ _ (by rw [hJ.sz]; exact hz), Act.eval_put_ne _ _ _ _ hr]
    exact hf
  · unfold PerD at *
    rw [Act.eval_put_ne _ _ _ _ (getD_ne hnd hi (by omega) (keepP_ne hq)), Act.eval_put_ne _ _ _ _ hr]
    exact hk j hj hq _ hd
end
theorem keepP_only {pers : List Nat} {U : List (List Nat)} {ops : List Oper} {i j : Nat} (L : List Nat) (h : ((List.range ops.length).all fun j => !keepP pers U ops i j || L.contains j) = true) (hj : j < ops.length) (hk : keepP pers U ops i j = true) : j ∈ L := by
  rw [List.all_eq_true] at h
  have := h j (List.mem_range.2 hj)
  rw [hk] at this
  simpa using this
/-- The frame behind: as it was but for the region's own slots. -/
def patch (f : Nat → Value) (l0 : List Value) : List Nat → List Value
  | [] => l0
  | s :: S => (patch f l0 S).set s (f s)
theorem patch_at (f : Nat → Value) (l0 : List Value) : ∀ (S : List Nat) (i : Nat), i < l0.length → (patch f l0 S)[i]? = if i ∈ S then some (f i) else l0[i]?
  | [], i, _ => by simp [patch]
  | s :: S, i, hi => by
    have ih := patch_at f l0 S i hi
    by_cases h : s = i
    · subst h
      have hl : s < (patch f l0 S).length := by
        have h2 : (patch f l0 S)[s]? ≠ none := by
          rw [ih]
          split
          · simp
          · rw [List.getElem?_eq_getElem hi]; simp
        exact Nat.lt_of_not_le fun hle => h2 (List.getElem?_eq_none hle)
      simp [patch, List.getElem?_set_self hl]
    · simp only [patch, List.getElem?_set_ne h, ih, List.mem_cons]
      by_cases hm : i ∈ S
      · simp [hm]
      · simp [hm, Ne.symm h]
theorem patch_len (f : Nat → Value) (l0 : List Value) : ∀ S : List Nat, (patch f l0 S).length = l0.length
  | [] => rfl
  | s :: S => by rw [patch, List.length_set, patch_len f l0 S]
theorem act_per {S : List Nat} {r : Nat} {l0 : List Value} {ds : List Deferred} {w0 : World} {a : Act} {w : World} (hJ : PerJ S r { tmps := l0.toArray, defers := ds } w0 a w) : a = { tmps := (patch (fun s => a.eval (.tmp s)) l0 S).toArray, defers := ds } := by
  have hd := hJ.d
  have hsz := hJ.sz
  have hold := hJ.old
  obtain ⟨tm, df⟩ := a
  obtain ⟨tl⟩ := tm
  simp at hd hsz
  subst hd
  congr 1
  congr 1
  refine List.ext_getElem? fun i => ?_
  by_cases hi : i < l0.length
  · rw [patch_at _ _ _ _ hi]
    have hi' : i < tl.length := by omega
    split
    · simp [Act.eval, hi']
    · rename_i hm
      have h1 := hold i hm
      simp [Act.eval, hi, hi'] at h1
      rw [List.getElem?_eq_getElem hi, List.getElem?_eq_getElem hi', h1]
  · rw [List.getElem?_eq_none (by omega), List.getElem?_eq_none (by rw [patch_len]; omega)]
/-- The whole region, its facts on slots. -/
theorem wp_region_perF {id : Nat} (hmx : P.follows .mixedOrders = true) {ops : List Oper} (l : List Oper) (z : Oper) (hl : ops = l ++ [z]) (pers : List Nat) (U : List (List Nat)) (hB : perB l z pers U = true) (F : Nat → Value → Value → World → Prop) (S : List Nat) (r : Nat) (a : Act) (w : World) (hr : (a.eval (.tmp r)).ownBlock = none)
    (hsteps : StepsP P Q (PerJ S r a w) (PerD F S r) pers U l 0 l)
    (hlast : ∀ a' w', PerJ S r a w a' w' → (∀ j, j < l.length → pers.contains j = true → PerD F S r j a' w') → ∀ K' : Act → World → Prop, (∀ a w', Q .normal a w' → K' a w') → z.wp P a' w' K' Q) : (Code.region id ops.toArray true).wp P Q a w :=
  wp_region_per hmx l z hl pers U hB (PerJ S r a w) (PerD F S r) a w ⟨rfl, rfl, fun _ _ => rfl, below_drew_refl w, fun g hg => by rw [hr] at hg; cases hg⟩ hsteps hlast
end
end Go.Proofs.YtbnelgniekcjdaaGreatDoor

/- capstanlaw06.ExprStops: what its operations leave, and which tokens stop. -/
namespace Go.Proofs.YtbnelgniekcjdaaGreatDoor
open Go.RowKit Cap
set_option maxRecDepth 1000000
def stopTok : List Tok := [⟨3, ⟨#[59]⟩, 0, 0, 0⟩, ⟨1, ⟨#[84, 72, 69, 78]⟩, 0, 0, 0⟩, ⟨3, ⟨#[41]⟩, 0, 0, 0⟩, ⟨2, ⟨#[]⟩, 5, 0, 0⟩, ⟨4, ⟨#[]⟩, 0, 0, 0⟩]
theorem idx5 (a : Int) : ∃ i : Nat, i < 5 ∧ wrap64 ((IntKind.u64.wrap a).tmod 5) = (i : Int) := by
  have h0 : 0 ≤ IntKind.u64.wrap a ∧ IntKind.u64.wrap a < 18446744073709551616 := by
    rw [IntKind.wrap_u64]
    omega
  have h1 : (IntKind.u64.wrap a).tmod 5 = IntKind.u64.wrap a % 5 := Int.tmod_eq_emod_of_nonneg h0.1
  refine ⟨(IntKind.u64.wrap a % 5).toNat, by omega, ?_⟩
  rw [h1]
  unfold wrap64
  omega
theorem hpN {W : World} {B : Nat} {cs : Array Value} {T : TypeId} (h : B = W.heap.size) : (W.alloc (.cells cs T)).heap[B]? = some (.cells cs T (0, 0)) := by
  subst h
  exact heap_alloc_new _ _
theorem hpB {W W' : World} {b : Nat} {o : Obj} (hb : Below W.heap.size W W') (h : W.heap[b]? = some o) : W'.heap[b]? = some o := (hb.block b (Array.getElem?_eq_some_iff.1 h).1).trans h
/-- What lies there already, stored once more. -/
theorem set00 {w : World} {g : Nat} {T : TypeId} (h : w.heap[g]? = some (.cells #[.int .i64 0, .int .i64 0] T (0, 0))) : w.setCells g 0 [.int .i64 0, .int .i64 0] = w := by
  have c0 := cell_of_row _ _ 0 _ _ _ h
  have c1 := cell_of_row _ _ 1 _ _ _ h
  have h1 := run_storeCells_cells (P := Tryz.prog) g 0 [.int .i64 0, .int .i64 0] 0 w (fun j hj => by
    simp at hj
    rcases (show j = 0 ∨ j = 1 by omega) with rfl | rfl
    · simp at c0 ⊢; rw [c0]; rfl
    · simp at c1 ⊢; rw [c1]; rfl) (fun j hj => by simp [World.frozen?, h]) (by simp [Value.oneCell'])
  have h2 := run_storeCells_at (P := Tryz.prog) g 0 T [.int .i64 0, .int .i64 0] 0 _ w h (by simp) (by simp [Value.oneCell'])
  have h3 := h1.symm.trans h2
  injection h3 with _ h3
  rw [Nat.add_zero] at h3
  rw [h3]
  exact setRow_self w g _ T (0, 0) h
/-- What each operation of the second reading's region leaves. -/
def esF (base m n c : Nat) (A : Option Addr) (tk : List Tok) (t : Tok) (x : List Prt) : Nat → Value → Value → World → Prop
  | 0, v, _, w => LitAt base 38 w v
  | 1, v, _, _ => v = .slice A n c
  | 2, v, _, _ => v = .int .i64 (m : Int)
  | 3, v, _, _ => v = .slice A m c
  | 4, v, _, w => w.ownsRow base 38 5 v tk.length (tk.flatMap encTok)
  | 5, v, _, _ => v = .agg #[.int .i64 t.k, .string t.s, .int .i64 t.n, .int .i64 t.ty, .int .i64 t.pos]
  | 6, v, _, w => Sl encTok 5 w v [t]
  | 7, v, _, w => TokL w v (tk ++ [t])
  | 8, v, _, w => ∃ u, v = .tuple #[u, .int .i64 (m : Int), .agg #[.int .i64 0, .int .i64 0]] ∧ Sl encPrt 5 w u x
  | 9, v, _, w => ∃ u, v = .tuple #[u, .int .i64 (m : Int), .agg #[.int .i64 0, .int .i64 0]] ∧ Sl encPrt 5 w u x
  | 10, v, _, w => Sl encPrt 5 w v x
  | 11, v, _, _ => v = .int .i64 (m : Int)
  | 12, v, _, _ => v = .agg #[.int .i64 0, .int .i64 0]
  | 13, v, _, w => ∃ g, v = .pointer (some ⟨g, 0, none⟩) ∧ base ≤ g ∧ w.heap[g]? = some (.cells #[.int .i64 0, .int .i64 0] 34 (0, 0))
  | 14, v, _, w => Sl encPrt 5 w v x
  | 15, v, _, _ => v = .int .i64 (m : Int)
  | _, _, _, _ => True
theorem esF_below {base m n c : Nat} {A : Option Addr} {tk : List Tok} {t : Tok} {x : List Prt} (i : Nat) (v r : Value) (w w' : World) (h : esF base m n c A tk t x i v r w) (hb : Below w.heap.size w w') : esF base m n c A tk t x i v r w' := by
  revert h
  unfold esF
  split <;> intro h <;> first
    | exact h
    | exact LitAt.below h hb
    | exact own_below h hb
    | exact Sl.below h hb
    | exact ⟨h.choose, h.choose_spec.1, h.choose_spec.2.below hb⟩
    | (obtain ⟨g, h1, h2, h3⟩ := h
       exact ⟨g, h1, h2, (hb.block g (Array.getElem?_eq_some_iff.1 h3).1).trans h3⟩)
/-- A row of tokens does not lie where a fault does. -/
theorem tok_not_fault {w : World} {base : Nat} {v : Value} {n : Nat} {xs : List Value} (h : w.ownsRow base 38 5 v n xs) {g : Nat} {cs : Array Value} (hg : w.heap[g]? = some (.cells cs 34 (0, 0))) : some g ≠ v.ownBlock := by
  rcases h.2 with ⟨rfl, _⟩ | ⟨g', cap, cur, rfl, hb', hh, _⟩
  · simp [Value.ownBlock]
  · intro e
    simp [Value.ownBlock] at e
    subst e
    rw [hg] at hh
    injection hh with hh
    injection hh with _ h2 _
    exact absurd h2 (by decide)
def stopCs : Array Value := #[.int .i64 3, .string ⟨#[59]⟩, .int .i64 0, .int .i64 0, .int .i64 0, .int .i64 1, .string ⟨#[84, 72, 69, 78]⟩, .int .i64 0, .int .i64 0, .int .i64 0, .int .i64 3, .string ⟨#[41]⟩, .int .i64 0, .int .i64 0, .int .i64 0, .int .i64 2, .string ⟨#[]⟩, .int .i64 5, .int .i64 0, .int .i64 0, .int .i64 4, .string ⟨#[]⟩, .int .i64 0, .int .i64 0, .int .i64 0]
theorem stop_at : ∀ i : Nat, i < 5 → ∃ t : Tok, stopTok[i]? = some t ∧ stopCs[i * 5]? = some (.int .i64 t.k) ∧ stopCs[i * 5 + 1]? = some (.string t.s) ∧ stopCs[i * 5 + 2]? = some (.int .i64 t.n) ∧ stopCs[i * 5 + 3]? = some (.int .i64 t.ty) ∧ stopCs[i * 5 + 4]? = some (.int .i64 t.pos)
  | 0, _ => ⟨_, rfl, rfl, rfl, rfl, rfl, rfl⟩
  | 1, _ => ⟨_, rfl, rfl, rfl, rfl, rfl, rfl⟩
  | 2, _ => ⟨_, rfl, rfl, rfl, rfl, rfl, rfl⟩
  | 3, _ => ⟨_, rfl, rfl, rfl, rfl, rfl, rfl⟩
  | 4, _ => ⟨_, rfl, rfl, rfl, rfl, rfl, rfl⟩
  | i + 5, h => absurd h (by omega)
/-- None of these goes on with an expression. -/
theorem stop_tok {l : List Tok} {n : Nat} (hn : n ≤ l.length) {i : Nat} {t : Tok} (ht : stopTok[i]? = some t) : StopAt (l.take n ++ [t]) n := by
  have hat : (l.take n ++ [t])[n]? = some t := by
    rw [List.getElem?_append_right (by rw [List.length_take]; omega), List.length_take, Nat.min_eq_left hn, Nat.sub_self]
    rfl
  have hall : ∀ u ∈ stopTok, ((rows7.all fun row => opsAt [u] 0 row == 0) && !(isTok [u] 0 3 ⟨#[91]⟩) && !(isTok [u] 0 3 ⟨#[46]⟩)) = true := by
    intro u hu
    have h : stopTok.all (fun u => (rows7.all fun row => opsAt [u] 0 row == 0) && !(isTok [u] 0 3 ⟨#[91]⟩) && !(isTok [u] 0 3 ⟨#[46]⟩)) = true := by kernel_rfl
    exact List.all_eq_true.1 h u hu
  have h := hall t (List.mem_of_getElem? ht)
  have e : ∀ k s, isTok (l.take n ++ [t]) n k s = isTok [t] 0 k s := fun k s => by
    unfold isTok
    rw [hat]
    rfl
  have eo : ∀ row, opsAt (l.take n ++ [t]) n row = opsAt [t] 0 row := by
    intro row
    induction row with
    | nil => rfl
    | cons m r ih =>
      unfold opsAt isOpAt
      rw [e, e, e, e, ih]
  simp only [Bool.and_eq_true, List.all_eq_true, beq_iff_eq, Bool.not_eq_true'] at h
  exact ⟨fun row hr => by rw [eo]; exact h.1.1 row hr, by rw [e]; exact h.1.2, by rw [e]; exact h.2⟩
theorem sl_take {α : Type} {enc : α → List Value} {k : Nat} {w : World} {A : Option Addr} {n c : Nat} {xs : List α} (h : Sl enc k w (.slice A n c) xs) {m : Nat} (hm : m ≤ xs.length) (hc : m ≤ c) : Sl enc k w (.slice A m c) (xs.take m) := by
  obtain ⟨A', c', e, h1, h2, h3⟩ := h
  injection e with e1 e2 e3
  subst e1 e3
  refine ⟨A, c, ?_, ?_, h2, fun i x hx => ?_⟩
  · rw [List.length_take, Nat.min_eq_left hm]
  · rw [List.length_take]; omega
  · have hlt : i < m := by
      have := (List.getElem?_eq_some_iff.1 hx).1
      rw [List.length_take] at this
      omega
    exact h3 i x (by rw [← hx, List.getElem?_take_of_lt hlt])
theorem stop_small : ∀ u ∈ stopTok, u.s.size ≤ 140737488351232 := by decide
theorem pare_ok {w : World} {x : List Prt} {n : Int} {e : Ending} {w' : World} (h : ParE w (.ok x n) e w') : ∃ v, e = .returned (.tuple #[v, .int .i64 n, .agg #[.int .i64 0, .int .i64 0]]) ∧ Sl encPrt 5 w' v x ∧ Below w.heap.size w w' := by
  cases h with
  | ok h hb => exact ⟨_, rfl, Sl.own encPrt_len h rfl, hb⟩
theorem stop_row {w w' : World} {base : Nat} {v : Value} {xs : List Tok} {t : Tok} (h : w.ownsRow base 38 5 v (xs.length + [t].length) (xs.flatMap encTok ++ [t].flatMap encTok)) (hb : Below w.heap.size w w') : TokL w' v (xs ++ [t]) := by
  rw [← List.length_append, ← List.flatMap_append] at h
  exact (Sl.own encTok_len h rfl).below hb
end Go.Proofs.YtbnelgniekcjdaaGreatDoor

/- capstanlaw06.ExprStops: the walk. -/
namespace Go.Proofs.YtbnelgniekcjdaaGreatDoor
open Go.RowKit Cap
set_option maxRecDepth 1000000
set_option maxHeartbeats 8000000 in
theorem stops_c (l : List Tok) (b : Int) (v : Value) (w : World) (hl : TokL w v l) (hm : TokMax l.length) (hts : ∀ t ∈ l, t.s.size ≤ 140737488351232) (hG : GE w) :
    Calls Tryz.prog 4 #[v, .int .i64 b] w fun e w' => e = .returned (.bool true) ∧ Below w.heap.size w w' := by
  have HG := Lib.hid hG
  have HW := Lib.hid (works_c w hG)
  obtain ⟨A, c, rfl, h1, h2, h3⟩ := hl
  have HL := Lib.hid (show TokL w (.slice A l.length c) l from ⟨A, c, rfl, h1, h2, h3⟩)
  obtain ⟨q, hq⟩ : ∃ q, parseP l 0 = q := ⟨_, rfl⟩
  have HP := Lib.hid (fun (W : World) (hW : Below w.heap.size w W) => hq ▸ parse_c l W (.slice A l.length c) 0 (HL.out.below hW) hm (hG.x.below hW) hts)
  have HQ := Lib.hid hq
  have hl0 : (0 : Int) ≤ (l.length : Int) := Int.natCast_nonneg _
  clear hG h3 hq
  go_enter Tryz.func4, Tryz.ntmps4
  go_wp2_with (first | (go_at_call 7; refine HW.out.mono ?_; rintro e w1 ⟨rfl, hb1⟩))
  refine (HP.out _ (by (repeat' (first | (with_reducible exact Below.refl _ _) | (with_reducible refine below_alloc ?_) | (with_reducible refine below_drew ?_) | (with_reducible refine below_drewN ?_) | (with_reducible refine below_set (by first | (simp; done) | (simp; omega)) ?_) | (with_reducible refine below_call (by with_reducible assumption) ?_))))).mono ?_
  rintro e w2 hE
  cases hE with
  | @no eb ee w2 hb2 =>
    have hne := parse_err HQ.out
    have hnb : (ee == 0) = false := by simpa using hne
    clear hne
    go_wp2
    all_goals go_ret
    all_goals exact ⟨rfl, by (repeat' (first | (with_reducible exact Below.refl _ _) | (with_reducible refine below_alloc ?_) | (with_reducible refine below_drew ?_) | (with_reducible refine below_drewN ?_) | (with_reducible refine below_set (by first | (simp; done) | (simp; omega)) ?_) | (with_reducible refine below_call (by with_reducible assumption) ?_)))⟩
  | @ok x n v2 w2 h2' hb2 =>
    have HX := Lib.hid (Sl.own encPrt_len h2' rfl)
    obtain ⟨A2, c2, rfl⟩ := own_slice h2'
    clear h2'
    obtain ⟨n0, n1, n2, n3⟩ := parse_short HQ.out
    obtain ⟨m, rfl⟩ : ∃ m : Nat, n = m := ⟨n.toNat, by omega⟩
    obtain ⟨i, hi, hei⟩ := idx5 b
    obtain ⟨⟨tk0, ts, tn, ty, tp⟩, ht, q0, q1, q2, q3, q4⟩ := stop_at i hi
    unfold stopCs at q0 q1 q2 q3 q4
    simp only at q0 q1 q2 q3 q4
    have hiz : (i : Int) < 5 := by omega
    have hi0 : (0 : Int) ≤ (i : Int) := Int.natCast_nonneg _
    have HT := Lib.hid ht
    clear ht
    have HS := Lib.hid (parse_stops HQ.out (⟨tk0, ts, tn, ty, tp⟩ : Tok) (stop_tok (by omega) HT.out))
    have hml : m ≤ l.length := by omega
    have hmz : (m : Int) ≤ (l.length : Int) := by omega
    have hm0 : (0 : Int) ≤ (m : Int) := Int.natCast_nonneg _
    have hm3 : m ≤ 301500 := by omega
    have hlc : (m : Int) ≤ (c : Int) := by omega
    have HTK := Lib.hid (show ∀ W, Below w.heap.size w W → Sl encTok 5 W (.slice A m c) (l.take m) from fun W hW => sl_take (HL.out.below hW) hml (by omega))
    have HT24 := Lib.hid (show ∀ u ∈ l.take m ++ [(⟨tk0, ts, tn, ty, tp⟩ : Tok)], u.s.size ≤ 140737488351232 from fun u hu => by
      rcases List.mem_append.1 hu with hu | hu
      · exact hts u (List.mem_of_mem_take hu)
      · rw [List.mem_singleton] at hu
        subst hu
        exact (stop_small _ (List.mem_of_getElem? HT.out)))
    have HLN := Lib.hid (show (l.take m ++ [(⟨tk0, ts, tn, ty, tp⟩ : Tok)]).length = m + 1 from by rw [List.length_append, List.length_take, List.length_singleton]; omega)
    have HP2 := Lib.hid (fun (W : World) (v : Value) (hW : Below w.heap.size w W) (hv : TokL W v (l.take m ++ [(⟨tk0, ts, tn, ty, tp⟩ : Tok)])) => HS.out ▸ parse_c _ W v 0 hv (by unfold TokMax; rw [HLN.out]; omega) (HG.out.x.below hW) HT24.out)
    have hml' : (l.take m).length = m := by rw [List.length_take]; omega
    have HML := Lib.hid hml'
    clear hml' h1 h2 hts n0 n1 n2 n3
    go_upto_region 7 with fail
    clear hei q0 q1 q2 q3 q4 hi hiz hi0
    refine wp_cut (fun W7 => Below w.heap.size w W7 ∧ Below w2.heap.size w2 W7 ∧ W7.heap[w2.heap.size + 1 + 1]? = some (.cells #[.int .i64 tk0, .string ts, .int .i64 tn, .int .i64 ty, .int .i64 tp] 38 (0, 0))) ⟨by (repeat' (first | (with_reducible exact Below.refl _ _) | (with_reducible refine below_alloc ?_) | (with_reducible refine below_drew ?_) | (with_reducible refine below_drewN ?_) | (with_reducible refine below_set (by first | (simp; done) | (simp; omega)) ?_) | (with_reducible refine below_call (by with_reducible assumption) ?_))), by (repeat' (first | (with_reducible exact Below.refl _ _) | (with_reducible refine below_alloc ?_) | (with_reducible refine below_drew ?_) | (with_reducible refine below_drewN ?_) | (with_reducible refine below_set (by first | (simp; done) | (simp; omega)) ?_) | (with_reducible refine below_call (by with_reducible assumption) ?_))), by (repeat' (first | (with_reducible exact hpN (by first | rfl | (simp; done) | (simp; omega))) | (with_reducible refine hpA ?_) | (with_reducible refine hpD ?_) | (with_reducible refine hpB (by with_reducible assumption) ?_)))⟩ ?_
    rintro W7 ⟨hb7, hb27, hr7⟩
    have HB7 := Lib.hid hb7
    have HB27 := Lib.hid hb27
    have hlt7 := (Array.getElem?_eq_some_iff.1 hr7).1
    have z0 := cell_of_row _ _ 0 _ _ _ hr7
    have z1 := cell_of_row _ _ 1 _ _ _ hr7
    have z2 := cell_of_row _ _ 2 _ _ _ hr7
    have z3 := cell_of_row _ _ 3 _ _ _ hr7
    have z4 := cell_of_row _ _ 4 _ _ _ hr7
    simp at z0 z1 z2 z3 z4
    clear hb7 hb27 hr7 hb1 hb2
    rename_i K0 hK0
    have hnd : [39, 40, 41, 42, 43, 44, 45, 46, 47, 38, 48, 49, 50, 11, 9, 10].Nodup := by decide
    obtain ⟨tk, htk⟩ : ∃ tk, l.take m = tk := ⟨_, rfl⟩
    have HTE := Lib.hid htk
    rw [htk] at HTK HT24 HLN HP2 HML
    clear htk
    have hml2 := HML.out
    refine wp_region_perF (by kernel_rfl) _ _ (dropLast_last _ (by simp)) [9, 10, 11, 12, 13, 14, 15] [[], [], [], [1, 2], [0, 3], [], [5], [4, 6], [7], [8], [9], [9], [9], [], [10], [11]] (by kernel_rfl) (esF W7.heap.size m l.length c A tk ⟨tk0, ts, tn, ty, tp⟩ x) [39, 40, 41, 42, 43, 44, 45, 46, 47, 38, 48, 49, 50, 11, 9, 10] 63 _ _ rfl ?_ ?_
    · dsimp only [List.dropLast]
      refine ⟨fun a w' hJ hD K' hK => ?_, ?_⟩
      · exact per_next esF_below hnd rfl 0 39 (by decide) rfl (by decide) hJ (Nat.le_of_ble_eq_true rfl) hK _ _ (below_alloc (Below.refl _ _)) ⟨_, rfl, hJ.b.size, heap_alloc_new _ _⟩ |> wp_val (v := .slice (some ⟨w'.heap.size, 0, none⟩) 0 0) (w' := w'.alloc (.cells #[] 38)) (by go_simp)
      refine ⟨fun a w' hJ hD K' hK => ?_, ?_⟩
      · have hx := raw (show a.eval (.tmp 0) = .slice A l.length c from hJ.old 0 (by decide))
        exact per_next esF_below hnd rfl 1 40 (by decide) rfl (by decide) hJ (Nat.le_of_ble_eq_true rfl) hK _ _ (Below.refl _ _) rfl |> wp_val (v := .slice A l.length c) (w' := w') (by go_simp)
      refine ⟨fun a w' hJ hD K' hK => ?_, ?_⟩
      · have hx := raw (show a.eval (.tmp 6) = .int .i64 (m : Int) from hJ.old 6 (by decide))
        exact per_next esF_below hnd rfl 2 41 (by decide) rfl (by decide) hJ (Nat.le_of_ble_eq_true rfl) hK _ _ (Below.refl _ _) rfl |> wp_val (v := .int .i64 (m : Int)) (w' := w') (by go_simp)
      refine ⟨fun a w' hJ hD K' hK => ?_, ?_⟩
      · obtain ⟨d0, d1, -⟩ := hD
        have hx := raw (show a.eval (.tmp 40) = .slice A l.length c from d0)
        have hy := raw (show a.eval (.tmp 41) = .int .i64 (m : Int) from d1)
        exact per_next esF_below hnd rfl 3 42 (by decide) rfl (by decide) hJ (Nat.le_of_ble_eq_true rfl) hK _ _ (Below.refl _ _) rfl |> wp_val (v := .slice A m c) (w' := w') (by go_simp)
      refine ⟨fun a w' hJ hD K' hK => ?_, ?_⟩
      · obtain ⟨d0, d1, -⟩ := hD
        have hl : LitAt W7.heap.size 38 w' (a.eval (.tmp 39)) := d0
        have hsrc : a.eval (.tmp 42) = .slice A m c := d1
        refine wp_lit_app w' (.tmp 39) (.tmp 42) 31 rfl W7.heap.size 38 _ 5 48 Tryz.underlying31 info_tok rfl (by decide) encTok encTok_len one_Tok hl tk (by rw [hsrc]; exact HTK.out _ (below_call hJ.b HB7.out)) (by unfold maxLen; omega) (by omega) ?_
        intro v1 w1' ho hb
        exact per_next esF_below hnd rfl 4 43 (by decide) rfl (by decide) hJ (Nat.le_of_ble_eq_true rfl) hK _ _ hb ho
      refine ⟨fun a w' hJ hD K' hK => ?_, ?_⟩
      · have hx := raw (show a.eval (.tmp 8) = .pointer (some ⟨w2.heap.size + 1 + 1, 0, none⟩) from hJ.old 8 (by decide))
        have e0 := (hJ.b.cell (p := ⟨w2.heap.size + 1 + 1, 0, none⟩) hlt7).trans z0
        have e1 := (hJ.b.cell (p := ⟨w2.heap.size + 1 + 1, 1, none⟩) hlt7).trans z1
        have e2 := (hJ.b.cell (p := ⟨w2.heap.size + 1 + 1, 2, none⟩) hlt7).trans z2
        have e3 := (hJ.b.cell (p := ⟨w2.heap.size + 1 + 1, 3, none⟩) hlt7).trans z3
        have e4 := (hJ.b.cell (p := ⟨w2.heap.size + 1 + 1, 4, none⟩) hlt7).trans z4
        exact per_next esF_below hnd rfl 5 44 (by decide) rfl (by decide) hJ (Nat.le_of_ble_eq_true rfl) hK _ _ (Below.refl _ _) rfl |> wp_val (v := .agg #[.int .i64 tk0, .string ts, .int .i64 tn, .int .i64 ty, .int .i64 tp]) (w' := w') (by go_simp)
      refine ⟨fun a w' hJ hD K' hK => ?_, ?_⟩
      · obtain ⟨d0, -⟩ := hD
        have hx := raw (show a.eval (.tmp 44) = .agg #[.int .i64 tk0, .string ts, .int .i64 tn, .int .i64 ty, .int .i64 tp] from d0)
        exact per_next esF_below hnd rfl 6 45 (by decide) rfl (by decide) hJ (Nat.le_of_ble_eq_true rfl) hK _ _ (below_alloc (Below.refl _ _)) (Sl.lit encTok_len w' #[.int .i64 tk0, .string ts, .int .i64 tn, .int .i64 ty, .int .i64 tp] 38 1 [⟨tk0, ts, tn, ty, tp⟩] rfl rfl (by simp)) |> wp_val (v := .slice (some ⟨w'.heap.size, 0, none⟩) 1 1) (w' := w'.alloc (.cells #[.int .i64 tk0, .string ts, .int .i64 tn, .int .i64 ty, .int .i64 tp] 38)) (by go_simp)
      refine ⟨fun a w' hJ hD K' hK => ?_, ?_⟩
      · obtain ⟨d3, d5, -⟩ := hD
        have ho3 : w'.ownsRow W7.heap.size 38 5 (a.eval (.tmp 43)) tk.length (tk.flatMap encTok) := d3
        have hsl : Sl encTok 5 w' (a.eval (.tmp 45)) [⟨tk0, ts, tn, ty, tp⟩] := d5
        refine wp_own_app w' (.tmp 43) (.tmp 45) 31 rfl W7.heap.size 38 _ 5 48 Tryz.underlying31 info_tok rfl (by decide) encTok encTok_len one_Tok _ _ _ rfl ho3 _ [⟨tk0, ts, tn, ty, tp⟩] rfl hsl (by unfold maxLen; simp; omega) (by simp; omega) hJ.b.size ?_
        intro v1 w1' ho hg'
        refine per_turn hnd rfl 7 46 (by decide) rfl (by decide) hJ (Nat.le_of_ble_eq_true rfl) hK _ _ ((Below.refl _ _).grown hg' hJ.b.size (own_ge ho3 (Nat.le_refl _))) hg'.size (stop_row ho (Below.refl _ _)) (fun j hj hk u hu => ?_)
        have hj13 := keepP_only [13] (by kernel_rfl) hj hk
        simp only [List.mem_singleton] at hj13
        subst hj13
        obtain ⟨g, h1, h2, h3⟩ := hu
        exact ⟨g, h1, h2, (hg'.block g (Array.getElem?_eq_some_iff.1 h3).1 (tok_not_fault ho3 h3)).trans h3⟩
      refine ⟨fun a w' hJ hD K' hK => ?_, ?_⟩
      · obtain ⟨d7, -⟩ := hD
        have hsl : TokL w' (a.eval (.tmp 46)) (tk ++ [⟨tk0, ts, tn, ty, tp⟩]) := d7
        have hx := rfl (a := a.eval (.tmp 46))
        refine wp_calls (f := 10) (args := #[a.eval (.tmp 46), .int .i64 0]) (w' := w') (by go_simp) (HP2.out w' _ (below_call hJ.b HB7.out) hsl) ?_
        intro e w1 hE
        obtain ⟨v47, rfl, ho47, hb47⟩ := pare_ok hE
        exact ⟨_, rfl, per_next esF_below hnd rfl 8 47 (by decide) rfl (by decide) hJ (Nat.le_of_ble_eq_true rfl) hK _ _ hb47 ⟨_, rfl, ho47⟩⟩
      refine ⟨fun a w' hJ hD K' hK => ?_, ?_⟩
      · obtain ⟨⟨u, hu, hS⟩, -⟩ := hD
        have hx := raw (show a.eval (.tmp 47) = _ from hu)
        exact per_next esF_below hnd rfl 9 38 (by decide) rfl (by decide) hJ (Nat.le_of_ble_eq_true rfl) hK _ _ (Below.refl _ _) ⟨u, rfl, hS⟩ |> wp_val (w' := w') (by go_simp)
      refine ⟨fun a w' hJ hD K' hK => ?_, ?_⟩
      · obtain ⟨⟨u, hu, hS⟩, -⟩ := hD
        have hx := raw (show a.eval (.tmp 38) = _ from hu)
        exact per_next esF_below hnd rfl 10 48 (by decide) rfl (by decide) hJ (Nat.le_of_ble_eq_true rfl) hK u _ (Below.refl _ _) hS |> wp_val (v := u) (w' := w') (by go_simp)
      refine ⟨fun a w' hJ hD K' hK => ?_, ?_⟩
      · obtain ⟨⟨u, hu, hS⟩, -⟩ := hD
        have hx := raw (show a.eval (.tmp 38) = _ from hu)
        exact per_next esF_below hnd rfl 11 49 (by decide) rfl (by decide) hJ (Nat.le_of_ble_eq_true rfl) hK _ _ (Below.refl _ _) rfl |> wp_val (v := .int .i64 (m : Int)) (w' := w') (by go_simp)
      refine ⟨fun a w' hJ hD K' hK => ?_, ?_⟩
      · obtain ⟨⟨u, hu, hS⟩, -⟩ := hD
        have hx := raw (show a.eval (.tmp 38) = _ from hu)
        exact per_next esF_below hnd rfl 12 50 (by decide) rfl (by decide) hJ (Nat.le_of_ble_eq_true rfl) hK _ _ (Below.refl _ _) rfl |> wp_val (v := .agg #[.int .i64 0, .int .i64 0]) (w' := w') (by go_simp)
      refine ⟨fun a w' hJ hD K' hK => ?_, ?_⟩
      · exact per_next esF_below hnd rfl 13 11 (by decide) rfl (by decide) hJ (Nat.le_of_ble_eq_true rfl) hK _ _ (below_alloc (Below.refl _ _)) ⟨_, rfl, hJ.b.size, heap_alloc_new _ _⟩ |> wp_val (v := .pointer (some ⟨w'.heap.size, 0, none⟩)) (w' := w'.alloc (.cells #[.int .i64 0, .int .i64 0] 34)) (by go_simp)
      refine ⟨fun a w' hJ hD K' hK => ?_, ?_⟩
      · obtain ⟨d0, -⟩ := hD
        have hS : Sl encPrt 5 w' (a.eval (.tmp 48)) x := d0
        exact per_next esF_below hnd rfl 14 9 (by decide) rfl (by decide) hJ (Nat.le_of_ble_eq_true rfl) hK _ _ (Below.refl _ _) hS |> wp_assign rfl
      refine ⟨fun a w' hJ hD K' hK => ?_, trivial⟩
      · obtain ⟨d0, -⟩ := hD
        have hS : a.eval (.tmp 49) = .int .i64 (m : Int) := d0
        exact per_next esF_below hnd rfl 15 10 (by decide) rfl (by decide) hJ (Nat.le_of_ble_eq_true rfl) hK _ _ (Below.refl _ _) hS |> wp_assign rfl
    · intro a' w' hJ hF K' hK
      obtain ⟨g, hg, hgb, hgc⟩ := hF 13 (by decide) rfl
      have h12 : a'.eval (.tmp 50) = .agg #[.int .i64 0, .int .i64 0] := hF 12 (by decide) rfl
      have h9 : Sl encPrt 5 w' (a'.eval (.tmp 9)) x := hF 14 (by decide) rfl
      have h10 : a'.eval (.tmp 10) = .int .i64 (m : Int) := hF 15 (by decide) rfl
      have hg : a'.eval (.tmp 11) = .pointer (some ⟨g, 0, none⟩) := hg
      have hb' := hJ.b
      have HA := Lib.hid (act_per hJ)
      refine wp_store_mid 34 (.tmp 11) (.tmp 50) rfl g 0 #[.int .i64 0, .int .i64 0] hg h12 ?_ (by kernel_rfl) (by simp [Value.oneCell']) ?_
      · intro j hj
        simp at hj
        exact ⟨by rcases (show j = 0 ∨ j = 1 by omega) with rfl | rfl <;> simp [World.cell?, hgc], by simp [World.frozen?, hgc]⟩
      show K' (a'.put none undef) _
      rw [show (#[.int .i64 0, .int .i64 0] : Array Value).toList = [.int .i64 0, .int .i64 0] from rfl, set00 hgc]
      refine hK _ _ ?_
      show K0 a' w'
      refine hK0 _ _ ?_
      have e := HA.out
      clear HA hJ hF hK
      obtain ⟨x39, hx39⟩ : ∃ v, a'.eval (.tmp 39) = v := ⟨_, rfl⟩
      obtain ⟨x40, hx40⟩ : ∃ v, a'.eval (.tmp 40) = v := ⟨_, rfl⟩
      obtain ⟨x41, hx41⟩ : ∃ v, a'.eval (.tmp 41) = v := ⟨_, rfl⟩
      obtain ⟨x42, hx42⟩ : ∃ v, a'.eval (.tmp 42) = v := ⟨_, rfl⟩
      obtain ⟨x43, hx43⟩ : ∃ v, a'.eval (.tmp 43) = v := ⟨_, rfl⟩
      obtain ⟨x44, hx44⟩ : ∃ v, a'.eval (.tmp 44) = v := ⟨_, rfl⟩
      obtain ⟨x45, hx45⟩ : ∃ v, a'.eval (.tmp 45) = v := ⟨_, rfl⟩
      obtain ⟨x46, hx46⟩ : ∃ v, a'.eval (.tmp 46) = v := ⟨_, rfl⟩
      obtain ⟨x47, hx47⟩ : ∃ v, a'.eval (.tmp 47) = v := ⟨_, rfl⟩
      obtain ⟨x38, hx38⟩ : ∃ v, a'.eval (.tmp 38) = v := ⟨_, rfl⟩
      obtain ⟨x48, hx48⟩ : ∃ v, a'.eval (.tmp 48) = v := ⟨_, rfl⟩
      obtain ⟨x49, hx49⟩ : ∃ v, a'.eval (.tmp 49) = v := ⟨_, rfl⟩
      obtain ⟨x50, hx50⟩ : ∃ v, a'.eval (.tmp 50) = v := ⟨_, rfl⟩
      obtain ⟨x9, hx9⟩ : ∃ v, a'.eval (.tmp 9) = v := ⟨_, rfl⟩
      simp only [patch, hx39, hx40, hx41, hx42, hx43, hx44, hx45, hx46, hx47, hx38, hx48, hx49, hx50, hx9, hg, h10] at e h9 h12
      clear hg h10 hx39 hx40 hx41 hx42 hx43 hx44 hx45 hx46 hx47 hx38 hx48 hx49 hx50 hx9
      simp only [List.set_cons_zero, List.set_cons_succ] at e
      subst e
      subst h12
      have q0 := cell_of_row _ _ 0 _ _ _ hgc
      have q1 := cell_of_row _ _ 1 _ _ _ hgc
      simp at q0 q1
      have HX2 := Lib.hid (HX.out.below (below_call hb' HB27.out))
      have HSM := Lib.hid (fun (W : World) (hW : Below w'.heap.size w' W) => samep_c x x (.slice A2 x.length c2) x9 W (HX2.out.below hW) (h9.below hW))
      simp only [sameP_refl] at HSM
      have HBW := Lib.hid (below_call hb' HB7.out)
      clear hgc h9 hb' hgb
      trace_state
      go_wp2_with (first | (go_at_call 9; refine (HSM.out _ (by (repeat' (first | (with_reducible exact Below.refl _ _) | (with_reducible refine below_alloc ?_) | (with_reducible refine below_drew ?_) | (with_reducible refine below_drewN ?_) | (with_reducible refine below_set (by first | (simp; done) | (simp; omega)) ?_) | (with_reducible refine below_call (by with_reducible assumption) ?_))))).mono ?_; rintro e w9 ⟨rfl, hb9⟩))
      all_goals go_ret
      all_goals exact ⟨rfl, below_call (by (repeat' (first | (with_reducible exact Below.refl _ _) | (with_reducible refine below_alloc ?_) | (with_reducible refine below_drew ?_) | (with_reducible refine below_drewN ?_) | (with_reducible refine below_set (by first | (simp; done) | (simp; omega)) ?_) | (with_reducible refine below_call (by with_reducible assumption) ?_)))) HBW.out⟩
end Go.Proofs.YtbnelgniekcjdaaGreatDoor
