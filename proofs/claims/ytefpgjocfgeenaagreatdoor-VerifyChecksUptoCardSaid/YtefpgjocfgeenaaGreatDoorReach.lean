/- (*look).reach of package verify. -/
import Derived.Test.YtefpgjocfgeenaaGreatDoorGoes
import Derived.Deep.RegionHeld3
import Derived.Laws.IdiomCopy
namespace Go.Proofs.YtefpgjocfgeenaaGreatDoor
open Go.RowKit Cap
set_option maxRecDepth 100000

def t64 (st : List Int) : List Value := st.map (fun x => .int .i64 x) ++ List.replicate (64 - st.length) (.int .i64 0)
theorem stk_t64 (st : List Int) : stk st = t64 st ++ [.int .i64 st.length] := rfl
theorem t64_len {st : List Int} (h : st.length ≤ 64) : (t64 st).length = 64 := by simp [t64]; omega
theorem t64_one (st : List Int) : ∀ v ∈ t64 st, v.oneCell' = true := by
  intro v hv
  simp only [t64, List.mem_append, List.mem_map, List.mem_replicate] at hv
  rcases hv with ⟨x, _, rfl⟩ | ⟨_, rfl⟩ <;> rfl
theorem stk_one (st : List Int) : ∀ v ∈ stk st, v.oneCell' = true := by
  intro v hv
  rw [stk_t64, List.mem_append] at hv
  rcases hv with h | h
  · exact t64_one st v h
  · simp at h; subst h; rfl
theorem t64_inj {a b : List Int} (h : a.length = b.length) (e : t64 a = t64 b) : a = b := by
  unfold t64 at e
  rw [h] at e
  have h1 := List.append_inj_left e (by simp [h])
  have h2 : ∀ (xs ys : List Int), xs.map (fun x => Value.int .i64 x) = ys.map (fun x => Value.int .i64 x) → xs = ys := by
    intro xs
    induction xs with
    | nil => intro ys h; cases ys with
      | nil => rfl
      | cons y ys => simp at h
    | cons x xs ih => intro ys h; cases ys with
      | nil => simp at h
      | cons y ys => simp at h; rw [h.1, ih ys (by simpa using h.2)]
  exact h2 a b h1
def pad (st : List Int) : List Int := st ++ List.replicate (64 - st.length) 0
theorem t64_pad (st : List Int) : t64 st = (pad st).map (fun x => .int .i64 x) := by simp [t64, pad]
theorem pad_len {st : List Int} (h : st.length ≤ 64) : (pad st).length = 64 := by simp [pad]; omega
theorem pad_inj {a b : List Int} (h : a.length = b.length) (e : pad a = pad b) : a = b := by
  unfold pad at e
  rw [h] at e
  exact List.append_inj_left e h
/-- Each cell of a row of ints, compared. -/
theorem eqItems_ints {w : World} {ti : TypeId} (hu : Tryz.prog.underlying ti = some (.int .i64)) (hi : (Tryz.prog.info? ti).map (·.size) = some 1) (d : Nat) (xs ys : List Int) (is : List Nat) (hx : ∀ i ∈ is, i < xs.length) (hy : ∀ i ∈ is, i < ys.length) :
    (Op.eqItems (d + 1) ti 1 (xs.map (fun x => Value.int .i64 x)).toArray (ys.map (fun x => Value.int .i64 x)).toArray is).run Tryz.prog w = .ok (is.all fun i => xs.getD i 0 == ys.getD i 0) w := by
  induction is with
  | nil => simp [Op.eqItems]
  | cons i is ih =>
    have hx' := hx i (by simp)
    have hy' := hy i (by simp)
    have ih' := ih (fun j hj => hx j (by simp [hj])) (fun j hj => hy j (by simp [hj]))
    obtain ⟨x, ex⟩ : ∃ x, xs[i]? = some x := ⟨xs[i], List.getElem?_eq_getElem hx'⟩
    obtain ⟨y, ey⟩ : ∃ y, ys[i]? = some y := ⟨ys[i], List.getElem?_eq_getElem hy'⟩
    have p1 : (part ti (xs.map (fun x => Value.int .i64 x)).toArray (i * 1)).run Tryz.prog w = .ok (.int .i64 x) w := by
      simp [part, isAgg, run_underlying hu, ex]
    have p2 : (part ti (ys.map (fun x => Value.int .i64 x)).toArray (i * 1)).run Tryz.prog w = .ok (.int .i64 y) w := by
      simp [part, isAgg, run_underlying hu, ey]
    have p3 : (Op.equalIn (d + 1) ti (.int .i64 x) (.int .i64 y)).run Tryz.prog w = .ok (x == y) w := by
      simp [Op.equalIn, run_underlying hu]
    simp only [Op.eqItems, Sem.run_bind, p1, p2, p3, Result.andThen_ok, List.all_cons]
    have e1 : xs.getD i 0 = x := by simp [List.getD_eq_getElem?_getD, ex]
    have e2 : ys.getD i 0 = y := by simp [List.getD_eq_getElem?_getD, ey]
    rw [e1, e2]
    cases hq : (x == y)
    · simp
    · simp [ih']
theorem all_eq {a b : List Int} {n : Nat} (ha : a.length = n) (hb : b.length = n) : ((List.range n).all fun i => a.getD i 0 == b.getD i 0) = decide (a = b) := by
  rw [Bool.eq_iff_iff]
  simp only [List.all_eq_true, List.mem_range, beq_iff_eq, decide_eq_true_eq]
  constructor
  · intro h
    apply List.ext_getElem (by omega)
    intro i h1 h2
    have := h i (by omega)
    simpa [List.getD_eq_getElem?_getD, h1, h2] using this
  · rintro rfl i _
    rfl
theorem eq64 (w : World) (a b : List Int) (ha : a.length ≤ 64) (hb : b.length ≤ 64) :
    (Op.equalIn 10000 120 (.agg (t64 a).toArray) (.agg (t64 b).toArray)).run Tryz.prog w = .ok (decide (pad a = pad b)) w := by
  have hi : ∃ i, Tryz.prog.info? 3 = some i ∧ i.size = 1 := by
    have : (Tryz.prog.info? 3).map (·.size) = some 1 := by kernel_rfl
    cases h : Tryz.prog.info? 3 with
    | none => rw [h] at this; cases this
    | some i => rw [h] at this; injection this with this; exact ⟨i, rfl, this⟩
  obtain ⟨i, hi, hs⟩ := hi
  have hc : Tryz.prog.cellsOf 3 = 1 := by kernel_rfl
  rw [run_equalIn_array w 9999 (n := 64) (e := 3) (t64 a).toArray (t64 b).toArray (by kernel_rfl) hi, hc, t64_pad, t64_pad]
  have la := pad_len ha
  have lb := pad_len hb
  rw [eqItems_ints (by kernel_rfl) (by rw [hi]; simp [hs]) 9998 (pad a) (pad b) (List.range 64) (fun i hi => by rw [la]; exact List.mem_range.1 hi) (fun i hi => by rw [lb]; exact List.mem_range.1 hi), all_eq la lb]

/-! ### The look as it lies -/
theorem flatMap_stk : ∀ (ss : List (List Int)) (k : Nat) (st : List Int) (j : Nat) (v : Value), (∀ s ∈ ss, s.length ≤ 64) → ss[k]? = some st → (stk st)[j]? = some v → (ss.flatMap stk)[k * 65 + j]? = some v
  | [], k, st, j, v, _, h, _ => by simp at h
  | y :: ys, 0, st, j, v, _, h, hv => by
    obtain rfl : y = st := by simpa using h
    have hj : j < (stk y).length := (List.getElem?_eq_some_iff.1 hv).1
    rw [List.flatMap_cons, Nat.zero_mul, Nat.zero_add, List.getElem?_append_left hj]
    exact hv
  | y :: ys, k + 1, st, j, v, hl, h, hv => by
    have h' : ys[k]? = some st := by simpa using h
    have hi := flatMap_stk ys k st j v (fun s hs => hl s (by simp [hs])) h' hv
    have hy := stk_len (hl y (by simp))
    rw [List.flatMap_cons, List.getElem?_append_right (by rw [hy]; omega), hy]
    rw [show (k + 1) * 65 + j - 65 = k * 65 + j from by omega]
    exact hi
/-- Cells put over others, from o on. -/
def over (C : List Value) (o : Nat) : List Value → List Value
  | [] => C
  | v :: vs => over (C.set o v) (o + 1) vs
theorem over_at : ∀ (B B' A D : List Value) (o : Nat), B.length = B'.length → A.length = o → over (A ++ (B ++ D)) o B' = A ++ (B' ++ D)
  | [], [], A, D, o, _, _ => rfl
  | b :: B, b' :: B', A, D, o, h, ha => by
    rw [over]
    have e : (A ++ (b :: B ++ D)).set o b' = (A ++ [b']) ++ (B ++ D) := by
      rw [← ha, List.set_append_right _ _ (Nat.le_refl _)]
      simp
    rw [e, over_at B B' (A ++ [b']) D (o + 1) (by simpa using h) (by simp [ha])]
    simp
  | [], _ :: _, _, _, _, h, _ => by simp at h
  | _ :: _, [], _, _, _, h, _ => by simp at h
theorem over_stk (ss : List (List Int)) (k : Nat) (st : List Int) (hl : ∀ s ∈ ss, s.length ≤ 64) (h : st.length ≤ 64) (hk : k < ss.length) : over (ss.flatMap stk) (k * 65) (stk st) = (ss.set k st).flatMap stk := by
  have e1 : ss = ss.take k ++ (ss[k] :: ss.drop (k + 1)) := by
    rw [← List.drop_eq_getElem_cons hk, List.take_append_drop]
  have e2 : ss.set k st = ss.take k ++ (st :: ss.drop (k + 1)) := by
    rw [List.set_eq_take_append_cons_drop, if_pos hk]
  have l1 : ((ss.take k).flatMap stk).length = k * 65 := by
    have : ∀ (ts : List (List Int)), (∀ s ∈ ts, s.length ≤ 64) → (ts.flatMap stk).length = ts.length * 65 := by
      intro ts
      induction ts with
      | nil => intro _; rfl
      | cons t ts ih => intro ht; rw [List.flatMap_cons, List.length_append, stk_len (ht t (by simp)), ih (fun s hs => ht s (by simp [hs])), List.length_cons]; omega
    rw [this _ (fun s hs => hl s (List.mem_of_mem_take hs)), List.length_take, Nat.min_eq_left (Nat.le_of_lt hk)]
  rw [e2, List.flatMap_append, List.flatMap_cons]
  conv => lhs; arg 1; rw [e1, List.flatMap_append, List.flatMap_cons]
  exact over_at _ _ _ _ _ (by rw [stk_len h, stk_len (hl _ (List.getElem_mem hk))]) l1
theorem heap_setCells (b : Nat) (T : TypeId) : ∀ (vs C : List Value) (o : Nat) (w : World), w.heap[b]? = some (.cells C.toArray T (0, 0)) → (w.setCells b o vs).heap[b]? = some (.cells (over C o vs).toArray T (0, 0))
  | [], C, o, w, h => h
  | v :: vs, C, o, w, h => by
    rw [World.setCells, over]
    refine heap_setCells b T vs _ (o + 1) _ ?_
    have := heap_setCell_same w b o C.toArray T v h
    simpa using this
theorem heap_setCells_other (b k : Nat) (hk : k ≠ b) : ∀ (vs : List Value) (o : Nat) (w : World), (w.setCells b o vs).heap[k]? = w.heap[k]?
  | [], o, w => rfl
  | v :: vs, o, w => by
    rw [World.setCells, heap_setCells_other b k hk vs (o + 1) _]
    exact heap_setCell_other w ⟨b, o, none⟩ k v hk
theorem setCells_rest (b : Nat) : ∀ (vs : List Value) (o : Nat) (w : World), (w.setCells b o vs).os = w.os ∧ (w.setCells b o vs).tape = w.tape ∧ (w.setCells b o vs).output = w.output ∧ (w.setCells b o vs).heap.size = w.heap.size
  | [], o, w => ⟨rfl, rfl, rfl, rfl⟩
  | v :: vs, o, w => by
    rw [World.setCells]
    obtain ⟨h1, h2, h3, h4⟩ := setCells_rest b vs (o + 1) (w.setCell ⟨b, o, none⟩ v)
    exact ⟨h1, h2, h3, by rw [h4]; simp [World.setCell]⟩

structure LookAt (bl br bs n : Nat) (rs : List Bool) (ss : List (List Int)) (deep : Int) (w : World) : Prop where
  look : w.heap[bl]? = some (.cells #[.slice (some ⟨br, 0, none⟩) n n, .slice (some ⟨bs, 0, none⟩) n n, .int .i64 deep] 73 (0, 0))
  rows : w.heap[br]? = some (.cells (rs.flatMap encB).toArray 4 (0, 0))
  stks : w.heap[bs]? = some (.cells (ss.flatMap stk).toArray 122 (0, 0))
  lr : rs.length = n
  ls : ss.length = n
  l64 : ∀ s ∈ ss, s.length ≤ 64
  lr' : bl ≠ br
  ls' : bl ≠ bs
  rs' : br ≠ bs
/-- Two blocks alone have turned, of what was there. -/
structure Chg2 (b1 b2 : Nat) (w w' : World) : Prop where
  os : w'.os = w.os
  tape : w'.tape = w.tape
  output : w'.output = w.output
  size : w.heap.size ≤ w'.heap.size
  block : ∀ k, k < w.heap.size → k ≠ b1 → k ≠ b2 → w'.heap[k]? = w.heap[k]?
/-- What reach leaves. -/
inductive ReachR (bl br bs n : Nat) (deep : Int) (w : World) : Option (List Bool × List (List Int)) → Ending → World → Prop
  | no {w' : World} (h : Below w.heap.size w w') : ReachR bl br bs n deep w none (.returned (.bool false)) w'
  | yes {rs : List Bool} {ss : List (List Int)} {w' : World} (h : Chg2 br bs w w') (hl : LookAt bl br bs n rs ss deep w') : ReachR bl br bs n deep w (some (rs, ss)) (.returned (.bool true)) w'

theorem LookAt.row {bl br bs n : Nat} {rs : List Bool} {ss : List (List Int)} {deep : Int} {w : World} (h : LookAt bl br bs n rs ss deep w) {k : Nat} {r : Bool} (hk : rs[k]? = some r) : w.cell? ⟨br, k, none⟩ = some (.bool r) := by
  rw [cell_of_row _ _ _ _ _ _ h.rows]
  have := flatMap_at (enc := encB) (k := 1) (fun _ => rfl) rs k r 0 _ hk rfl
  simpa using this
theorem LookAt.many {bl br bs n : Nat} {rs : List Bool} {ss : List (List Int)} {deep : Int} {w : World} (h : LookAt bl br bs n rs ss deep w) {k : Nat} {s : List Int} (hk : ss[k]? = some s) : w.cell? ⟨bs, k * 65 + 64, none⟩ = some (.int .i64 s.length) := by
  rw [cell_of_row _ _ _ _ _ _ h.stks]
  have := flatMap_stk ss k s 64 _ h.l64 hk (stk_many (h.l64 s (List.mem_of_getElem? hk)))
  simpa using this
theorem LookAt.range {bl br bs n : Nat} {rs : List Bool} {ss : List (List Int)} {deep : Int} {w : World} (h : LookAt bl br bs n rs ss deep w) {k : Nat} {s : List Int} (hk : ss[k]? = some s) : w.rangeAt bs (k * 65) (stk s) := by
  intro j v hj
  rw [cell_of_row _ _ _ _ _ _ h.stks]
  simpa using flatMap_stk ss k s j v h.l64 hk hj
theorem range_t64 {w : World} {b o : Nat} {st : List Int} (h : w.rangeAt b o (stk st)) : w.rangeAt b o (t64 st) := by
  intro j v hj
  refine h j v ?_
  rw [stk_t64, List.getElem?_append_left (List.getElem?_eq_some_iff.1 hj).1]
  exact hj
theorem size_a64 : (Tryz.prog.info? 120).map (·.size) = some 64 := by kernel_rfl
theorem size_stk : (Tryz.prog.info? 122).map (·.size) = some 65 := by kernel_rfl

theorem quiet_load_mid {P : Program} {C : World → Prop} {a : Act} {o : Oper} {K : Act → Prop} (ty : TypeId) (x : Operand) (ho : o.op = .load ty x) (b off : Nat) (hx : a.eval x = .pointer (some ⟨b, off, none⟩)) (cs : List Value) (d : TypeDesc)
    (hC : ∀ w, C w → w.rangeAt b off cs) (hu : P.underlying ty = some d) (hd : d.isRow = true) (hi : (P.info? ty).map (·.size) = some cs.length) (hk : K (a.put o.dst (.agg cs.toArray))) : o.quiet P a C K :=
  ⟨_, fun w hw => by
    unfold Oper.quietAt execOp
    simp only [ho, hx, Instr.loadAt, Instr.sureAddr, Sem.run_bind, Sem.run_pure, Result.andThen_ok, run_loadVar_mid w b off ty cs d (hC w hw) hu hd hi]
    exact ⟨rfl, rfl⟩, hk⟩
theorem range_drewN {W : World} {b off : Nat} {cs : List Value} (h : W.rangeAt b off cs) : ∀ w, (∃ n, w = W.drewN n) → w.rangeAt b off cs := by
  rintro _ ⟨n, rfl⟩ j v hj
  simpa using h j v hj

set_option maxHeartbeats 2000000 in
theorem reach_old (bl br bs n k : Nat) (rs : List Bool) (ss : List (List Int)) (deep : Int) (st : List Int) (w : World) (hl : LookAt bl br bs n rs ss deep w) (hn : n ≤ 4096) (hk : k < n) (hst : st.length ≤ 64) (s0 : List Int)
    (hr : rs[k]? = some true) (hs0 : ss[k]? = some s0) :
    Calls Tryz.prog 63 #[.pointer (some ⟨bl, 0, none⟩), .int .i64 k, .agg (stk st).toArray] w (fun e w' => e = .returned (.bool (decide (s0 = st))) ∧ Below w.heap.size w w') := by
  have cl0 : w.cell? ⟨bl, 0, none⟩ = some (.slice (some ⟨br, 0, none⟩) n n) := cell_of_row _ _ _ _ _ _ hl.look
  have cl1 : w.cell? ⟨bl, 1, none⟩ = some (.slice (some ⟨bs, 0, none⟩) n n) := cell_of_row _ _ _ _ _ _ hl.look
  have cr := hl.row hr
  have cm := hl.many hs0
  have hg0 := range_t64 (hl.range hs0)
  have hl0 := hl.l64 s0 (List.mem_of_getElem? hs0)
  have hblw : bl < w.heap.size := (Array.getElem?_eq_some_iff.1 hl.look).1
  have hbrw : br < w.heap.size := (Array.getElem?_eq_some_iff.1 hl.rows).1
  have hbsw : bs < w.heap.size := (Array.getElem?_eq_some_iff.1 hl.stks).1
  have hk0 : (0 : Int) ≤ (k : Int) := Int.natCast_nonneg _
  have hkn : (k : Int) < (n : Int) := by omega
  have hu : Tryz.prog.underlying 120 = some (.array 64 3) := by kernel_rfl
  clear hl hr hs0
  go_enter Tryz.func63, Tryz.ntmps63
  go_wp2_with fail
  have c1 : (w.alloc (.cells (stk st).toArray 122)).cell? ⟨bl, 1, none⟩ = some (.slice (some ⟨bs, 0, none⟩) n n) := by rw [World.cell?_alloc_lt _ _ _ hblw]; exact cl1
  have c2 : (w.alloc (.cells (stk st).toArray 122)).cell? ⟨bs, k * 65 + 64, none⟩ = some (.int .i64 s0.length) := by rw [World.cell?_alloc_lt _ _ _ hbsw]; exact cm
  have c3 : (w.alloc (.cells (stk st).toArray 122)).cell? ⟨w.heap.size, 64, none⟩ = some (.int .i64 st.length) := by rw [World.cell?_alloc_at _ _ _ _ rfl]; simpa using stk_many hst
  have g1 := World.rangeAt_alloc hg0 (.cells (stk st).toArray 122)
  have g2 : (w.alloc (.cells (stk st).toArray 122)).rangeAt w.heap.size 0 (t64 st) := range_t64 (fun j v hj => by rw [World.cell?_alloc_at _ _ _ _ rfl]; simpa using hj)
  have hB : Below w.heap.size w (w.alloc (.cells (stk st).toArray 122)) := by (repeat' (first | (with_reducible exact Below.refl _ _) | (with_reducible refine below_alloc ?_) | (with_reducible refine below_drew ?_) | (with_reducible refine below_drewN ?_) | (with_reducible refine below_set (by simp; omega) ?_) | (with_reducible refine below_call (by with_reducible assumption) ?_)))
  clear cl0 cl1 cr cm hg0 hblw hbrw hbsw
  generalize hb : w.heap.size = b at c3 g2 ⊢
  generalize w.alloc (.cells (stk st).toArray 122) = W at c1 c2 c3 g1 g2 hB ⊢
  have l0 := t64_len hl0
  have l1 := t64_len hst
  have i0 : (Tryz.prog.info? 120).map (·.size) = some (t64 s0).length := by rw [l0]; exact size_a64
  have i1 : (Tryz.prog.info? 120).map (·.size) = some (t64 st).length := by rw [l1]; exact size_a64
  have he := fun W => eq64 W s0 st hl0 hst
  by_cases hm : s0.length = st.length
  · have hd : ((s0.length : Int) == (st.length : Int)) = true := by simp [hm]
    have hdd : decide (s0 = st) = decide (pad s0 = pad st) := by
      rw [decide_eq_decide]
      exact ⟨fun h => by rw [h], fun h => pad_inj hm h⟩
    have HD := Lib.hid hdd
    clear hm hdd hn hk hst hl0
    refine wp_region_quiet_lit (by kernel_rfl) (by kernel_rfl) ?_
    iterate 19 go_big_quiet_step (fail)
    go_big_quiet_want
    refine quiet_load_mid 120 _ rfl bs (k * 65) rfl (t64 s0) _ (range_drewN g1) hu rfl i0 ?_
    simp only [Act.put, List.setIfInBounds_toArray, List.set_cons_zero, List.set_cons_succ]
    go_big_quiet_on
    go_big_quiet_step (fail)
    go_big_quiet_want
    refine quiet_load_mid 120 _ rfl b 0 rfl (t64 st) _ (range_drewN g2) hu rfl i1 ?_
    simp only [Act.put, List.setIfInBounds_toArray, List.set_cons_zero, List.set_cons_succ]
    go_big_quiet_on
    repeat go_big_quiet_step (fail)
    refine wpQuiet_nil ?_
    intro _ hw'
    obtain ⟨nq, hw''⟩ := hw'
    subst hw''
    go_wp2
    go_ret
    exact ⟨ret_b HD.out.symm, below_drewN hB⟩
  · have hd : ((s0.length : Int) == (st.length : Int)) = false := by simp; omega
    have HD := Lib.hid (show decide (s0 = st) = false from by
      rw [decide_eq_false_iff_not]
      exact fun h => hm (by rw [h]))
    clear hm hn hk hst hl0
    go_quiet (fail)
    go_wp2
    go_ret
    exact ⟨ret_b HD.out.symm, below_drewN hB⟩

theorem encB_set (rs : List Bool) (k : Nat) (b : Bool) : (rs.set k b).flatMap encB = (rs.flatMap encB).set k (.bool b) := by
  have h : ∀ l : List Bool, l.flatMap encB = l.map Value.bool := by
    intro l
    induction l with
    | nil => rfl
    | cons x l ih => rw [List.flatMap_cons, ih]; rfl
  rw [h, h, List.map_set]
/-- A take whose slot is told. -/
theorem take_at {P : Program} {ops : Array Oper} {Q : Exit → Act → World → Prop} {md : Region.Mode} {S : World → Prop} {i : Nat} {oi : Oper} {v : Value} {fuel : Nat} {listed : Array Bool} {a : Act} {w : World} (d : Option Tmp) (hi : ops[i]? = some oi) (hd : oi.dst = d)
    (hs : Region.noSelect ops = true) (hf : Region.free md ops listed i = true) (hr : (Region.ready md ops listed).contains i = true)
    (hQ : ∀ c a w, Q (.panic c) (a.put d v) w → Q (.panic c) a w) (hy : YieldsIf P ops S oi v a) (hS : S w)
    (h : wpAnyH P md ops Q S fuel (listed.setIfInBounds i true) (a.put d v) w) : wpAnyH P md ops Q S (fuel + 1) listed a w := by
  subst hd
  exact wpAnyH_take hi hs hf hr hQ hy hS h
theorem yields_mid {P : Program} {w : World} {a : Act} {o : Oper} (ty : TypeId) (x : Operand) (ho : o.op = .load ty x) (b off : Nat) (hx : a.eval x = .pointer (some ⟨b, off, none⟩)) (cs : List Value) (d : TypeDesc)
    (hc : w.rangeAt b off cs) (hu : P.underlying ty = some d) (hd : d.isRow = true) (hi : (P.info? ty).map (·.size) = some cs.length) : (execOp a.eval o).run P w = .ok (.value (.agg cs.toArray)) w := by
  unfold execOp
  simp only [ho, hx, Instr.loadAt, Instr.sureAddr, Sem.run_bind, Sem.run_pure, Result.andThen_ok, run_loadVar_mid w b off ty cs d hc hu hd hi]
set_option maxHeartbeats 2000000 in
theorem reach_new (bl br bs n k : Nat) (rs : List Bool) (ss : List (List Int)) (deep : Int) (st : List Int) (w : World) (hl : LookAt bl br bs n rs ss deep w) (hn : n ≤ 4096) (hk : k < n) (hst : st.length ≤ 64)
    (hr : rs[k]? = some false) :
    Calls Tryz.prog 63 #[.pointer (some ⟨bl, 0, none⟩), .int .i64 k, .agg (stk st).toArray] w (fun e w' => e = .returned (.bool true) ∧ Chg2 br bs w w' ∧ LookAt bl br bs n (rs.set k true) (ss.set k st) deep w') := by
  have cl0 : w.cell? ⟨bl, 0, none⟩ = some (.slice (some ⟨br, 0, none⟩) n n) := cell_of_row _ _ _ _ _ _ hl.look
  have cl1 : w.cell? ⟨bl, 1, none⟩ = some (.slice (some ⟨bs, 0, none⟩) n n) := cell_of_row _ _ _ _ _ _ hl.look
  have cr := hl.row hr
  have hblw : bl < w.heap.size := (Array.getElem?_eq_some_iff.1 hl.look).1
  have hbrw : br < w.heap.size := (Array.getElem?_eq_some_iff.1 hl.rows).1
  have hbsw : bs < w.heap.size := (Array.getElem?_eq_some_iff.1 hl.stks).1
  have hk0 : (0 : Int) ≤ (k : Int) := Int.natCast_nonneg _
  have hkn : (k : Int) < (n : Int) := by omega
  have HL := Lib.hid hl
  clear hl hr
  go_enter Tryz.func63, Tryz.ntmps63
  go_wp2_with fail
  have c0 : (w.alloc (.cells (stk st).toArray 122)).cell? ⟨bl, 0, none⟩ = some (.slice (some ⟨br, 0, none⟩) n n) := by rw [World.cell?_alloc_lt _ _ _ hblw]; exact cl0
  have c1 : (w.alloc (.cells (stk st).toArray 122)).cell? ⟨bl, 1, none⟩ = some (.slice (some ⟨bs, 0, none⟩) n n) := by rw [World.cell?_alloc_lt _ _ _ hblw]; exact cl1
  have c2 : (w.alloc (.cells (stk st).toArray 122)).cell? ⟨br, k, none⟩ = some (.bool false) := by rw [World.cell?_alloc_lt _ _ _ hbrw]; exact cr
  have g2 : (w.alloc (.cells (stk st).toArray 122)).rangeAt w.heap.size 0 (stk st) := fun j v hj => by rw [World.cell?_alloc_at _ _ _ _ rfl]; simpa using hj
  have hLW : LookAt bl br bs n rs ss deep (w.alloc (.cells (stk st).toArray 122)) :=
    ⟨hp_alloc HL.out.look, hp_alloc HL.out.rows, hp_alloc HL.out.stks, HL.out.lr, HL.out.ls, HL.out.l64, HL.out.lr', HL.out.ls', HL.out.rs'⟩
  have hB : Below w.heap.size w (w.alloc (.cells (stk st).toArray 122)) := by (repeat' (first | (with_reducible exact Below.refl _ _) | (with_reducible refine below_alloc ?_) | (with_reducible refine below_drew ?_) | (with_reducible refine below_drewN ?_) | (with_reducible refine below_set (by simp; omega) ?_) | (with_reducible refine below_call (by with_reducible assumption) ?_)))
  clear cl0 cl1 cr
  have hne1 : br ≠ bl := fun e => HL.out.lr' e.symm
  have hne2 : bs ≠ bl := fun e => HL.out.ls' e.symm
  have hne3 : br ≠ w.heap.size := by omega
  have hne4 : bs ≠ w.heap.size := by omega
  generalize hb : w.heap.size = b at g2 hne3 hne4 ⊢
  generalize w.alloc (.cells (stk st).toArray 122) = W at c0 c1 c2 g2 hLW hB ⊢
  have f2 : W.frozen? ⟨br, k, none⟩ = false := free_of hLW.rows
  have HLW := Lib.hid hLW
  have l1 := stk_len hst
  have i1 : (Tryz.prog.info? 122).map (·.size) = some (stk st).length := by rw [l1]; exact size_stk
  have HST := Lib.hid hst
  clear hLW hst HL hblw hbrw hbsw
  refine wp_region_held_drew (S := fun W' => W'.cell? ⟨bl, 0, none⟩ = some (.slice (some ⟨br, 0, none⟩) n n) ∧ W'.cell? ⟨bl, 1, none⟩ = some (.slice (some ⟨bs, 0, none⟩) n n) ∧ W'.rangeAt b 0 (stk st)) (by kernel_rfl) ?_ (fun hHeld => ?_)
  · simpa using ⟨c0, c1, g2⟩
  (refine take_at (i := 0) (v := ?_) (some 38) rfl (by rfl) (by kernel_rfl) (by kernel_rfl) (by kernel_rfl) (fun _ _ _ h => h) (Or.inl ⟨by rfl, ?_⟩) (by assumption) ?_; rotate_left; (focus ((intro w hSw; (try dsimp only at hSw); go_simp); (try with_reducible rfl))); (simp only [Act.put, List.setIfInBounds_toArray, List.set_cons_zero, List.set_cons_succ]))
  (refine take_at (i := 1) (v := ?_) (some 39) rfl (by rfl) (by kernel_rfl) (by kernel_rfl) (by kernel_rfl) (fun _ _ _ h => h) (Or.inl ⟨by rfl, ?_⟩) (by assumption) ?_; rotate_left; (focus ((intro w hSw; (try dsimp only at hSw); go_simp); (try with_reducible rfl))); (simp only [Act.put, List.setIfInBounds_toArray, List.set_cons_zero, List.set_cons_succ]))
  (refine take_at (i := 2) (v := ?_) (some 40) rfl (by rfl) (by kernel_rfl) (by kernel_rfl) (by kernel_rfl) (fun _ _ _ h => h) (Or.inl ⟨by rfl, ?_⟩) (by assumption) ?_; rotate_left; (focus ((intro w hSw; (try dsimp only at hSw); go_simp); (try with_reducible rfl))); (simp only [Act.put, List.setIfInBounds_toArray, List.set_cons_zero, List.set_cons_succ]))
  (refine take_at (i := 3) (v := ?_) (some 41) rfl (by rfl) (by kernel_rfl) (by kernel_rfl) (by kernel_rfl) (fun _ _ _ h => h) (Or.inl ⟨by rfl, ?_⟩) (by assumption) ?_; rotate_left; (focus ((intro w hSw; (try dsimp only at hSw); go_simp); (try with_reducible rfl))); (simp only [Act.put, List.setIfInBounds_toArray, List.set_cons_zero, List.set_cons_succ]))
  (refine take_at (i := 4) (v := ?_) (some 42) rfl (by rfl) (by kernel_rfl) (by kernel_rfl) (by kernel_rfl) (fun _ _ _ h => h) (Or.inl ⟨by rfl, ?_⟩) (by assumption) ?_; rotate_left; (focus ((intro w hSw; (try dsimp only at hSw); go_simp); (try with_reducible rfl))); (simp only [Act.put, List.setIfInBounds_toArray, List.set_cons_zero, List.set_cons_succ]))
  (refine take_at (i := 5) (v := ?_) (some 43) rfl (by rfl) (by kernel_rfl) (by kernel_rfl) (by kernel_rfl) (fun _ _ _ h => h) (Or.inl ⟨by rfl, ?_⟩) (by assumption) ?_; rotate_left; (focus ((intro w hSw; (try dsimp only at hSw); go_simp); (try with_reducible rfl))); (simp only [Act.put, List.setIfInBounds_toArray, List.set_cons_zero, List.set_cons_succ]))
  (refine take_at (i := 6) (v := ?_) (some 44) rfl (by rfl) (by kernel_rfl) (by kernel_rfl) (by kernel_rfl) (fun _ _ _ h => h) (Or.inl ⟨by rfl, ?_⟩) (by assumption) ?_; rotate_left; (focus ((intro w hSw; (try dsimp only at hSw); go_simp); (try with_reducible rfl))); (simp only [Act.put, List.setIfInBounds_toArray, List.set_cons_zero, List.set_cons_succ]))
  (refine take_at (i := 7) (v := ?_) (some 45) rfl (by rfl) (by kernel_rfl) (by kernel_rfl) (by kernel_rfl) (fun _ _ _ h => h) (Or.inl ⟨by rfl, ?_⟩) (by assumption) ?_; rotate_left; (focus ((intro w hSw; (try dsimp only at hSw); go_simp); (try with_reducible rfl))); (simp only [Act.put, List.setIfInBounds_toArray, List.set_cons_zero, List.set_cons_succ]))
  (refine take_at (i := 8) (v := ?_) (some 46) rfl (by rfl) (by kernel_rfl) (by kernel_rfl) (by kernel_rfl) (fun _ _ _ h => h) (Or.inl ⟨by rfl, ?_⟩) (by assumption) ?_; rotate_left; (focus ((intro w hSw; (try dsimp only at hSw); go_simp); (try with_reducible rfl))); (simp only [Act.put, List.setIfInBounds_toArray, List.set_cons_zero, List.set_cons_succ]))
  (refine take_at (i := 9) (v := ?_) (some 47) rfl (by rfl) (by kernel_rfl) (by kernel_rfl) (by kernel_rfl) (fun _ _ _ h => h) (Or.inl ⟨by rfl, ?_⟩) (by assumption) ?_; rotate_left; (focus ((intro w hSw; (try dsimp only at hSw); go_simp); (try with_reducible rfl))); (simp only [Act.put, List.setIfInBounds_toArray, List.set_cons_zero, List.set_cons_succ]))
  refine take_at (i := 10) (v := ?_) (some 48) rfl (by rfl) (by kernel_rfl) (by kernel_rfl) (by kernel_rfl) (fun _ _ _ h => h) (Or.inl ⟨by rfl, ?_⟩) (by assumption) ?_
  rotate_left
  · intro w hSw
    refine yields_mid 122 (.tmp 5) ?_ b 0 ?_ (stk st) _ hSw.2.2 Tryz.underlying122 rfl i1 <;> rfl
  simp only [Act.put, List.setIfInBounds_toArray, List.set_cons_zero, List.set_cons_succ]
  (refine take_at (i := 11) (v := ?_) (some 49) rfl (by rfl) (by kernel_rfl) (by kernel_rfl) (by kernel_rfl) (fun _ _ _ h => h) (Or.inl ⟨by rfl, ?_⟩) (by assumption) ?_; rotate_left; (focus ((intro w hSw; (try dsimp only at hSw); go_simp); (try with_reducible rfl))); (simp only [Act.put, List.setIfInBounds_toArray, List.set_cons_zero, List.set_cons_succ]))
  (refine wpAnyH_ready (rs := [12]) (by kernel_rfl) (by simp) ?_; refine AllReadyH.cons (by rfl) (fun K hK => ?_) AllReadyH.nil)
  go_simp
  refine hK.out _ _ ?_ (fun hHeld2 => ?_)
  · obtain ⟨h1, h2, h3⟩ := hHeld
    have e : ∀ x : Addr, br ≠ x.block → (W.setCell ⟨br, k, none⟩ (.bool true)).drew.cell? x = W.drew.cell? x := fun x hx => by
      simp only [World.cell?_drew]
      exact World.cell?_setCell_far _ _ _ _ hx
    exact ⟨(e _ hne1).trans h1, (e _ hne1).trans h2, fun j v hj => (e _ hne3).trans (h3 j v hj)⟩
  clear hK K
  try simp only [Act.put, List.setIfInBounds_toArray, List.set_cons_zero, List.set_cons_succ]
  (refine take_at (i := 13) (v := ?_) (some 50) rfl (by rfl) (by kernel_rfl) (by kernel_rfl) (by kernel_rfl) (fun _ _ _ h => h) (Or.inl ⟨by rfl, ?_⟩) (by assumption) ?_; rotate_left; (focus ((intro w hSw; (try dsimp only at hSw); go_simp); (try with_reducible rfl))); (simp only [Act.put, List.setIfInBounds_toArray, List.set_cons_zero, List.set_cons_succ]))
  refine wpAnyH_ready (rs := [14]) (by kernel_rfl) (by simp) ?_
  refine AllReadyH.cons (o := ⟨none, .store 122 (.tmp 50) (.tmp 48), _, _, _, none⟩) (by rfl) (fun K hK => ?_) AllReadyH.nil
  rw [if_pos (by rfl)]
  have ht : (W.setCell ⟨br, k, none⟩ (.bool true)).drew.there bs (k * 65) (stk st).toArray.size := by
    rw [List.size_toArray, l1]
    have h1 : (W.setCell ⟨br, k, none⟩ (.bool true)).drew.heap[bs]? = some (.cells (ss.flatMap stk).toArray 122 (0, 0)) := by
      rw [heap_drew, heap_setCell_other W ⟨br, k, none⟩ bs _ (fun e => HLW.out.rs' e.symm)]
      exact HLW.out.stks
    intro j hj
    have hks : k < ss.length := by rw [HLW.out.ls]; exact hk
    have hs0 : ss[k]? = some ss[k] := List.getElem?_eq_getElem hks
    have hl0 := stk_len (HLW.out.l64 _ (List.getElem_mem hks))
    refine ⟨?_, free_of h1⟩
    rw [cell_of_row _ _ _ _ _ _ h1, List.getElem?_toArray, flatMap_stk ss k _ j _ HLW.out.l64 hs0 (List.getElem?_eq_getElem (by omega))]
    rfl
  refine wp_store_mid 122 (.tmp 50) (.tmp 48) rfl bs (k * 65) (stk st).toArray rfl rfl ht (by rw [List.size_toArray]; exact i1) (all_oneCell_toArray (stk_one st)) ?_
  refine hK.out _ _ ?_ (fun hHeld3 => ?_)
  · obtain ⟨h1, h2, h3⟩ := hHeld2
    have e : ∀ x : Addr, bs ≠ x.block → ((W.setCell ⟨br, k, none⟩ (.bool true)).drew.setCells bs (k * 65) (stk st)).cell? x = (W.setCell ⟨br, k, none⟩ (.bool true)).drew.cell? x := fun x hx =>
      World.cell?_setCells_out bs _ _ _ x (fun e => absurd e.symm hx)
    exact ⟨(e _ hne2).trans h1, (e _ hne2).trans h2, fun j v hj => (e _ hne4).trans (h3 j v hj)⟩
  clear hK K
  try simp only [Act.put, List.setIfInBounds_toArray, List.set_cons_zero, List.set_cons_succ]
  refine wpAnyH_done (by kernel_rfl) ?_ _
  go_wp2
  go_ret
  have hr := setCells_rest bs (stk st) (k * 65) (W.setCell ⟨br, k, none⟩ (.bool true)).drew
  have hks : (W.setCell ⟨br, k, none⟩ (.bool true)).drew.heap[bs]? = some (.cells (ss.flatMap stk).toArray 122 (0, 0)) := by
    rw [heap_drew, heap_setCell_other W ⟨br, k, none⟩ bs _ (fun e => HLW.out.rs' e.symm)]
    exact HLW.out.stks
  have hL := HLW.out
  refine ⟨rfl, ⟨hr.1.trans hB.os, hr.2.1.trans hB.tape, hr.2.2.1.trans hB.output, ?_, fun i hi h1 h2 => ?_⟩, ⟨?_, ?_, ?_, by simp [hL.lr], by simp [hL.ls], ?_, hL.lr', hL.ls', hL.rs'⟩⟩
  · rw [hr.2.2.2]
    simp only [heap_drew, World.setCell, Array.size_modify]
    exact hB.size
  · rw [heap_setCells_other bs i h2, heap_drew, heap_setCell_other W ⟨br, k, none⟩ i _ h1]
    exact hB.block i hi
  · rw [heap_setCells_other bs bl hL.ls', heap_drew, heap_setCell_other W ⟨br, k, none⟩ bl _ hL.lr']
    exact hL.look
  · rw [heap_setCells_other bs br hL.rs', heap_drew, heap_setCell_same W br k _ _ _ hL.rows]
    simp [encB_set]
  · rw [← over_stk ss k st hL.l64 HST.out (by rw [hL.ls]; exact hk)]
    exact heap_setCells bs _ _ _ _ _ hks
  · intro s hs
    rcases List.mem_or_eq_of_mem_set hs with h | h
    · exact hL.l64 s h
    · rw [h]; exact HST.out
/-- reach, whole. -/
theorem reach_c (bl br bs n k : Nat) (rs : List Bool) (ss : List (List Int)) (deep : Int) (st : List Int) (w : World) (hl : LookAt bl br bs n rs ss deep w) (hn : n ≤ 4096) (hk : k < n) (hst : st.length ≤ 64) :
    Calls Tryz.prog 63 #[.pointer (some ⟨bl, 0, none⟩), .int .i64 k, .agg (stk st).toArray] w (ReachR bl br bs n deep w (reachS rs ss k st)) := by
  have hr : rs[k]? = some (rs.getD k false) := by
    rw [List.getD_eq_getElem?_getD, List.getElem?_eq_getElem (by rw [hl.lr]; exact hk)]
    rfl
  have hs : ss[k]? = some (ss.getD k []) := by
    rw [List.getD_eq_getElem?_getD, List.getElem?_eq_getElem (by rw [hl.ls]; exact hk)]
    rfl
  unfold reachS
  cases h : rs.getD k false with
  | true =>
    rw [h] at hr
    refine (reach_old bl br bs n k rs ss deep st w hl hn hk hst _ hr hs).mono ?_
    rintro e w1 ⟨rfl, hb⟩
    by_cases he : ss.getD k [] = st
    · rw [if_pos rfl, if_pos he, decide_eq_true he]
      exact .yes ⟨hb.os, hb.tape, hb.output, hb.size, fun i hi _ _ => hb.block i hi⟩
        ⟨hp_below hb hl.look, hp_below hb hl.rows, hp_below hb hl.stks, hl.lr, hl.ls, hl.l64, hl.lr', hl.ls', hl.rs'⟩
    · rw [if_pos rfl, if_neg he, decide_eq_false he]
      exact .no hb
  | false =>
    rw [h] at hr
    refine (reach_new bl br bs n k rs ss deep st w hl hn hk hst hr).mono ?_
    rintro e w1 ⟨rfl, hc, hl'⟩
    rw [if_neg (by simp)]
    exact .yes hc hl'
end Go.Proofs.YtefpgjocfgeenaaGreatDoor
