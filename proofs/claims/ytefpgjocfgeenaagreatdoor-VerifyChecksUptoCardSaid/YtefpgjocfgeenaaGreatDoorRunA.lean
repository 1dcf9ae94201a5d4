/- What verify.run keeps: its blocks, and what each step leaves of them. -/
import Derived.Test.YtefpgjocfgeenaaGreatDoorReach
import Derived.Test.YtefpgjocfgeenaaGreatDoorCheck
import Derived.Laws.MakeOwn
namespace Go.Proofs.YtefpgjocfgeenaaGreatDoor
open Go.RowKit Cap
set_option maxRecDepth 100000

/-! ### make, of rows of one kind -/
theorem madeCells_rows (zs : Array Value) (m n : Nat) (hm : zs.size = m) (h0 : 0 < m) : (madeCells zs (n * m)).toList = (List.replicate n ()).flatMap (fun _ => zs.toList) := by
  have hl := flatMap_len (enc := fun _ : Unit => zs.toList) (k := m) (fun _ => by simpa using hm) (List.replicate n ())
  rw [List.length_replicate] at hl
  apply List.ext_getElem?
  intro j
  by_cases hj : j < n * m
  · have hi : j / m < n := Nat.div_lt_of_lt_mul (by rw [Nat.mul_comm]; exact hj)
    have hmod : j % m < m := Nat.mod_lt _ h0
    have h1 := flatMap_at (enc := fun _ : Unit => zs.toList) (k := m) (fun _ => by simpa using hm) (List.replicate n ()) (j / m) () (j % m) (zs[j % m]'(by omega)) (by simp [hi]) (by simp [hm, hmod])
    rw [show j / m * m + j % m = j from by rw [Nat.mul_comm]; exact Nat.div_add_mod j m] at h1
    rw [h1]
    simp [madeCells, hj, hm, hmod]
  · rw [List.getElem?_eq_none (by rw [Array.length_toList, size_madeCells]; omega), List.getElem?_eq_none (by rw [hl]; omega)]
theorem flat_unit {α : Type} (n : Nat) (f : α → List Value) (a : α) : (List.replicate n ()).flatMap (fun _ => f a) = (List.replicate n a).flatMap f := by
  induction n with
  | zero => rfl
  | succ n ih => simp only [List.replicate_succ, List.flatMap_cons, ih]
theorem info_bool : InfoIs Tryz.prog 4 (.bool false) 1 1 := by unfold InfoIs; kernel_rfl
theorem info_stk : InfoIs Tryz.prog 122 (.agg (stk []).toArray) 65 520 := by unfold InfoIs; kernel_rfl
theorem make_bools (n : Nat) (hn : n ≤ 4096) (W : World) : (Instr.makeSlice 31 (.int .i64 n) (.int .i64 n)).run Tryz.prog W = .ok (.slice (some ⟨W.heap.size, 0, none⟩) n n) (W.alloc (.cells ((List.replicate n false).flatMap encB).toArray 4)) := by
  obtain ⟨i, h1, h2, h3, h4⟩ := info_bool.parts
  have h := run_make (P := Tryz.prog) W 31 4 i (.bool false) Tryz.underlying31 h1 h2 .i64 .i64 n n (by omega) (Int.le_refl _) (by rw [h4]; omega) (by omega)
  rw [h, Int.toNat_natCast, h3]
  have e : madeCells (Value.bool false).cells (n * 1) = ((List.replicate n false).flatMap encB).toArray := by
    apply Array.toList_inj.1
    rw [madeCells_rows _ 1 n rfl (by decide), ← flat_unit n encB false]
    rfl
  rw [e]
theorem make_stks (n : Nat) (hn : n ≤ 4096) (W : World) : (Instr.makeSlice 71 (.int .i64 n) (.int .i64 n)).run Tryz.prog W = .ok (.slice (some ⟨W.heap.size, 0, none⟩) n n) (W.alloc (.cells ((List.replicate n []).flatMap stk).toArray 122)) := by
  obtain ⟨i, h1, h2, h3, h4⟩ := info_stk.parts
  have h := run_make (P := Tryz.prog) W 71 122 i (.agg (stk []).toArray) Tryz.underlying71 h1 h2 .i64 .i64 n n (by omega) (Int.le_refl _) (by rw [h4]; omega) (by omega)
  rw [h, Int.toNat_natCast, h3]
  have e : madeCells (Value.agg (stk []).toArray).cells (n * 65) = ((List.replicate n ([] : List Int)).flatMap stk).toArray := by
    apply Array.toList_inj.1
    rw [madeCells_rows _ 65 n rfl (by decide), ← flat_unit n stk []]
    rfl
  rw [e]

/-! ### The state -/
/-- The image's box B, the look's blocks, and the done row. -/
structure RunSt (w0 : World) (vs : Array Value) (B bl br bs bd n : Nat) (rs : List Bool) (ss : List (List Int)) (deep : Int) (ds : List Bool) (W : World) : Prop where
  below : Below w0.heap.size w0 W
  box : W.heap[B]? = some (.cells vs 26 (0, 0))
  look : LookAt bl br bs n rs ss deep W
  done : W.heap[bd]? = some (.cells (ds.flatMap encB).toArray 4 (0, 0))
  ld : ds.length = n
  gB : w0.heap.size ≤ B
  gl : w0.heap.size ≤ bl
  gr : w0.heap.size ≤ br
  gs : w0.heap.size ≤ bs
  gd : w0.heap.size ≤ bd
  Bl : B ≠ bl
  Br : B ≠ br
  Bs : B ≠ bs
  Bd : B ≠ bd
  dl : bd ≠ bl
  dr : bd ≠ br
  ds' : bd ≠ bs
section
variable {w0 : World} {vs : Array Value} {B bl br bs bd n : Nat} {rs : List Bool} {ss : List (List Int)} {deep : Int} {ds : List Bool} {W W' : World}
/-- A block of none of these. -/
def OffB (w0 : World) (B bl br bs bd b : Nat) : Prop := w0.heap.size ≤ b ∧ b ≠ B ∧ b ≠ bl ∧ b ≠ br ∧ b ≠ bs ∧ b ≠ bd
theorem LookAt.keep (h : LookAt bl br bs n rs ss deep W) (h1 : W'.heap[bl]? = W.heap[bl]?) (h2 : W'.heap[br]? = W.heap[br]?) (h3 : W'.heap[bs]? = W.heap[bs]?) : LookAt bl br bs n rs ss deep W' :=
  ⟨h1.trans h.look, h2.trans h.rows, h3.trans h.stks, h.lr, h.ls, h.l64, h.lr', h.ls', h.rs'⟩
theorem lt_of_blk {b : Nat} {o : Obj} (h : W.heap[b]? = some o) : b < W.heap.size := (Array.getElem?_eq_some_iff.1 h).1
theorem RunSt.lt (h : RunSt w0 vs B bl br bs bd n rs ss deep ds W) : B < W.heap.size ∧ bl < W.heap.size ∧ br < W.heap.size ∧ bs < W.heap.size ∧ bd < W.heap.size :=
  ⟨lt_of_blk h.box, lt_of_blk h.look.look, lt_of_blk h.look.rows, lt_of_blk h.look.stks, lt_of_blk h.done⟩
/-- All but block b stands. -/
theorem RunSt.chg (h : RunSt w0 vs B bl br bs bd n rs ss deep ds W) {b : Nat} (k : Chg b W W') (hb : w0.heap.size ≤ b) (h1 : b ≠ B) (h2 : b ≠ bl) (h3 : b ≠ br) (h4 : b ≠ bs) (h5 : b ≠ bd) : RunSt w0 vs B bl br bs bd n rs ss deep ds W' := by
  obtain ⟨l1, l2, l3, l4, l5⟩ := h.lt
  exact { h with
    below := k.below h.below hb
    box := (k.block B l1 h1.symm).trans h.box
    look := h.look.keep (k.block bl l2 h2.symm) (k.block br l3 h3.symm) (k.block bs l4 h4.symm)
    done := (k.block bd l5 h5.symm).trans h.done }
theorem RunSt.call (h : RunSt w0 vs B bl br bs bd n rs ss deep ds W) (k : Below W.heap.size W W') : RunSt w0 vs B bl br bs bd n rs ss deep ds W' := by
  obtain ⟨l1, l2, l3, l4, l5⟩ := h.lt
  exact { h with
    below := h.below.trans ⟨k.os, k.tape, k.output, k.size, fun i hi => k.block i (Nat.lt_of_lt_of_le hi h.below.size)⟩
    box := (k.block B l1).trans h.box
    look := h.look.keep (k.block bl l2) (k.block br l3) (k.block bs l4)
    done := (k.block bd l5).trans h.done }
theorem RunSt.alloc (h : RunSt w0 vs B bl br bs bd n rs ss deep ds W) (o : Obj) : RunSt w0 vs B bl br bs bd n rs ss deep ds (W.alloc o) := h.call (below_alloc (Below.refl _ _))
theorem RunSt.drew (h : RunSt w0 vs B bl br bs bd n rs ss deep ds W) : RunSt w0 vs B bl br bs bd n rs ss deep ds W.drew := h.call (below_drew (Below.refl _ _))
theorem RunSt.setDone (h : RunSt w0 vs B bl br bs bd n rs ss deep ds W) (k : Nat) : RunSt w0 vs B bl br bs bd n rs ss deep (ds.set k true) (W.setCell ⟨bd, k, none⟩ (.bool true)) := by
  have e := fun i (hi : i ≠ bd) => heap_setCell_other W ⟨bd, k, none⟩ i (.bool true) hi
  exact { h with
    below := h.below.setCell h.gd _
    box := (e B h.Bd).trans h.box
    look := h.look.keep (e bl h.dl.symm) (e br h.dr.symm) (e bs h.ds'.symm)
    done := by
      rw [heap_setCell_same W bd k _ _ _ h.done, encB_set]
      simp
    ld := by simp [h.ld] }
theorem RunSt.setDeep (h : RunSt w0 vs B bl br bs bd n rs ss deep ds W) (d : Int) : RunSt w0 vs B bl br bs bd n rs ss d ds (W.setCell ⟨bl, 2, none⟩ (.int .i64 d)) := by
  have e := fun i (hi : i ≠ bl) => heap_setCell_other W ⟨bl, 2, none⟩ i (.int .i64 d) hi
  exact { h with
    below := h.below.setCell h.gl _
    box := (e B h.Bl).trans h.box
    look := ⟨by rw [heap_setCell_same W bl 2 _ _ _ h.look.look]; rfl, (e br h.look.lr'.symm).trans h.look.rows, (e bs h.look.ls'.symm).trans h.look.stks, h.look.lr, h.look.ls, h.look.l64, h.look.lr', h.look.ls', h.look.rs'⟩
    done := (e bd h.dl).trans h.done }
theorem RunSt.reach (h : RunSt w0 vs B bl br bs bd n rs ss deep ds W) (k : Chg2 br bs W W') {rs' : List Bool} {ss' : List (List Int)} (hl : LookAt bl br bs n rs' ss' deep W') : RunSt w0 vs B bl br bs bd n rs' ss' deep ds W' := by
  obtain ⟨l1, l2, l3, l4, l5⟩ := h.lt
  exact { h with
    below := ⟨k.os.trans h.below.os, k.tape.trans h.below.tape, k.output.trans h.below.output, Nat.le_trans h.below.size k.size, fun i hi => (k.block i (Nat.lt_of_lt_of_le hi h.below.size) (by have := h.gr; omega) (by have := h.gs; omega)).trans (h.below.block i hi)⟩
    box := (k.block B l1 h.Br h.Bs).trans h.box
    look := hl
    done := (k.block bd l5 h.dr h.ds').trans h.done }
theorem RunSt.d (h : RunSt w0 vs B bl br bs bd n rs ss deep ds W) {k : Nat} (hk : k < n) : W.cell? ⟨bd, k, none⟩ = some (.bool (ds.getD k false)) := by
  have hl := h.ld
  have hs : ds[k]? = some (ds.getD k false) := by
    rw [List.getD_eq_getElem?_getD, List.getElem?_eq_getElem (by omega)]
    rfl
  rw [cell_of_row _ _ _ _ _ _ h.done]
  have := flatMap_at (enc := encB) (k := 1) (fun _ => rfl) ds k _ 0 _ hs rfl
  simpa using this
theorem RunSt.r (h : RunSt w0 vs B bl br bs bd n rs ss deep ds W) {k : Nat} (hk : k < n) : W.cell? ⟨br, k, none⟩ = some (.bool (rs.getD k false)) := by
  have hl := h.look.lr
  refine h.look.row ?_
  rw [List.getD_eq_getElem?_getD, List.getElem?_eq_getElem (by omega)]
  rfl
theorem RunSt.s (h : RunSt w0 vs B bl br bs bd n rs ss deep ds W) {k : Nat} (hk : k < n) : ss[k]? = some (ss.getD k []) := by
  have hl := h.look.ls
  rw [List.getD_eq_getElem?_getD, List.getElem?_eq_getElem (by omega)]
  rfl
theorem RunSt.cl (h : RunSt w0 vs B bl br bs bd n rs ss deep ds W) : W.cell? ⟨bl, 0, none⟩ = some (.slice (some ⟨br, 0, none⟩) n n) ∧ W.cell? ⟨bl, 1, none⟩ = some (.slice (some ⟨bs, 0, none⟩) n n) ∧ W.cell? ⟨bl, 2, none⟩ = some (.int .i64 deep) :=
  ⟨cell_of_row _ _ _ _ _ _ h.look.look, cell_of_row _ _ _ _ _ _ h.look.look, cell_of_row _ _ _ _ _ _ h.look.look⟩
end

/-! ### The look, made -/
theorem look_made (W : World) (n : Nat) :
    LookAt (W.heap.size + 1 + 1) W.heap.size (W.heap.size + 1) n (List.replicate n false) (List.replicate n []) 0
      ((((W.alloc (.cells ((List.replicate n false).flatMap encB).toArray 4)).alloc (.cells ((List.replicate n []).flatMap stk).toArray 122)).alloc
        (.cells #[.slice (some ⟨W.heap.size, 0, none⟩) n n, .slice (some ⟨W.heap.size + 1, 0, none⟩) n n, .int .i64 0] 73)).drew) := by
  refine ⟨?_, ?_, ?_, by simp, by simp, ?_, by omega, by omega, by omega⟩
  · have h := heap_alloc_new ((W.alloc (.cells ((List.replicate n false).flatMap encB).toArray 4)).alloc (.cells ((List.replicate n []).flatMap stk).toArray 122)) (.cells #[.slice (some ⟨W.heap.size, 0, none⟩) n n, .slice (some ⟨W.heap.size + 1, 0, none⟩) n n, .int .i64 0] 73)
    rw [heap_drew]
    simpa using h
  · rw [heap_drew, heap_alloc_old _ _ (by simp; omega), heap_alloc_old _ _ (by simp)]
    exact heap_alloc_new W _
  · rw [heap_drew, heap_alloc_old _ _ (by simp)]
    have h := heap_alloc_new (W.alloc (.cells ((List.replicate n false).flatMap encB).toArray 4)) (.cells ((List.replicate n []).flatMap stk).toArray 122)
    simpa using h
  · intro s hs
    rw [(List.mem_replicate.1 hs).2]
    exact Nat.zero_le _
theorem look_made2 (W : World) (n : Nat) :
    LookAt (W.heap.size + 1 + 1) (W.heap.size + 1) W.heap.size n (List.replicate n false) (List.replicate n []) 0
      ((((W.alloc (.cells ((List.replicate n []).flatMap stk).toArray 122)).alloc (.cells ((List.replicate n false).flatMap encB).toArray 4)).alloc
        (.cells #[.slice (some ⟨W.heap.size + 1, 0, none⟩) n n, .slice (some ⟨W.heap.size, 0, none⟩) n n, .int .i64 0] 73)).drew) := by
  refine ⟨?_, ?_, ?_, by simp, by simp, ?_, by omega, by omega, by omega⟩
  · have h := heap_alloc_new ((W.alloc (.cells ((List.replicate n []).flatMap stk).toArray 122)).alloc (.cells ((List.replicate n false).flatMap encB).toArray 4)) (.cells #[.slice (some ⟨W.heap.size + 1, 0, none⟩) n n, .slice (some ⟨W.heap.size, 0, none⟩) n n, .int .i64 0] 73)
    rw [heap_drew]
    simpa using h
  · rw [heap_drew, heap_alloc_old _ _ (by simp)]
    have h := heap_alloc_new (W.alloc (.cells ((List.replicate n []).flatMap stk).toArray 122)) (.cells ((List.replicate n false).flatMap encB).toArray 4)
    simpa using h
  · rw [heap_drew, heap_alloc_old _ _ (by simp; omega), heap_alloc_old _ _ (by simp)]
    exact heap_alloc_new W _
  · intro s hs
    rw [(List.mem_replicate.1 hs).2]
    exact Nat.zero_le _
theorem reach_yes (bl br bs n k : Nat) (rs : List Bool) (ss : List (List Int)) (deep : Int) (st : List Int) (w : World) (rs' : List Bool) (ss' : List (List Int)) (hr : reachS rs ss k st = some (rs', ss')) (hl : LookAt bl br bs n rs ss deep w) (hn : n ≤ 4096) (hk : k < n) (hst : st.length ≤ 64) :
    Calls Tryz.prog 63 #[.pointer (some ⟨bl, 0, none⟩), .int .i64 k, .agg (stk st).toArray] w (fun e w' => e = .returned (.bool true) ∧ Chg2 br bs w w' ∧ LookAt bl br bs n rs' ss' deep w') := by
  refine (reach_c bl br bs n k rs ss deep st w hl hn hk hst).mono ?_
  rw [hr]
  rintro e w' (⟨⟩ | ⟨h, hl⟩)
  exact ⟨rfl, h, hl⟩
theorem reach_not (bl br bs n k : Nat) (rs : List Bool) (ss : List (List Int)) (deep : Int) (st : List Int) (w : World) (hr : reachS rs ss k st = none) (hl : LookAt bl br bs n rs ss deep w) (hn : n ≤ 4096) (hk : k < n) (hst : st.length ≤ 64) :
    Calls Tryz.prog 63 #[.pointer (some ⟨bl, 0, none⟩), .int .i64 k, .agg (stk st).toArray] w (fun e w' => e = .returned (.bool false) ∧ Below w.heap.size w w') := by
  refine (reach_c bl br bs n k rs ss deep st w hl hn hk hst).mono ?_
  rw [hr]
  rintro e w' (⟨h⟩ | ⟨⟩)
  exact ⟨rfl, h⟩
theorem set_none (n : Nat) : (List.replicate n ([] : List Int)).set 0 [] = List.replicate n [] := by
  cases n with
  | zero => rfl
  | succ n => rfl
theorem reach_first (n : Nat) (hn : 1 ≤ n) : reachS (List.replicate n false) (List.replicate n []) 0 [] = some ((List.replicate n false).set 0 true, List.replicate n []) := by
  obtain ⟨m, rfl⟩ : ∃ m, n = m + 1 := ⟨n - 1, by omega⟩
  rfl
/-- A whole row into the block that was made last. -/
theorem wpList_store_new {P : Program} {ops : Array Oper} {rest : List Oper} {op : Oper} {a : Act} {w : World} {Q : Exit → Act → World → Prop} (hgd : op.guard = none) (ty : TypeId) (x y : Operand) (ho : op.op = .store ty x y)
    (b : Nat) (hb : b = w.heap.size) (hx : a.eval x = .pointer (some ⟨b, 0, none⟩)) (c c' : Array Value) (hy : a.eval y = .agg c') (hi : (P.info? ty).map (·.size) = some c'.size) (hs : c.size = c'.size) (h1 : c'.all (·.oneCell') = true)
    (h : wpList P ops Q rest (a.put op.dst undef) (w.alloc (.cells c' ty))) : wpList P ops Q (op :: rest) a (w.alloc (.cells c ty)) := by
  subst hb
  refine wpList_plain hgd fun K hK => ?_
  unfold Oper.wp execOp
  simp only [ho, hx, hy, Instr.storeAt, Instr.sureAddr, Sem.run_bind, Sem.run_pure, Result.andThen_ok, run_storeVar_new w ty c c' hi hs h1]
  exact hK _ _ h
theorem zero_stk : ∀ w, (zeroValue 122).run Tryz.prog w = .ok (.agg (stk []).toArray) w :=
  (zero_of_info (n := 65) (by kernel_rfl)).1

/-- The places to go on to, as they lie. -/
def TosAt (A : Option Addr) (tos : List Int) (br bs : Nat) (W : World) : Prop := ∀ i x, tos[i]? = some x → ∃ bq off, A = some ⟨bq, off, none⟩ ∧ bq < W.heap.size ∧ bq ≠ br ∧ bq ≠ bs ∧ W.cell? ⟨bq, off + i, none⟩ = some (.int .i64 x)
theorem TosAt.mk {A : Option Addr} {c : Nat} {tos : List Int} {br bs : Nat} {W W' : World} (h : Sl encI 1 W' (.slice A tos.length c) tos) (hf : ∀ B n c' a, Value.slice A tos.length c = .slice B n c' → B = some a → W.heap.size ≤ a.block) (h1 : br < W.heap.size) (h2 : bs < W.heap.size) : TosAt A tos br bs W' := by
  intro i x hx
  obtain ⟨A', c', e, -, -, h3⟩ := h
  injection e with e1 e2 e3
  subst e1
  obtain ⟨bq, off, rfl, hlt, hc⟩ := h3 i x hx
  have := hf _ _ _ _ rfl rfl
  have h4 : W.heap.size ≤ bq := this
  exact ⟨bq, off, rfl, hlt, by omega, by omega, by simpa using hc 0 _ rfl⟩
theorem TosAt.chg {A : Option Addr} {tos : List Int} {br bs : Nat} {W W' : World} (h : TosAt A tos br bs W) (k : Chg2 br bs W W') : TosAt A tos br bs W' := by
  intro i x hx
  obtain ⟨bq, off, rfl, hlt, h1, h2, hc⟩ := h i x hx
  exact ⟨bq, off, rfl, Nat.lt_of_lt_of_le hlt k.size, h1, h2, (World.cell?_of_block (a := ⟨bq, off + i, none⟩) (k.block bq hlt h1 h2)).trans hc⟩
theorem TosAt.call {A : Option Addr} {tos : List Int} {br bs : Nat} {W W' : World} (h : TosAt A tos br bs W) (k : Below W.heap.size W W') : TosAt A tos br bs W' :=
  h.chg ⟨k.os, k.tape, k.output, k.size, fun i hi _ _ => k.block i hi⟩
end Go.Proofs.YtefpgjocfgeenaaGreatDoor
