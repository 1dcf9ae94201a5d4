/- capstanbook.CopyImage: an image of its own. -/
import Derived.Test.YtefpgjocfgeenaaGreatDoorDist
import Derived.Test.YtefpgjocfgeenaaGreatDoorLaw15
import Derived.Deep.MidRow
namespace Go.Proofs.YtefpgjocfgeenaaGreatDoor
open Go.RowKit Cap
set_option maxRecDepth 100000

/-- An empty literal, wherever it lies. -/
def LitAt (base : Nat) (T : TypeId) (w : World) (v : Value) : Prop := ∃ B, v = .slice (some ⟨B, 0, none⟩) 0 0 ∧ base ≤ B ∧ w.heap[B]? = some (.cells #[] T (0, 0))
theorem LitAt.below {base : Nat} {T : TypeId} {w w' : World} {v : Value} (h : LitAt base T w v) (hb : Below w.heap.size w w') : LitAt base T w' v := by
  obtain ⟨B, rfl, h1, h2⟩ := h
  have hlt : B < w.heap.size := (Array.getElem?_eq_some_iff.1 h2).1
  exact ⟨B, rfl, h1, (hb.block B hlt).trans h2⟩
section
variable {P : Program} {α : Type}
/-- 'append([]T{}, src...)': a row of the call's own; nothing that was there turns. -/
theorem run_lit_app (w : World) (base : Nat) (t ty e : TypeId) (z : Value) (k bytes : Nat) (ht : P.underlying t = some (.slice e)) (hi : InfoIs P e z k bytes) (hzs : z.cells.size = k) (hsz : 0 < k)
    (v : Value) (hv : LitAt base e w v) (enc : α → List Value) (hk : ∀ x, (enc x).length = k) (h1 : ∀ x, ∀ u ∈ enc x, u.oneCell' = true) (x : Value) (ys : List α) (hs : Sl enc k w x ys)
    (h63 : ys.length ≤ maxLen) (hbytes : ys.length * bytes ≤ 140737488355328) :
    ∃ v' w', (Builtin.append_ #[t, t] ty #[v, x]).run P w = .ok v' w' ∧ w'.ownsRow base e k v' ys.length (ys.flatMap enc) ∧ Below w.heap.size w w' := by
  obtain ⟨B, rfl, hB, hcell⟩ := hv
  have hlt : B < w.heap.size := (Array.getElem?_eq_some_iff.1 hcell).1
  have hown : w.ownsRow base e k (.slice (some ⟨B, 0, none⟩) 0 0) 0 [] := ⟨by simp, .inr ⟨B, 0, #[], rfl, hB, hcell, Nat.le_refl _, by decide, by simp, by simp⟩⟩
  obtain ⟨v', w', hr, ho, hg⟩ := run_own_app (P := P) w base t ty e z k bytes ht hi hzs hsz _ 0 [] hown enc hk h1 x ys hs (by simpa using h63) (by simpa using hbytes) (by omega)
  refine ⟨v', w', hr, by simpa using ho, ?_⟩
  obtain ⟨i, hi1, hi2, hi3, hi4⟩ := hi.parts
  have hlen := flatMap_len hk ys
  have hs' := hs
  obtain ⟨A, c, rfl, h2, h3, _⟩ := hs
  rcases Nat.eq_zero_or_pos ys.length with h0 | h0
  · obtain rfl : ys = [] := List.eq_nil_of_length_eq_zero h0
    have hsrc : Src P i.size t (.slice A 0 c) 0 [] w := by
      cases A with
      | none => exact Src.ofNil w ht c
      | some a => exact Src.ofSlice w ht a 0 c [] (by simp) (by simp) (by simp)
    have hr' := run_append_nothing (P := P) w t t ty e i ht hi1 (some ⟨B, 0, none⟩) 0 0 (Nat.le_refl _) _ hsrc
    have hr2 := hr.symm.trans hr'
    injection hr2 with _ hw
    subst hw
    exact Below.refl _ _
  · obtain ⟨a, rfl, hcs⟩ := Sl.src hk hs' h0
    have hsrc : Src P i.size t (.slice (some a) ys.length c) ys.length (ys.flatMap enc) w := Src.ofSlice w ht a _ c _ (by rw [hlen, hi3]) hcs (fun u hu => by
      obtain ⟨y, _, hy⟩ := List.mem_flatMap.1 hu
      exact h1 y u hy)
    have hr' := run_append_grow_src (P := P) w t t ty e i z ht hi1 hi2 (some ⟨B, 0, none⟩) 0 0 [] (run_firstCells_some w.drew i.size 0 ⟨B, 0, none⟩ 0 0 [] (by simp) (by simp)) _ _ _ hsrc (by omega) (by unfold maxLen at h63; omega) (growslice_fits (by omega) (by rw [hi4]; simpa using hbytes))
    have hr2 := hr.symm.trans hr'
    injection hr2 with _ hw
    subst hw
    exact below_alloc (below_drew (Below.refl _ _))
/-- .. at the operation. -/
theorem wp_lit_app {o : Oper} {a : Act} {K : Act → World → Prop} {Q : Exit → Act → World → Prop} (w : World) (s x : Operand) (t : TypeId)
    (ho : o.op = .call { callee := .builtin .append, args := #[s, x], argTypes := #[t, t] })
    (base : Nat) (e : TypeId) (z : Value) (k bytes : Nat) (ht : P.underlying t = some (.slice e)) (hi : InfoIs P e z k bytes) (hzs : z.cells.size = k) (hsz : 0 < k)
    (enc : α → List Value) (hk : ∀ x, (enc x).length = k) (h1 : ∀ x, ∀ u ∈ enc x, u.oneCell' = true)
    (hs : LitAt base e w (a.eval s)) (ys : List α) (hsl : Sl enc k w (a.eval x) ys)
    (h63 : ys.length ≤ maxLen) (hbytes : ys.length * bytes ≤ 140737488355328)
    (h : ∀ v' w', w'.ownsRow base e k v' ys.length (ys.flatMap enc) → Below w.heap.size w w' → K (a.put o.dst v') w') : o.wp P a w K Q := by
  obtain ⟨v', w', hr, h2, h3⟩ := run_lit_app (P := P) w base t o.type e z k bytes ht hi hzs hsz _ hs enc hk h1 _ ys hsl h63 hbytes
  unfold Oper.wp execOp
  simp only [ho, resolve, invoke, builtin, Sem.run_bind, Sem.run_pure, Result.andThen_ok, List.map_toArray, List.map_cons, List.map_nil, hr]
  exact h _ _ h2 h3
end
theorem info_i64 : InfoIs Tryz.prog 2 (.int .i64 0) 1 8 := by unfold InfoIs; kernel_rfl
theorem info_ins' : InfoIs Tryz.prog 80 (.agg #[.int .i64 0, .int .i64 0, .int .i64 0, .int .i64 0]) 4 32 := by unfold InfoIs; kernel_rfl
theorem one_Ins' (x : Ins) : ∀ u ∈ encIns x, u.oneCell' = true := by
  intro u hu
  simp [encIns] at hu
  rcases hu with rfl | rfl | rfl | rfl <;> rfl
/-- An image of the call's own. -/
def ImgO (base : Nat) (w : World) (v : Value) (x : Img) : Prop := ∃ vt vf vi vo vc, v = .agg #[.string x.name, vt, vf, vi, vo, vc] ∧
  w.ownsRow base 3 1 vt x.types.length (x.types.flatMap encI) ∧ w.ownsRow base 2 1 vf x.first.length (x.first.flatMap encI) ∧ w.ownsRow base 3 1 vi x.ins.length (x.ins.flatMap encI) ∧
  w.ownsRow base 3 1 vo x.outs.length (x.outs.flatMap encI) ∧ w.ownsRow base 80 4 vc x.code.length (x.code.flatMap encIns)
theorem ImgO.img {base : Nat} {w : World} {v : Value} {x : Img} (h : ImgO base w v x) : ImgV w v x := by
  obtain ⟨vt, vf, vi, vo, vc, rfl, h1, h2, h3, h4, h5⟩ := h
  exact ⟨vt, vf, vi, vo, vc, rfl, Sl.own encI_len h1 rfl, Sl.own encI_len h2 rfl, Sl.own encI_len h3 rfl, Sl.own encI_len h4 rfl, Sl.own encIns_len h5 rfl⟩
/-- So long may an image's parts be that it is copied. -/
structure CopyOk (x : Img) : Prop where
  t : x.types.length * 8 ≤ 140737488355328
  f : x.first.length * 8 ≤ 140737488355328
  i : x.ins.length * 8 ≤ 140737488355328
  o : x.outs.length * 8 ≤ 140737488355328
  c : x.code.length * 32 ≤ 140737488355328
/-- What each operation of the copy leaves. -/
def copyF (x : Img) (bx base : Nat) (vt vf vi vo vc : Value) : Nat → Value → World → Prop
  | 0, v, _ => v = .pointer (some ⟨bx, 0, none⟩)
  | 1, v, _ => v = .string x.name
  | 2, v, w => LitAt base 3 w v
  | 3, v, _ => v = .pointer (some ⟨bx, 1, none⟩)
  | 4, v, _ => v = vt
  | 5, v, w => w.ownsRow base 3 1 v x.types.length (x.types.flatMap encI)
  | 6, v, w => LitAt base 2 w v
  | 7, v, _ => v = .pointer (some ⟨bx, 2, none⟩)
  | 8, v, _ => v = vf
  | 9, v, w => w.ownsRow base 2 1 v x.first.length (x.first.flatMap encI)
  | 10, v, w => LitAt base 3 w v
  | 11, v, _ => v = .pointer (some ⟨bx, 3, none⟩)
  | 12, v, _ => v = vi
  | 13, v, w => w.ownsRow base 3 1 v x.ins.length (x.ins.flatMap encI)
  | 14, v, w => LitAt base 3 w v
  | 15, v, _ => v = .pointer (some ⟨bx, 4, none⟩)
  | 16, v, _ => v = vo
  | 17, v, w => w.ownsRow base 3 1 v x.outs.length (x.outs.flatMap encI)
  | 18, v, w => LitAt base 80 w v
  | 19, v, _ => v = .pointer (some ⟨bx, 5, none⟩)
  | 20, v, _ => v = vc
  | 21, v, w => w.ownsRow base 80 4 v x.code.length (x.code.flatMap encIns)
  | 22, v, w => ImgO base w v x
  | _, _, _ => True
theorem ImgO.below {base : Nat} {w w' : World} {v : Value} {x : Img} (h : ImgO base w v x) (hb : Below w.heap.size w w') : ImgO base w' v x := by
  obtain ⟨vt, vf, vi, vo, vc, rfl, h1, h2, h3, h4, h5⟩ := h
  exact ⟨vt, vf, vi, vo, vc, rfl, own_below h1 hb, own_below h2 hb, own_below h3 hb, own_below h4 hb, own_below h5 hb⟩
theorem copyF.below {x : Img} {bx base : Nat} {vt vf vi vo vc : Value} {i : Nat} {v : Value} {w w' : World} (h : copyF x bx base vt vf vi vo vc i v w) (hb : Below w.heap.size w w') : copyF x bx base vt vf vi vo vc i v w' := by
  revert h
  unfold copyF
  split <;> intro h <;> first | exact h | exact LitAt.below h hb | exact own_below h hb | exact ImgO.below h hb
structure CopyJ (bx br : Nat) (w1 : World) (a : Act) (w : World) : Prop where
  x : a.eval (.tmp 1) = .pointer (some ⟨bx, 0, none⟩)
  r : a.eval (.tmp 2) = .pointer (some ⟨br, 0, none⟩)
  n : a.tmps.size = 26
  d : a.defers = []
  b : Below w1.heap.size w1 w
def copyD (x : Img) (bx base : Nat) (vt vf vi vo vc : Value) (i : Nat) (a : Act) (w : World) : Prop := copyF x bx base vt vf vi vo vc i (a.eval (.tmp (i + 3))) w
theorem CopyJ.put {bx br : Nat} {w1 w w' : World} {a : Act} (h : CopyJ bx br w1 a w) {d : Nat} (hd : 3 ≤ d) (v : Value) (hb : Below w.heap.size w w') : CopyJ bx br w1 (a.put (some d) v) w' :=
  ⟨by rw [Act.eval_put_ne _ _ _ _ (by omega)]; exact h.x, by rw [Act.eval_put_ne _ _ _ _ (by omega)]; exact h.r, by rw [Act.size_put]; exact h.n, by rw [Act.defers_put']; exact h.d, below_call hb h.b⟩
/-- Behind an operation that leaves its own fact. -/
theorem copy_next {x : Img} {bx br base : Nat} {vt vf vi vo vc : Value} {w1 w : World} {a : Act} (hJ : CopyJ bx br w1 a w) {i : Nat} (hi : i < 23) {K' : Act → World → Prop}
    (h : ∀ v w', CopyJ bx br w1 (a.put (some (i + 3)) v) w' → copyD x bx base vt vf vi vo vc i (a.put (some (i + 3)) v) w' →
      (∀ j, j ≠ i → copyD x bx base vt vf vi vo vc j a w → copyD x bx base vt vf vi vo vc j (a.put (some (i + 3)) v) w') → K' (a.put (some (i + 3)) v) w')
    (v : Value) (w' : World) (hb : Below w.heap.size w w') (hf : copyF x bx base vt vf vi vo vc i v w') : K' (a.put (some (i + 3)) v) w' := by
  refine h v w' (hJ.put (by omega) v hb) ?_ (fun j hj hd => ?_)
  · unfold copyD
    rw [Act.eval_put_same _ _ _ (by rw [hJ.n]; omega)]
    exact hf
  · unfold copyD at *
    rw [Act.eval_put_ne _ _ _ _ (by omega)]
    exact hd.below hb

theorem own_slice {w : World} {base : Nat} {e : TypeId} {k : Nat} {v : Value} {n : Nat} {xs : List Value} (h : w.ownsRow base e k v n xs) : ∃ A c, v = .slice A n c := by
  rcases h.2 with ⟨rfl, h0⟩ | ⟨g, cap, cur, rfl, _⟩
  · exact ⟨none, 0, by rw [h0]⟩
  · exact ⟨_, cap, rfl⟩
theorem own_apart {w : World} {base b : Nat} {e : TypeId} {k : Nat} {v : Value} {n : Nat} {xs : List Value} (h : w.ownsRow base e k v n xs) (hb : b < base) : v.ownBlock = none ∨ v.ownBlock ≠ some b := by
  right
  intro e
  rcases h.2 with ⟨rfl, _⟩ | ⟨g', cap, cur, rfl, hb', _⟩
  · simp [Value.ownBlock] at e
  · simp [Value.ownBlock] at e
    omega
theorem there_row {w : World} {b n : Nat} {cs : Array Value} {T : TypeId} (h : w.heap[b]? = some (.cells cs T (0, 0))) (hn : cs.size = n) : w.there b 0 n := by
  subst hn
  intro j hj
  refine ⟨?_, ?_⟩
  · rw [cell_of_row _ _ _ _ _ _ h]
    simp [hj]
  · simp [World.frozen?, h]
theorem dropLast_last {α : Type} (l : List α) (h : l ≠ []) : l = l.dropLast ++ [l.getLast h] := (List.dropLast_concat_getLast h).symm
set_option maxHeartbeats 4000000 in
theorem copy_c (x : Img) (vx : Value) (w : World) (hx : ImgV w vx x) (hk : CopyOk x) :
    Calls Tryz.prog 10 #[vx] w fun e w' => ∃ v, e = .returned v ∧ ImgO w.heap.size w' v x ∧ Below w.heap.size w w' := by
  obtain ⟨vt, vf, vi, vo, vc, rfl, h1, h2, h3, h4, h5⟩ := hx
  go_enter Tryz.func10, Tryz.ntmps10
  go_upto_region 1 with fail
  have hbx : (w.alloc (.cells #[.string x.name, vt, vf, vi, vo, vc] 26)).heap.size = w.heap.size + 1 := by simp
  generalize hW : World.alloc _ _ = W
  rename_i K hK0
  have hBW : Below w.heap.size w W := by
    rw [← hW]
    exact below_alloc (below_alloc (Below.refl _ _))
  have hlt : w.heap.size < W.heap.size := by rw [← hW]; simp; omega
  have hc0 : W.cell? ⟨w.heap.size, 0, none⟩ = some (.string x.name) := by
    rw [← hW, World.cell?_alloc_old _ _ _ (by simp), World.cell?_alloc_at _ _ _ _ rfl]
    rfl
  have hc1 : W.cell? ⟨w.heap.size, 1, none⟩ = some (vt) := by
    rw [← hW, World.cell?_alloc_old _ _ _ (by simp), World.cell?_alloc_at _ _ _ _ rfl]
    rfl
  have hc2 : W.cell? ⟨w.heap.size, 2, none⟩ = some (vf) := by
    rw [← hW, World.cell?_alloc_old _ _ _ (by simp), World.cell?_alloc_at _ _ _ _ rfl]
    rfl
  have hc3 : W.cell? ⟨w.heap.size, 3, none⟩ = some (vi) := by
    rw [← hW, World.cell?_alloc_old _ _ _ (by simp), World.cell?_alloc_at _ _ _ _ rfl]
    rfl
  have hc4 : W.cell? ⟨w.heap.size, 4, none⟩ = some (vo) := by
    rw [← hW, World.cell?_alloc_old _ _ _ (by simp), World.cell?_alloc_at _ _ _ _ rfl]
    rfl
  have hc5 : W.cell? ⟨w.heap.size, 5, none⟩ = some (vc) := by
    rw [← hW, World.cell?_alloc_old _ _ _ (by simp), World.cell?_alloc_at _ _ _ _ rfl]
    rfl
  refine wp_region_list (by kernel_rfl) _ _ (dropLast_last _ (by simp)) (by kernel_rfl) (CopyJ w.heap.size (w.heap.size + 1) W) (copyD x w.heap.size W.heap.size vt vf vi vo vc) _ _ ⟨rfl, rfl, rfl, rfl, below_drew (Below.refl _ _)⟩ ?_ ?_
  · dsimp only [List.dropLast]
    refine ⟨fun a w' hJ hD K' hK => ?_, ?_⟩
    · have hx := raw hJ.x
      exact copy_next hJ (by decide) hK _ _ (Below.refl _ _) rfl |> wp_val (v := .pointer (some ⟨w.heap.size, 0, none⟩)) (w' := w') (by go_simp)
    refine ⟨fun a w' hJ hD K' hK => ?_, ?_⟩
    · obtain ⟨d0, -⟩ := hD
      have hx := raw (d0 rfl)
      have hc := (hJ.b.cell (p := ⟨w.heap.size, 0, none⟩) hlt).trans hc0
      exact copy_next hJ (by decide) hK _ _ (Below.refl _ _) rfl |> wp_val (v := .string x.name) (w' := w') (by go_simp)
    refine ⟨fun a w' hJ hD K' hK => ?_, ?_⟩
    · exact copy_next hJ (by decide) hK _ _ (below_alloc (Below.refl _ _)) ⟨_, rfl, hJ.b.size, heap_alloc_new _ _⟩ |> wp_val (v := .slice (some ⟨w'.heap.size, 0, none⟩) 0 0) (w' := w'.alloc (.cells #[] 3)) (by go_simp)
    refine ⟨fun a w' hJ hD K' hK => ?_, ?_⟩
    · have hx := raw hJ.x
      exact copy_next hJ (by decide) hK _ _ (Below.refl _ _) rfl |> wp_val (v := .pointer (some ⟨w.heap.size, 1, none⟩)) (w' := w') (by go_simp)
    refine ⟨fun a w' hJ hD K' hK => ?_, ?_⟩
    · obtain ⟨d0, -⟩ := hD
      have hx := raw (d0 rfl)
      have hc := (hJ.b.cell (p := ⟨w.heap.size, 1, none⟩) hlt).trans hc1
      exact copy_next hJ (by decide) hK _ _ (Below.refl _ _) rfl |> wp_val (v := vt) (w' := w') (by go_simp)
    refine ⟨fun a w' hJ hD K' hK => ?_, ?_⟩
    · obtain ⟨d0, d1, -⟩ := hD
      have hlitv : LitAt W.heap.size 3 w' (a.eval (.tmp 5)) := d0 rfl
      have hsrc : a.eval (.tmp 7) = vt := d1 rfl
      refine wp_lit_app w' (.tmp 5) (.tmp 7) 22 rfl W.heap.size 3 _ 1 8 Tryz.underlying22 info_int rfl (by decide) encI (fun _ => rfl) one_I hlitv x.types (by rw [hsrc]; exact (h1).below (below_call hJ.b hBW)) (by unfold maxLen; have := hk.t; omega) hk.t ?_
      intro v1 w1 ho hb
      exact copy_next hJ (by decide) hK _ _ hb ho
    refine ⟨fun a w' hJ hD K' hK => ?_, ?_⟩
    · exact copy_next hJ (by decide) hK _ _ (below_alloc (Below.refl _ _)) ⟨_, rfl, hJ.b.size, heap_alloc_new _ _⟩ |> wp_val (v := .slice (some ⟨w'.heap.size, 0, none⟩) 0 0) (w' := w'.alloc (.cells #[] 2)) (by go_simp)
    refine ⟨fun a w' hJ hD K' hK => ?_, ?_⟩
    · have hx := raw hJ.x
      exact copy_next hJ (by decide) hK _ _ (Below.refl _ _) rfl |> wp_val (v := .pointer (some ⟨w.heap.size, 2, none⟩)) (w' := w') (by go_simp)
    refine ⟨fun a w' hJ hD K' hK => ?_, ?_⟩
    · obtain ⟨d0, -⟩ := hD
      have hx := raw (d0 rfl)
      have hc := (hJ.b.cell (p := ⟨w.heap.size, 2, none⟩) hlt).trans hc2
      exact copy_next hJ (by decide) hK _ _ (Below.refl _ _) rfl |> wp_val (v := vf) (w' := w') (by go_simp)
    refine ⟨fun a w' hJ hD K' hK => ?_, ?_⟩
    · obtain ⟨d0, d1, -⟩ := hD
      have hlitv : LitAt W.heap.size 2 w' (a.eval (.tmp 9)) := d0 rfl
      have hsrc : a.eval (.tmp 11) = vf := d1 rfl
      refine wp_lit_app w' (.tmp 9) (.tmp 11) 23 rfl W.heap.size 2 _ 1 8 Tryz.underlying23 info_i64 rfl (by decide) encI (fun _ => rfl) one_I hlitv x.first (by rw [hsrc]; exact (h2).below (below_call hJ.b hBW)) (by unfold maxLen; have := hk.f; omega) hk.f ?_
      intro v1 w1 ho hb
      exact copy_next hJ (by decide) hK _ _ hb ho
    refine ⟨fun a w' hJ hD K' hK => ?_, ?_⟩
    · exact copy_next hJ (by decide) hK _ _ (below_alloc (Below.refl _ _)) ⟨_, rfl, hJ.b.size, heap_alloc_new _ _⟩ |> wp_val (v := .slice (some ⟨w'.heap.size, 0, none⟩) 0 0) (w' := w'.alloc (.cells #[] 3)) (by go_simp)
    refine ⟨fun a w' hJ hD K' hK => ?_, ?_⟩
    · have hx := raw hJ.x
      exact copy_next hJ (by decide) hK _ _ (Below.refl _ _) rfl |> wp_val (v := .pointer (some ⟨w.heap.size, 3, none⟩)) (w' := w') (by go_simp)
    refine ⟨fun a w' hJ hD K' hK => ?_, ?_⟩
    · obtain ⟨d0, -⟩ := hD
      have hx := raw (d0 rfl)
      have hc := (hJ.b.cell (p := ⟨w.heap.size, 3, none⟩) hlt).trans hc3
      exact copy_next hJ (by decide) hK _ _ (Below.refl _ _) rfl |> wp_val (v := vi) (w' := w') (by go_simp)
    refine ⟨fun a w' hJ hD K' hK => ?_, ?_⟩
    · obtain ⟨d0, d1, -⟩ := hD
      have hlitv : LitAt W.heap.size 3 w' (a.eval (.tmp 13)) := d0 rfl
      have hsrc : a.eval (.tmp 15) = vi := d1 rfl
      refine wp_lit_app w' (.tmp 13) (.tmp 15) 22 rfl W.heap.size 3 _ 1 8 Tryz.underlying22 info_int rfl (by decide) encI (fun _ => rfl) one_I hlitv x.ins (by rw [hsrc]; exact (h3).below (below_call hJ.b hBW)) (by unfold maxLen; have := hk.i; omega) hk.i ?_
      intro v1 w1 ho hb
      exact copy_next hJ (by decide) hK _ _ hb ho
    refine ⟨fun a w' hJ hD K' hK => ?_, ?_⟩
    · exact copy_next hJ (by decide) hK _ _ (below_alloc (Below.refl _ _)) ⟨_, rfl, hJ.b.size, heap_alloc_new _ _⟩ |> wp_val (v := .slice (some ⟨w'.heap.size, 0, none⟩) 0 0) (w' := w'.alloc (.cells #[] 3)) (by go_simp)
    refine ⟨fun a w' hJ hD K' hK => ?_, ?_⟩
    · have hx := raw hJ.x
      exact copy_next hJ (by decide) hK _ _ (Below.refl _ _) rfl |> wp_val (v := .pointer (some ⟨w.heap.size, 4, none⟩)) (w' := w') (by go_simp)
    refine ⟨fun a w' hJ hD K' hK => ?_, ?_⟩
    · obtain ⟨d0, -⟩ := hD
      have hx := raw (d0 rfl)
      have hc := (hJ.b.cell (p := ⟨w.heap.size, 4, none⟩) hlt).trans hc4
      exact copy_next hJ (by decide) hK _ _ (Below.refl _ _) rfl |> wp_val (v := vo) (w' := w') (by go_simp)
    refine ⟨fun a w' hJ hD K' hK => ?_, ?_⟩
    · obtain ⟨d0, d1, -⟩ := hD
      have hlitv : LitAt W.heap.size 3 w' (a.eval (.tmp 17)) := d0 rfl
      have hsrc : a.eval (.tmp 19) = vo := d1 rfl
      refine wp_lit_app w' (.tmp 17) (.tmp 19) 22 rfl W.heap.size 3 _ 1 8 Tryz.underlying22 info_int rfl (by decide) encI (fun _ => rfl) one_I hlitv x.outs (by rw [hsrc]; exact (h4).below (below_call hJ.b hBW)) (by unfold maxLen; have := hk.o; omega) hk.o ?_
      intro v1 w1 ho hb
      exact copy_next hJ (by decide) hK _ _ hb ho
    refine ⟨fun a w' hJ hD K' hK => ?_, ?_⟩
    · exact copy_next hJ (by decide) hK _ _ (below_alloc (Below.refl _ _)) ⟨_, rfl, hJ.b.size, heap_alloc_new _ _⟩ |> wp_val (v := .slice (some ⟨w'.heap.size, 0, none⟩) 0 0) (w' := w'.alloc (.cells #[] 80)) (by go_simp)
    refine ⟨fun a w' hJ hD K' hK => ?_, ?_⟩
    · have hx := raw hJ.x
      exact copy_next hJ (by decide) hK _ _ (Below.refl _ _) rfl |> wp_val (v := .pointer (some ⟨w.heap.size, 5, none⟩)) (w' := w') (by go_simp)
    refine ⟨fun a w' hJ hD K' hK => ?_, ?_⟩
    · obtain ⟨d0, -⟩ := hD
      have hx := raw (d0 rfl)
      have hc := (hJ.b.cell (p := ⟨w.heap.size, 5, none⟩) hlt).trans hc5
      exact copy_next hJ (by decide) hK _ _ (Below.refl _ _) rfl |> wp_val (v := vc) (w' := w') (by go_simp)
    refine ⟨fun a w' hJ hD K' hK => ?_, ?_⟩
    · obtain ⟨d0, d1, -⟩ := hD
      have hlitv : LitAt W.heap.size 80 w' (a.eval (.tmp 21)) := d0 rfl
      have hsrc : a.eval (.tmp 23) = vc := d1 rfl
      refine wp_lit_app w' (.tmp 21) (.tmp 23) 24 rfl W.heap.size 80 _ 4 32 Tryz.underlying24 info_ins' rfl (by decide) encIns (fun _ => rfl) one_Ins' hlitv x.code (by rw [hsrc]; exact (h5).below (below_call hJ.b hBW)) (by unfold maxLen; have := hk.c; omega) hk.c ?_
      intro v1 w1 ho hb
      exact copy_next hJ (by decide) hK _ _ hb ho
    refine ⟨fun a w' hJ hD K' hK => ?_, trivial⟩
    · obtain ⟨d1, d5, d9, d13, d17, d21, -⟩ := hD
      have e1 := raw (d1 rfl)
      have o5 : w'.ownsRow W.heap.size 3 1 (a.eval (.tmp 8)) x.types.length (x.types.flatMap encI) := d5 rfl
      obtain ⟨A5, n5, q5⟩ := own_slice o5
      have r5 := raw q5
      rw [q5] at o5
      have o9 : w'.ownsRow W.heap.size 2 1 (a.eval (.tmp 12)) x.first.length (x.first.flatMap encI) := d9 rfl
      obtain ⟨A9, n9, q9⟩ := own_slice o9
      have r9 := raw q9
      rw [q9] at o9
      have o13 : w'.ownsRow W.heap.size 3 1 (a.eval (.tmp 16)) x.ins.length (x.ins.flatMap encI) := d13 rfl
      obtain ⟨A13, n13, q13⟩ := own_slice o13
      have r13 := raw q13
      rw [q13] at o13
      have o17 : w'.ownsRow W.heap.size 3 1 (a.eval (.tmp 20)) x.outs.length (x.outs.flatMap encI) := d17 rfl
      obtain ⟨A17, n17, q17⟩ := own_slice o17
      have r17 := raw q17
      rw [q17] at o17
      have o21 : w'.ownsRow W.heap.size 80 4 (a.eval (.tmp 24)) x.code.length (x.code.flatMap encIns) := d21 rfl
      obtain ⟨A21, n21, q21⟩ := own_slice o21
      have r21 := raw q21
      rw [q21] at o21
      clear d1 d5 d9 d13 d17 d21
      have hb : copyF x w.heap.size W.heap.size vt vf vi vo vc 22 (.agg #[.string x.name, .slice A5 x.types.length n5, .slice A9 x.first.length n9, .slice A13 x.ins.length n13, .slice A17 x.outs.length n17, .slice A21 x.code.length n21]) w' := ⟨_, _, _, _, _, rfl, o5, o9, o13, o17, o21⟩
      exact copy_next hJ (by decide) hK _ _ (Below.refl _ _) hb |> wp_val (w' := w') (by go_simp)
  · intro a w' hJ hD K' hK
    have hb : ImgO W.heap.size w' (a.eval (.tmp 25)) x := hD 22 (by decide)
    obtain ⟨ut, uf, ui, uo, uc, hv, g1, g2, g3, g4, g5⟩ := hb
    have hlt2 : w.heap.size + 1 < W.heap.size := by rw [← hW]; simp
    have hbr : w'.heap[w.heap.size + 1]? = some (.cells #[.string ⟨#[]⟩, .slice none 0 0, .slice none 0 0, .slice none 0 0, .slice none 0 0, .slice none 0 0] 26 (0, 0)) := by
      rw [hJ.b.block _ hlt2, ← hW]
      have := heap_alloc_new (w.alloc (.cells #[.string x.name, vt, vf, vi, vo, vc] 26)) (.cells #[.string ⟨#[]⟩, .slice none 0 0, .slice none 0 0, .slice none 0 0, .slice none 0 0, .slice none 0 0] 26)
      rw [hbx] at this
      exact this
    refine wp_store_mid 26 (.tmp 2) (.tmp 25) rfl (w.heap.size + 1) 0 _ hJ.r hv (there_row hbr rfl) (by kernel_rfl) ?_ ?_
    · obtain ⟨A1, n1, rfl⟩ := own_slice g1
      obtain ⟨A2, n2, rfl⟩ := own_slice g2
      obtain ⟨A3, n3, rfl⟩ := own_slice g3
      obtain ⟨A4, n4, rfl⟩ := own_slice g4
      obtain ⟨A5, n5, rfl⟩ := own_slice g5
      kernel_rfl
    refine hK _ _ ?_
    show K _ _
    refine hK0 _ _ (wp_ret ?_)
    have hrow := heap_setCells (w.heap.size + 1) 26 [.string x.name, ut, uf, ui, uo, uc] [.string ⟨#[]⟩, .slice none 0 0, .slice none 0 0, .slice none 0 0, .slice none 0 0, .slice none 0 0] 0 w' hbr
    obtain ⟨k1, k2, k3, k4⟩ := setCells_rest (w.heap.size + 1) [.string x.name, ut, uf, ui, uo, uc] 0 w'
    have hgr : w'.grownBy (w'.setCells (w.heap.size + 1) 0 [.string x.name, ut, uf, ui, uo, uc]) (some (w.heap.size + 1)) := ⟨k1, k2, k3, by rw [k4]; exact Nat.le_refl _, fun k _ hk => heap_setCells_other _ _ (fun e => hk (by rw [e])) _ _ _⟩
    have hbb : Below w.heap.size w (w'.setCells (w.heap.size + 1) 0 [.string x.name, ut, uf, ui, uo, uc]) := below_grown (below_call hJ.b hBW) hgr (fun g hg => by injection hg with hg; omega)
    have hz : W.heap.size = w.heap.size + 2 := by rw [← hW]; simp
    refine bodyPost_ret (results_cell_row rfl _ _ (w.heap.size + 1) 26 _ (0, 0) _ (by exact hJ.r) hrow Tryz.underlying26 rfl (by kernel_rfl)) hJ.d ?_
    refine ⟨_, rfl, ⟨ut, uf, ui, uo, uc, rfl, ?_, ?_, ?_, ?_, ?_⟩, hbb⟩
    · exact own_base (g1.kept hgr (own_apart g1 (by omega))) (by omega)
    · exact own_base (g2.kept hgr (own_apart g2 (by omega))) (by omega)
    · exact own_base (g3.kept hgr (own_apart g3 (by omega))) (by omega)
    · exact own_base (g4.kept hgr (own_apart g4 (by omega))) (by omega)
    · exact own_base (g5.kept hgr (own_apart g5 (by omega))) (by omega)
end Go.Proofs.YtefpgjocfgeenaaGreatDoor
