/- fold.Resolve. -/
import Derived.Test.YtenjkplijblcoaaGreatDoorCAsk
set_option linter.unusedSimpArgs false
set_option linter.unusedVariables false
namespace Cap
open Go Go.RowKit
theorem turn_all {x cur : List Prt} {T' : Ex} (h : TurnX x cur 0 T') (hl : T'.flat.length = x.length) : cur = T'.flat := by
  apply List.ext_getElem?
  intro j
  by_cases hj : j < T'.flat.length
  · obtain ⟨p, hp⟩ : ∃ p, T'.flat[j]? = some p := ⟨T'.flat[j], List.getElem?_eq_getElem hj⟩
    have := h.lies j p hp
    rw [Nat.zero_add] at this
    rw [this, hp]
  · rw [List.getElem?_eq_none (by rw [h.len]; omega), List.getElem?_eq_none (by omega)]
end Cap
namespace Go.Proofs.YtenjkplijblcoaaGreatDoor
open Go.RowKit Cap
set_option maxRecDepth 100000
attribute [local go_sem] Oper.semAt_some

structure ResSt (w : World) (vv vx : Value) (x : List Prt) (g cap br i : Nat) (own : Option Nat) (W : World) (vl : Value) (vs : List Value) : Prop where
  pr : Boxed W (br + 1) 48 (.pointer (some ⟨br, 0, none⟩))
  res : W.heap[br]? = some (.cells #[vv, .slice (some ⟨g, 0, none⟩) x.length cap, vl] 51 (0, 0))
  bx : Boxed W (br + 2) 23 vx
  xrow : W.ownsRow w.heap.size 38 5 (.slice (some ⟨g, 0, none⟩) x.length cap) x.length (x.flatMap encPrt)
  vrow : W.ownsRow (br + 3) 55 1 vl i vs
  len : vs.length = i
  vals : ∀ j v, vs[j]? = some v → Sl encI 1 W v (valsAt x j) ∧ ∀ b, v.ownBlock = some b → br + 3 ≤ b ∧ own ≠ some b ∧ ∃ c fr, W.heap[b]? = some (.cells c 3 fr)
  below : Below w.heap.size w W
  bw : w.heap.size ≤ br
def ResI (w : World) (vv vx : Value) (x : List Prt) (g cap br : Nat) (i : Nat) (own : Option Nat) (W : World) : Prop := ∃ vl vs, ResSt w vv vx x g cap br i own W vl vs
theorem ownsRow_heap {W W' : World} {base : Nat} {e : TypeId} {k : Nat} {v : Value} {n : Nat} {xs : List Value} (h : W.ownsRow base e k v n xs) (hk : ∀ (b : Nat) (c : Array Value) (fr : Nat × Nat), v.ownBlock = some b → W.heap[b]? = some (.cells c e fr) → W'.heap[b]? = W.heap[b]?) : W'.ownsRow base e k v n xs := by
  refine ⟨h.1, ?_⟩
  rcases h.2 with h | ⟨g, cap, cur, rfl, hb, hg, rest⟩
  · exact .inl h
  · exact .inr ⟨g, cap, cur, rfl, hb, (hk g _ _ rfl hg).trans hg, rest⟩
theorem sl_heap {W W' : World} {v : Value} {xs : List Int} (h : Sl encI 1 W v xs) (hs : W.heap.size ≤ W'.heap.size) (hk : ∀ b, v.ownBlock = some b → W'.heap[b]? = W.heap[b]?) : Sl encI 1 W' v xs := by
  obtain ⟨A, c', rfl, q1, q2, q3⟩ := h
  refine ⟨A, c', rfl, q1, q2, fun j x hx => ?_⟩
  obtain ⟨bk, off, rfl, hlt, hcell⟩ := q3 j x hx
  exact ⟨bk, off, rfl, by omega, fun j' u hu => (World.cell?_of_block (hk bk rfl)).trans (hcell j' u hu)⟩
/-- A step that turns no block of these but the iterator's own. -/
theorem ResSt.kept {w : World} {vv vx : Value} {x : List Prt} {g cap br i : Nat} {own own' : Option Nat} {A B : World} {vl : Value} {vs : List Value} (h : ResSt w vv vx x g cap br i own A vl vs) (hb : Below w.heap.size A B) (hs : A.heap.size ≤ B.heap.size)
    (hk : ∀ (b : Nat) (c : Array Value) (T : TypeId) (fr : Nat × Nat), A.heap[b]? = some (.cells c T fr) → T ≠ 3 → B.heap[b]? = A.heap[b]?)
    (hi : ∀ (b : Nat) (c : Array Value) (fr : Nat × Nat), A.heap[b]? = some (.cells c 3 fr) → own ≠ some b → B.heap[b]? = A.heap[b]? ∧ own' ≠ some b) : ResSt w vv vx x g cap br i own' B vl vs := by
  refine ⟨(hk _ _ _ _ h.pr (by decide)).trans h.pr, (hk _ _ _ _ h.res (by decide)).trans h.res, (hk _ _ _ _ h.bx (by decide)).trans h.bx, ownsRow_heap h.xrow (fun b c fr _ hb => hk b c _ fr hb (by decide)), ownsRow_heap h.vrow (fun b c fr _ hb => hk b c _ fr hb (by decide)), h.len, ?_, h.below.trans hb, h.bw⟩
  intro j v hv
  obtain ⟨h1, h2⟩ := h.vals j v hv
  refine ⟨sl_heap h1 hs (fun b e => ?_), fun b e => ?_⟩
  · obtain ⟨_, h3, c, fr, h4⟩ := h2 b e
    exact (hi b c fr h4 h3).1
  · obtain ⟨h3, h4, c, fr, h5⟩ := h2 b e
    exact ⟨h3, (hi b c fr h5 h4).2, c, fr, (hi b c fr h5 h4).1.trans h5⟩
/-- One part more. -/
theorem ResSt.next {w : World} {vv vx : Value} {x : List Prt} {g cap br i n1 : Nat} {own : Option Nat} {W Wc w5 : World} {vl vl' v : Value} {vs : List Value} {tmp : Obj} (h : ResSt w vv vx x g cap br i own W vl vs) (hb : Below W.heap.size W Wc)
    (hg : (Wc.alloc tmp).grownBy w5 vl.ownBlock) (hown : w5.ownsRow (br + 3) 55 1 vl' (i + 1) (vs ++ [v])) (ho : OwnRow 3 n1 own W) (hv : Handed 3 n1 own W v (valsAt x i)) (h1 : br + 3 ≤ n1) :
    w5.heap[br]? = some (.cells #[vv, .slice (some ⟨g, 0, none⟩) x.length cap, vl] 51 (0, 0)) ∧
    KeepsOthers W (w5.setCell ⟨br, 2, none⟩ vl') ∧ KeepE w.heap.size (br + 2) own W (w5.setCell ⟨br, 2, none⟩ vl') ∧ ResI w vv vx x g cap br (i + 1) own (w5.setCell ⟨br, 2, none⟩ vl') := by
  have hty : ∀ b, vl.ownBlock = some b → ∃ c, W.heap[b]? = some (.cells c 55 (0, 0)) ∧ br + 3 ≤ b := fun b e => by
    rcases h.vrow.2 with ⟨e', _⟩ | ⟨g', cap', cur, e', hge, hgb, _⟩
    · rw [e'] at e; cases e
    · rw [e'] at e
      have e2 : g' = b := by injection e
      rw [← e2]
      exact ⟨cur, hgb, hge⟩
  have hk0 : ∀ (b : Nat) (o : Obj), W.heap[b]? = some o → (∀ (c : Array Value) (fr : Nat × Nat), o ≠ Obj.cells c 55 fr) → w5.heap[b]? = some o := fun b o hw hn => by
    have hlt := (Array.getElem?_eq_some_iff.1 hw).1
    have hlc : b < Wc.heap.size := Nat.lt_of_lt_of_le hlt hb.size
    refine (hg.block b (by simp; omega) (fun e => ?_)).trans ((Below.heap_alloc _ _ b hlc).trans ((hb.block b hlt).trans hw))
    obtain ⟨c, h2, _⟩ := hty b e.symm
    rw [hw] at h2
    injection h2 with h2
    exact hn _ _ h2
  have hr5 := hk0 br _ h.res (fun c fr e => by injection e with _ e; cases e)
  have hset : ∀ b, b ≠ br → (w5.setCell ⟨br, 2, none⟩ vl').heap[b]? = w5.heap[b]? := fun b hne => Below.heap_setCell _ _ _ b hne
  have hk : ∀ (b : Nat) (c : Array Value) (T : TypeId) (fr : Nat × Nat), W.heap[b]? = some (.cells c T fr) → T ≠ 55 → T ≠ 51 → (w5.setCell ⟨br, 2, none⟩ vl').heap[b]? = W.heap[b]? := fun b c T fr hw h1 h2 => by
    rw [hset b (fun e => types_ne h.res (by rw [← e]; exact hw) (fun e => h2 e.symm)), hk0 b _ hw (fun c' fr' e => by injection e with _ e; exact h1 e), hw]
  have hsz : W.heap.size ≤ (w5.setCell ⟨br, 2, none⟩ vl').heap.size := by
    have h2 := hb.size
    have h3 := hg.size
    simp at h3 ⊢
    omega
  have hbw := h.bw
  have hbel : Below w.heap.size W (w5.setCell ⟨br, 2, none⟩ vl') := by
    have hbc : Below w.heap.size W (Wc.alloc tmp) := ((hb.mono h.below.size)).alloc (by have := h.below.size; have := hb.size; omega) _
    refine (hbc.grown hg (by have := h.below.size; have := hb.size; simp; omega) (fun k e => ?_)).setCell (by simpa using hbw) _
    obtain ⟨_, _, h2⟩ := hty k e
    omega
  refine ⟨hr5, ⟨hsz, fun b o hw ho => ?_⟩, ⟨hbel, ?_, ?_⟩, vl', vs ++ [v], ?_, ?_, ?_, ?_, ?_, ?_, ?_, h.below.trans hbel, hbw⟩
  · have hne : b ≠ br := fun e => by
      rw [e, h.res] at hw
      injection hw with hw
      rw [← hw] at ho
      cases ho
    rw [hset b hne]
    exact hk0 b o hw (fun c fr e => by rw [e] at ho; cases ho)
  · exact hk _ _ _ _ h.bx (by decide) (by decide)
  · intro r hr
    obtain ⟨_, c, fr, hw⟩ := ho r hr
    exact hk _ _ _ _ hw (by decide) (by decide)
  · exact (hk _ _ _ _ h.pr (by decide) (by decide)).trans h.pr
  · exact heap_setCell_same w5 br 2 _ _ vl' hr5
  · exact (hk _ _ _ _ h.bx (by decide) (by decide)).trans h.bx
  · exact ownsRow_heap h.xrow (fun b c fr _ hw => hk b c _ fr hw (by decide) (by decide))
  · exact ownsRow_heap hown (fun b c fr _ hw => hset b (fun e => types_ne hr5 (by rw [← e]; exact hw) (by decide)))
  · rw [List.length_append, h.len]
    rfl
  · intro j u hu
    have hgen : ∀ {u j}, (Sl encI 1 W u (valsAt x j) ∧ ∀ b, u.ownBlock = some b → br + 3 ≤ b ∧ own ≠ some b ∧ ∃ c fr, W.heap[b]? = some (.cells c 3 fr)) → (Sl encI 1 (w5.setCell ⟨br, 2, none⟩ vl') u (valsAt x j) ∧ ∀ b, u.ownBlock = some b → br + 3 ≤ b ∧ own ≠ some b ∧ ∃ c fr, (w5.setCell ⟨br, 2, none⟩ vl').heap[b]? = some (.cells c 3 fr)) := fun {u j} ⟨q1, q2⟩ => by
      refine ⟨sl_heap q1 hsz (fun b e => ?_), fun b e => ?_⟩
      · obtain ⟨_, _, c, fr, hw⟩ := q2 b e
        exact hk _ _ _ _ hw (by decide) (by decide)
      · obtain ⟨o1, o2, c, fr, hw⟩ := q2 b e
        exact ⟨o1, o2, c, fr, (hk _ _ _ _ hw (by decide) (by decide)).trans hw⟩
    by_cases hj : j < vs.length
    · rw [List.getElem?_append_left hj] at hu
      exact hgen (h.vals j u hu)
    · have hl := (List.getElem?_eq_some_iff.1 hu).1
      rw [List.length_append, List.length_singleton] at hl
      obtain rfl : j = vs.length := by omega
      rw [List.getElem?_append_right (Nat.le_refl _)] at hu
      simp at hu
      subst hu
      refine hgen ⟨by rw [h.len]; exact hv.1, fun b e => ?_⟩
      obtain ⟨o1, o2, o3⟩ := hv.2 b e
      exact ⟨by omega, o2, o3⟩
/-- All parts behind it: the resolver is ready. -/
theorem ResSt.askW {w : World} {vv vx : Value} {x : List Prt} {g cap br : Nat} {own : Option Nat} {W : World} {vl : Value} {vs : List Value} (h : ResSt w vv vx x g cap br x.length own W vl vs) (hpo : ∀ p ∈ x, PrtOk p) (hg : w.heap.size ≤ g) (hgb : g < br) (h0 : 0 < x.length) :
    AskW w (valsAt x) vv vl br g cap x W := by
  refine ⟨h.below, hg, h.res, h.xrow, hpo, ?_⟩
  rcases h.vrow.2 with ⟨_, e⟩ | ⟨g', c, cs, rfl, hge, hgb', hc, hm, hsz, ht⟩
  · omega
  · refine ⟨g', c, rfl, hc, by omega, (Array.getElem?_eq_some_iff.1 hgb').1, fun i hi => ?_⟩
    have hl := h.len
    obtain ⟨v, hv⟩ : ∃ v, vs[i]? = some v := ⟨vs[i], List.getElem?_eq_getElem (by omega)⟩
    obtain ⟨h1, h2⟩ := h.vals i v hv
    refine ⟨v, ?_, h1, fun b e => ?_⟩
    · rw [cell_of_row W g' i cs _ _ hgb']
      rw [Nat.mul_one] at ht
      have : (cs.toList.take x.length)[i]? = some v := by rw [ht]; exact hv
      rw [List.getElem?_take_of_lt hi] at this
      simpa using this
    · obtain ⟨h3, _, cc, fr, h4⟩ := h2 b e
      exact ⟨by omega, (Array.getElem?_eq_some_iff.1 h4).1⟩
/-- The resolver's pointer, behind an append to the values. -/
theorem ResSt.ptr {w : World} {vv vx : Value} {x : List Prt} {g cap br i : Nat} {own : Option Nat} {W Wc w5 : World} {vl : Value} {vs : List Value} {tmp : Obj} (h : ResSt w vv vx x g cap br i own W vl vs) (hb : Below W.heap.size W Wc) (hg : (Wc.alloc tmp).grownBy w5 vl.ownBlock) (u : Value) :
    w5.cell? ⟨br + 1, 0, none⟩ = some (.pointer (some ⟨br, 0, none⟩)) ∧ (w5.setCell ⟨br, 2, none⟩ u).cell? ⟨br + 1, 0, none⟩ = some (.pointer (some ⟨br, 0, none⟩)) := by
  have hlt := h.pr.lt
  have hlc : br + 1 < Wc.heap.size := Nat.lt_of_lt_of_le hlt hb.size
  have h5 : Boxed w5 (br + 1) 48 (.pointer (some ⟨br, 0, none⟩)) := by
    refine (hg.block (br + 1) (by simp; omega) (fun e => ?_)).trans ((Below.heap_alloc _ _ _ hlc).trans ((hb.block _ hlt).trans h.pr))
    rcases h.vrow.2 with ⟨e', _⟩ | ⟨g', c, cs, e', hge, _⟩
    · rw [e'] at e
      cases e
    · rw [e'] at e
      have e2 : br + 1 = g' := by injection e
      omega
  exact ⟨h5.cell, (World.cell?_of_block (Below.heap_setCell _ _ _ _ (by simp))).trans h5.cell⟩
end Go.Proofs.YtenjkplijblcoaaGreatDoor

/- fold.Resolve: the walk. -/
namespace Go.Proofs.YtenjkplijblcoaaGreatDoor
open Go.RowKit Cap
set_option maxRecDepth 100000
attribute [local go_sem] Oper.semAt_some

/-- What Resolve hands back. -/
def ResolveR (vars : List Vr) (x : List Prt) (t : Int) (w : World) (e : Ending) (w' : World) : Prop :=
  (if fitsX vars x t ≠ 0 then e = .returned (.tuple #[.slice none 0 0, .int .i64 (fitsX vars x t)])
    else ∃ v, e = .returned (.tuple #[v, .int .i64 0]) ∧ w'.ownsRow w.heap.size 38 5 v (askX vars t (treeL x)).flat.length ((askX vars t (treeL x)).flat.flatMap encPrt)) ∧ Below w.heap.size w w'
theorem fits_check {vars : List Vr} {x : List Prt} {t : Int} (h : fitsX vars x t = 0) : checkX x = 0 := by
  unfold fitsX at h
  by_cases h0 : (reckV vars x).2 ≠ 0
  · rw [if_pos h0] at h
    exact absurd h h0
  · have h1 : (reckV vars x).2 = 0 := by omega
    unfold reckV at h1
    by_cases hw : wrongV vars ≠ 0
    · rw [if_pos hw] at h1
      exact absurd h1 hw
    · rw [if_neg hw] at h1
      by_cases hc : checkX x ≠ 0
      · rw [if_pos hc] at h1
        exact absurd h1 hc
      · omega
theorem info_sl : InfoIs Tryz.prog 55 (.slice none 0 0) 1 24 := by unfold InfoIs; kernel_rfl
set_option maxHeartbeats 8000000 in
theorem resolve_c (vars : List Vr) (x : List Prt) (t : Int) (vv vx : Value) (w : World) (hs : Sl encVr 5 w vv vars) (hvo : ∀ v ∈ vars, VrOk v) (hx : Sl encPrt 5 w vx x) (hpo : ∀ p ∈ x, PrtOk p) (hG : G w) :
    Calls Tryz.prog 9 #[vv, vx, .int .i64 t] w (ResolveR vars x t w) := by
  have HFT := Lib.hid (show ∀ W, Below w.heap.size w W → Calls Tryz.prog 23 #[vv, vx, .int .i64 t] W fun e w' => e = .returned (.int .i64 (fitsX vars x t)) ∧ Below W.heap.size W w' from fun W hW => fits_x vars x t vv vx W (hs.below hW) hvo (hx.below hW) hpo (hG.below hW))
  obtain ⟨f, hf⟩ : ∃ f, fitsX vars x t = f := ⟨_, rfl⟩
  have HF := Lib.hid hf
  rw [hf] at HFT
  unfold ResolveR
  rw [hf]
  have hfF : Fence.wide.fn 23 := trivial
  have hfC : Fence.wide.fn 24 := trivial
  have hfE : Fence.wide.fn 25 := trivial
  have hfA : Fence.wide.fn 26 := trivial
  by_cases hf0 : f = 0
  case neg =>
    have hfb := ne_i hf0
    have hfn : (f != 0) = true := by simpa using hf0
    obtain ⟨Av, cv, rfl, -, -, -⟩ := hs
    obtain ⟨Ax, cx, rfl, -, -, -⟩ := hx
    clear hf hG hvo hpo
    refine (callsIn_wide (n := 4)).1 ?_
    refine callsIn_of_wp_marks Tryz.func9 rfl trivial ?_ rfl
    simp only [Tryz.ntmps9, List.size_toArray, List.length_cons, List.length_nil, Nat.reduceAdd, Nat.reduceSub, Array.replicate_succ, Array.replicate_zero, List.push_toArray, List.append_toArray, List.nil_append, List.cons_append]
    gi_wp2_with (gi_at_call 23; refine (callsIn_wide.2 (HFT.out _ (by (repeat' (first | (with_reducible exact Below.refl _ _) | (with_reducible refine below_alloc ?_) | (with_reducible refine below_drew ?_) | (with_reducible refine below_drewN ?_) | (with_reducible refine below_set (by first | (simp; done) | (simp; omega)) ?_) | (with_reducible refine below_call (by with_reducible assumption) ?_)))))).mono ?_; rintro e w1 ⟨rfl, hb1⟩)
    exact ⟨_, results_tmp2 rfl _ _ _, rfl, by (repeat' (first | (with_reducible exact Below.refl _ _) | (with_reducible refine below_alloc ?_) | (with_reducible refine below_drew ?_) | (with_reducible refine below_drewN ?_) | (with_reducible refine below_set (by first | (simp; done) | (simp; omega)) ?_) | (with_reducible refine below_call (by with_reducible assumption) ?_)))⟩
  rw [hf0] at hf HF HFT
  rw [hf0]
  have hcx := fits_check hf
  obtain ⟨h500, hdx, _⟩ := checkX_ok hcx
  obtain ⟨hTok, hTf⟩ := tree_in hcx
  have hpos : 0 < x.length := by rw [← hTf]; exact flat_pos _
  have hfl : FlatOk x := by
    have := flatOk_tree hTok
    rw [hTf] at this
    exact this
  have HCL := Lib.hid (show ∀ W, Below w.heap.size w W → Calls Tryz.prog 24 #[vx] W fun e w' => ∃ g cap, e = .returned (.slice (some ⟨g, 0, none⟩) x.length cap) ∧ w'.ownsRow W.heap.size 38 5 (.slice (some ⟨g, 0, none⟩) x.length cap) x.length (x.flatMap encPrt) ∧ Below W.heap.size W w' ∧ W.heap.size ≤ g ∧ g < w'.heap.size from fun W hW => by
    refine (clone_prt x vx W (hx.below hW) (by omega)).mono ?_
    rintro e w' ⟨v', rfl, ho, hb⟩
    obtain ⟨g, cap, rfl, h1, h2⟩ := ho.form hpos
    exact ⟨g, cap, rfl, ho, hb, h1, h2⟩)
  have hv0 := hx
  have HS := Lib.hid hs
  obtain ⟨Av, cv, rfl, -, -, -⟩ := hs
  obtain ⟨Ax, cx, rfl, hxl, hxm, -⟩ := hx
  have HX := Lib.hid hv0
  have HFL := Lib.hid hfl
  have HTF := Lib.hid hTf
  have HG := Lib.hid hG
  clear hf hcx hdx hv0 hfl hf0 hTf hG
  refine (callsIn_wide (n := 4)).1 ?_
  refine callsIn_of_wp_marks Tryz.func9 rfl trivial ?_ rfl
  simp only [Tryz.ntmps9, List.size_toArray, List.length_cons, List.length_nil, Nat.reduceAdd, Nat.reduceSub, Array.replicate_succ, Array.replicate_zero, List.push_toArray, List.append_toArray, List.nil_append, List.cons_append]
  gi_wp2_with (first | (gi_at_call 23; refine (callsIn_wide.2 (HFT.out _ (by (repeat' (first | (with_reducible exact Below.refl _ _) | (with_reducible refine below_alloc ?_) | (with_reducible refine below_drew ?_) | (with_reducible refine below_drewN ?_) | (with_reducible refine below_set (by first | (simp; done) | (simp; omega)) ?_) | (with_reducible refine below_call (by with_reducible assumption) ?_)))))).mono ?_; rintro e w1 ⟨rfl, hb1⟩) | (gi_at_call 24; refine (callsIn_wide.2 (HCL.out _ (by (repeat' (first | (with_reducible exact Below.refl _ _) | (with_reducible refine below_alloc ?_) | (with_reducible refine below_drew ?_) | (with_reducible refine below_drewN ?_) | (with_reducible refine below_set (by first | (simp; done) | (simp; omega)) ?_) | (with_reducible refine below_call (by with_reducible assumption) ?_)))))).mono ?_; rintro e w2 ⟨g, cap, rfl, ho2, hb2, hg1, hg2⟩) | (gi_at_call 25; refine (callsIn_wide.2 (each_c _ _ _ _)).mono ?_; rintro e w3 ⟨rfl, rfl⟩))
  have hb02 : Below w.heap.size w w2 := by (repeat' (first | (with_reducible exact Below.refl _ _) | (with_reducible refine below_alloc ?_) | (with_reducible refine below_drew ?_) | (with_reducible refine below_drewN ?_) | (with_reducible refine below_set (by first | (simp; done) | (simp; omega)) ?_) | (with_reducible refine below_call (by with_reducible assumption) ?_)))
  have hwg : w.heap.size ≤ g := by have := hb1.size; omega
  have hw2 : w.heap.size ≤ w2.heap.size := hb02.size
  have B2 := Boxed.new ((w2.alloc (.cells #[.slice Av vars.length cv, .slice (some ⟨g, 0, none⟩) x.length cap, .slice none 0 0] 51)).alloc (.cells #[.pointer (some ⟨w2.heap.size, 0, none⟩)] 48)) 23 (.slice Ax x.length cx)
  rw [World.size_alloc, World.size_alloc] at B2
  have hB3 : Below w.heap.size w (((w2.alloc (.cells #[.slice Av vars.length cv, .slice (some ⟨g, 0, none⟩) x.length cap, .slice none 0 0] 51)).alloc (.cells #[.pointer (some ⟨w2.heap.size, 0, none⟩)] 48)).alloc (.cells #[.slice Ax x.length cx] 23)) := by (repeat' (first | (with_reducible exact Below.refl _ _) | (with_reducible refine below_alloc ?_) | (with_reducible refine below_drew ?_) | (with_reducible refine below_drewN ?_) | (with_reducible refine below_set (by first | (simp; done) | (simp; omega)) ?_) | (with_reducible refine below_call (by with_reducible assumption) ?_)))
  have h0 : ResSt w (.slice Av vars.length cv) (.slice Ax x.length cx) x g cap w2.heap.size 0 none (((w2.alloc (.cells #[.slice Av vars.length cv, .slice (some ⟨g, 0, none⟩) x.length cap, .slice none 0 0] 51)).alloc (.cells #[.pointer (some ⟨w2.heap.size, 0, none⟩)] 48)).alloc (.cells #[.slice Ax x.length cx] 23)) (.slice none 0 0) [] := by
    refine ⟨?_, ?_, B2, ?_, World.ownsRow_nil _ _ _ _, rfl, fun j v h => by simp at h, hB3, hw2⟩
    · have B1 := Boxed.new (w2.alloc (.cells #[.slice Av vars.length cv, .slice (some ⟨g, 0, none⟩) x.length cap, .slice none 0 0] 51)) 48 (.pointer (some ⟨w2.heap.size, 0, none⟩))
      rw [World.size_alloc] at B1
      exact B1.alloc _
    · exact (Below.heap_alloc _ _ _ (by simp; omega)).trans ((Below.heap_alloc _ _ _ (by simp)).trans (World.alloc_heap_new w2 _))
    · refine own_below (own_base ho2 hb1.size) ?_
      exact below_alloc (below_alloc (below_alloc (Below.refl _ _)))
  refine wp_rangeFunc_each (ti := 3) (gf := 43) (lb := #[.pointer (some ⟨w2.heap.size + 1 + 1, 0, none⟩)]) rfl (enters_of Tryz.func43 (by kernel_rfl) rfl) (n0 := w.heap.size) (bx := w2.heap.size + 2) (N := x.length) (vals := valsAt x)
    (w0 := (((w2.alloc (.cells #[.slice Av vars.length cv, .slice (some ⟨g, 0, none⟩) x.length cap, .slice none 0 0] 51)).alloc (.cells #[.pointer (some ⟨w2.heap.size, 0, none⟩)] 48)).alloc (.cells #[.slice Ax x.length cx] 23))) (each1_c x HFL.out h500 _ w HX.out _ hB3 (w2.heap.size + 2) B2) (Below.refl _ _) (by simp; omega) ⟨_, B2, rfl⟩ rfl (ResI w (.slice Av vars.length cv) (.slice Ax x.length cx) x g cap w2.heap.size) ?hIo ?hIe ⟨_, _, h0⟩
    (fun i v => { tmps := #[Value.slice Av vars.length cv, Value.slice Ax x.length cx, .int .i64 t, undef, undef, undef, .slice none 0 0, Value.int .i64 0, Value.int .i64 0, .pointer (some ⟨w2.heap.size + 1, 0, none⟩), undef, v, Value.slice Av vars.length cv, Value.slice Ax x.length cx, .int .i64 t, Value.int .i64 0, Value.int .i64 0, .bool false, undef, Value.slice Av vars.length cv, Value.slice Ax x.length cx, .slice (some ⟨g, 0, none⟩) x.length cap, .agg #[.slice Av vars.length cv, .slice (some ⟨g, 0, none⟩) x.length cap, .slice none 0 0], .pointer (some ⟨w2.heap.size, 0, none⟩), Value.slice Ax x.length cx, .func (.func 43) #[] #[.pointer (some ⟨w2.heap.size + 1 + 1, 0, none⟩)], .int .i64 (i : Int), v, undef, undef, undef, undef, undef, undef, undef, undef, undef, undef, undef, undef, undef, undef, undef, undef, undef, undef, undef, undef], defers := [] }) ?assign ?body ?done
  case hIo =>
    rintro i own A B row ⟨vl, vs, hS⟩ hg hr
    have hne : ∀ (b : Nat) (o : Obj), A.heap[b]? = some o → o.isCells = true → B.heap[b]? = A.heap[b]? := fun b o ho hc => hg.block b (Array.getElem?_eq_some_iff.1 ho).1 (fun e => by
      obtain ⟨_, o', h1, h2⟩ := hr b e.symm
      rw [ho] at h1
      injection h1 with h1
      rw [h1, h2] at hc
      cases hc)
    exact ⟨vl, vs, hS.kept ((Below.refl _ A).grown hg hS.below.size (fun r e => by have := (hr r e).1; simp at this; omega)) hg.size (fun b c T fr h _ => hne b _ h rfl) (fun b c fr h h' => ⟨hne b _ h rfl, h'⟩)⟩
  case hIe =>
    rintro i own own' A B ⟨vl, vs, hS⟩ ⟨hg, ho, hor⟩
    refine ⟨vl, vs, hS.kept ((Below.refl _ A).grown hg hS.below.size (fun r e => by have := (ho r e).1; simp at this; omega)) hg.size (fun b c T fr h hT => ?_) (fun b c fr h h' => ⟨?_, ?_⟩)⟩
    · refine hg.block b (Array.getElem?_eq_some_iff.1 h).1 (fun e => ?_)
      obtain ⟨_, c', fr', h1⟩ := ho b e.symm
      exact types_ne h h1 hT
    · exact hg.block b (Array.getElem?_eq_some_iff.1 h).1 (fun e => h' e.symm)
    · rcases hor with rfl | ⟨r, rfl, hr⟩
      · exact h'
      · intro e
        injection e with e
        have := (Array.getElem?_eq_some_iff.1 h).1
        omega
  case assign =>
    intro l i v W K hK
    gi_wp2
    exact hK
  case done =>
    rintro D own W hD ⟨vl, vs, hS⟩ hK
    have hA := hS.askW hpo hwg hg2 hpos
    have hpr := hS.pr.cell
    obtain ⟨E1, hE1⟩ : ∃ E1, x.length = E1 + 1 := ⟨x.length - 1, by omega⟩
    have hASK := Lib.hid (ask_c vars w (valsAt x) _ vl w2.heap.size g cap HS.out hvo HG.out (treeL x) hTok t x 0 E1 W (fun j q hq => by rw [Nat.zero_add, ← HTF.out]; exact hq) (vok_tree x _ 0 hTok (fun j q hq => by rw [Nat.zero_add, ← HTF.out]; exact hq)) (by rw [HTF.out]; omega) hA)
    have hz1 : (x.length : Int) - 1 = (E1 : Int) := by omega
    have hE0 : (0 : Int) ≤ (E1 : Int) := Int.natCast_nonneg _
    have hgk : ∀ (w5 : World), W.grownBy w5 (some g) → ∀ b o, W.heap[b]? = some o → (∀ c fr, o ≠ Obj.cells c 38 fr) → w5.heap[b]? = some o := fun w5 hg b o ho hn => (hg.block b (Array.getElem?_eq_some_iff.1 ho).1 (fun e => by
      injection e with e
      obtain ⟨cs, hc, _⟩ := hA.blk
      rw [e, hc] at ho
      injection ho with ho
      exact hn _ _ ho.symm)).trans ho
    have HGK := Lib.hid hgk
    have HS2 := Lib.hid hS
    clear hE1 hS hA hgk
    gi_wp2_with (gi_at_call 26; refine (callsIn_wide.2 hASK.out).mono ?_; rintro e w5 ⟨rfl, cur', hT', hA', hg'⟩; have hpr5 := Boxed.cell (HGK.out _ hg' _ _ HS2.out.pr (fun c fr e => by injection e with _ e; cases e)); have hr5 := cell_of_row _ _ 1 _ _ _ hA'.res; simp at hr5)
    have hK5 := HGK.out _ hg' _ _ hK (fun c fr e => by cases e)
    have hcur := turn_all hT' (by rw [ask_len, HTF.out])
    refine ⟨by simp, .inl ⟨_, _, rfl, run_takeDeferred hK5, ?_⟩⟩
    refine ⟨_, results_tmp2 rfl _ _ _, ⟨_, rfl, ?_⟩, hA'.below.trans (belowK_b (w := w) (Nat.le_refl _) w5 D _ _ (by simp at hD; omega) hK5 rfl rfl)⟩
    rw [← hcur]
    exact ownsRow_putObj hA'.row _ hK5 rfl
  case body =>
    rintro l i own v W hiN ⟨vl, vs, hS⟩ hrow hv
    have HS2 := Lib.hid hS
    have HOW := Lib.hid hrow
    have HV := Lib.hid hv
    obtain ⟨A1, c1, rfl⟩ := own_slice hS.vrow
    obtain ⟨A2, c2, rfl, _, _, _⟩ := hv.1
    have hpr := hS.pr.cell
    have hr2 := cell_of_row _ _ 2 _ _ _ hS.res
    simp at hr2
    have hbr := (Array.getElem?_eq_some_iff.1 hS.res).1
    have hbp := hS.pr.lt
    have h1v : ∀ u ∈ [Value.slice A2 (valsAt x i).length c2], u.oneCell' = true := fun u hu => by
      rw [List.mem_singleton] at hu
      rw [hu]
      rfl
    obtain ⟨i0, hi1, hi2, hi3, hi4⟩ := info_sl.parts
    clear hS hrow hv
    generalize hvl : Value.slice A1 i c1 = vl at HS2 hr2
    clear hvl
    gi_wp2
    refine region_in_held (S := fun W' => W'.cell? ⟨w2.heap.size + 1, 0, none⟩ = some (.pointer (some ⟨w2.heap.size, 0, none⟩))) (by kernel_rfl) (by kernel_rfl) (fun _ _ h => h) hpr (fun hHeld => ?_)
    (refine take_at (i := 0) (v := ?_) (some 28) rfl (by rfl) (by kernel_rfl) (by kernel_rfl) (by kernel_rfl) (fun _ _ _ h => h) (Or.inl ⟨by rfl, ?_⟩) (by assumption) ?_; rotate_left; (focus ((intro w hSw; (try dsimp only at hSw); go_simp); (try with_reducible rfl))); (simp only [Act.put, List.setIfInBounds_toArray, List.set_cons_zero, List.set_cons_succ]))
    (refine take_at (i := 1) (v := ?_) (some 29) rfl (by rfl) (by kernel_rfl) (by kernel_rfl) (by kernel_rfl) (fun _ _ _ h => h) (Or.inl ⟨by rfl, ?_⟩) (by assumption) ?_; rotate_left; (focus ((intro w hSw; (try dsimp only at hSw); go_simp); (try with_reducible rfl))); (simp only [Act.put, List.setIfInBounds_toArray, List.set_cons_zero, List.set_cons_succ]))
    (refine take_at (i := 2) (v := ?_) (some 30) rfl (by rfl) (by kernel_rfl) (by kernel_rfl) (by kernel_rfl) (fun _ _ _ h => h) (Or.inl ⟨by rfl, ?_⟩) (by assumption) ?_; rotate_left; (focus ((intro w hSw; (try dsimp only at hSw); go_simp); (try with_reducible rfl))); (simp only [Act.put, List.setIfInBounds_toArray, List.set_cons_zero, List.set_cons_succ]))
    (refine take_at (i := 3) (v := ?_) (some 31) rfl (by rfl) (by kernel_rfl) (by kernel_rfl) (by kernel_rfl) (fun _ _ _ h => h) (Or.inl ⟨by rfl, ?_⟩) (by assumption) ?_; rotate_left; (focus ((intro w hSw; (try dsimp only at hSw); go_simp); (try with_reducible rfl))); (simp only [Act.put, List.setIfInBounds_toArray, List.set_cons_zero, List.set_cons_succ]))
    (refine take_at (i := 5) (v := ?_) (some 33) rfl (by rfl) (by kernel_rfl) (by kernel_rfl) (by kernel_rfl) (fun _ _ _ h => h) (Or.inl ⟨by rfl, ?_⟩) (by assumption) ?_; rotate_left; (focus ((intro w hSw; (try dsimp only at hSw); go_simp); (try with_reducible rfl))); (simp only [Act.put, List.setIfInBounds_toArray, List.set_cons_zero, List.set_cons_succ]))
    refine wpAnyH_ready (rs := [4, 6]) (by kernel_rfl) (by simp) ?_
    refine AllReadyH.cons (by rfl) (fun K hK => ?_) (AllReadyH.cons (by rfl) (fun K hK => ?_) AllReadyH.nil)
    · go_simp
      refine hK.out _ _ hpr (fun hH2 => ?_)
      clear hK K
      try simp only [Act.put, List.setIfInBounds_toArray, List.set_cons_zero, List.set_cons_succ]
      (refine wpAnyH_ready (rs := [6]) (by kernel_rfl) (by simp) ?_; refine AllReadyH.cons (by rfl) (fun K hK => ?_) AllReadyH.nil)
      go_simp
      refine hK.out _ _ (((below_alloc (Below.refl _ W.drew)).cell (p := ⟨w2.heap.size + 1, 0, none⟩) hbp).trans hpr) (fun hH5 => ?_)
      clear hK K
      try simp only [Act.put, List.setIfInBounds_toArray, List.set_cons_zero, List.set_cons_succ]
      (refine wpAnyH_ready (rs := [7]) (by kernel_rfl) (by simp) ?_; refine AllReadyH.cons (by rfl) (fun K hK => ?_) AllReadyH.nil)
      refine step_append_lies _ rfl (.tmp 32) (.tmp 34) 49 rfl (w2.heap.size + 3) 55 i0 _ 1 24 Tryz.underlying49 hi1 hi2 hi3 hi4 rfl (by decide) vl i vs (by rfl) (own_below HS2.out.vrow (by (repeat' (first | (with_reducible exact Below.refl _ _) | (with_reducible refine below_alloc ?_) | (with_reducible refine below_drew ?_) | (with_reducible refine below_drewN ?_) | (with_reducible refine below_set (by first | (simp; done) | (simp; omega)) ?_) | (with_reducible refine below_call (by with_reducible assumption) ?_))))) ⟨W.heap.size, 0, none⟩ 1 1 [.slice A2 (valsAt x i).length c2] (by rfl) rfl (fun j u hu => (cell_add_new W.drew [.slice A2 (valsAt x i).length c2] 55 j).trans hu) h1v (by decide) (by unfold maxLen; omega) (by omega) (by have := (Array.getElem?_eq_some_iff.1 HS2.out.bx).1; simp; omega) _ rfl ?_
      intro g5 cap5 w5 hown5 hgr5 hor5 hlt5
      obtain ⟨hr5, hnext⟩ := HS2.out.next (show Below W.heap.size W W.drew by (repeat' (first | (with_reducible exact Below.refl _ _) | (with_reducible refine below_alloc ?_) | (with_reducible refine below_drew ?_) | (with_reducible refine below_drewN ?_) | (with_reducible refine below_set (by first | (simp; done) | (simp; omega)) ?_) | (with_reducible refine below_call (by with_reducible assumption) ?_)))) hgr5 hown5 HOW.out HV.out (by simp)
      have hc5 := cell_of_row _ _ 2 _ _ _ hr5
      have hf5 := frozen_row 2 hr5
      simp at hc5
      have hpk := HS2.out.ptr (show Below W.heap.size W W.drew by (repeat' (first | (with_reducible exact Below.refl _ _) | (with_reducible refine below_alloc ?_) | (with_reducible refine below_drew ?_) | (with_reducible refine below_drewN ?_) | (with_reducible refine below_set (by first | (simp; done) | (simp; omega)) ?_) | (with_reducible refine below_call (by with_reducible assumption) ?_)))) hgr5 (.slice (some ⟨g5, 0, none⟩) (i + 1) cap5)
      have hp5 : w5.cell? ⟨w2.heap.size + 1, 0, none⟩ = some (.pointer (some ⟨w2.heap.size, 0, none⟩)) := hpk.1
      refine hK.out _ _ hp5 (fun hH3 => ?_)
      clear hK K
      try simp only [Act.put, List.setIfInBounds_toArray, List.set_cons_zero, List.set_cons_succ]
      (refine take_at (i := 8) (v := ?_) (some 36) rfl (by rfl) (by kernel_rfl) (by kernel_rfl) (by kernel_rfl) (fun _ _ _ h => h) (Or.inl ⟨by rfl, ?_⟩) (by assumption) ?_; rotate_left; (focus ((intro w hSw; (try dsimp only at hSw); go_simp); (try with_reducible rfl))); (simp only [Act.put, List.setIfInBounds_toArray, List.set_cons_zero, List.set_cons_succ]))
      (refine take_at (i := 9) (v := ?_) (some 37) rfl (by rfl) (by kernel_rfl) (by kernel_rfl) (by kernel_rfl) (fun _ _ _ h => h) (Or.inl ⟨by rfl, ?_⟩) (by assumption) ?_; rotate_left; (focus ((intro w hSw; (try dsimp only at hSw); go_simp); (try with_reducible rfl))); (simp only [Act.put, List.setIfInBounds_toArray, List.set_cons_zero, List.set_cons_succ]))
      (refine wpAnyH_ready (rs := [10]) (by kernel_rfl) (by simp) ?_; refine AllReadyH.cons (by rfl) (fun K hK => ?_) AllReadyH.nil)
      go_simp
      refine hK.out _ _ hpk.2 (fun hH4 => ?_)
      clear hK K
      try simp only [Act.put, List.setIfInBounds_toArray, List.set_cons_zero, List.set_cons_succ]
      refine wpAnyH_done (by kernel_rfl) ?_ _
      gi_wp2
      exact hnext
    · have hr3 : (W.drew.alloc (.cells #[.slice A2 (valsAt x i).length c2] 55)).cell? ⟨w2.heap.size, 2, none⟩ = some vl := ((below_alloc (Below.refl _ W.drew)).cell (p := ⟨w2.heap.size, 2, none⟩) hbr).trans hr2
      go_simp
      refine hK.out _ _ (((below_alloc (Below.refl _ W.drew)).cell (p := ⟨w2.heap.size + 1, 0, none⟩) hbp).trans hpr) (fun hH2 => ?_)
      clear hK K
      try simp only [Act.put, List.setIfInBounds_toArray, List.set_cons_zero, List.set_cons_succ]
      (refine wpAnyH_ready (rs := [4]) (by kernel_rfl) (by simp) ?_; refine AllReadyH.cons (by rfl) (fun K hK => ?_) AllReadyH.nil)
      go_simp
      refine hK.out _ _ (((below_alloc (Below.refl _ W.drew)).cell (p := ⟨w2.heap.size + 1, 0, none⟩) hbp).trans hpr) (fun hH5 => ?_)
      clear hK K
      try simp only [Act.put, List.setIfInBounds_toArray, List.set_cons_zero, List.set_cons_succ]
      (refine wpAnyH_ready (rs := [7]) (by kernel_rfl) (by simp) ?_; refine AllReadyH.cons (by rfl) (fun K hK => ?_) AllReadyH.nil)
      refine step_append_lies _ rfl (.tmp 32) (.tmp 34) 49 rfl (w2.heap.size + 3) 55 i0 _ 1 24 Tryz.underlying49 hi1 hi2 hi3 hi4 rfl (by decide) vl i vs (by rfl) (own_below HS2.out.vrow (by (repeat' (first | (with_reducible exact Below.refl _ _) | (with_reducible refine below_alloc ?_) | (with_reducible refine below_drew ?_) | (with_reducible refine below_drewN ?_) | (with_reducible refine below_set (by first | (simp; done) | (simp; omega)) ?_) | (with_reducible refine below_call (by with_reducible assumption) ?_))))) ⟨W.heap.size, 0, none⟩ 1 1 [.slice A2 (valsAt x i).length c2] (by rfl) rfl (fun j u hu => (cell_add_new W.drew [.slice A2 (valsAt x i).length c2] 55 j).trans hu) h1v (by decide) (by unfold maxLen; omega) (by omega) (by have := (Array.getElem?_eq_some_iff.1 HS2.out.bx).1; simp; omega) _ rfl ?_
      intro g5 cap5 w5 hown5 hgr5 hor5 hlt5
      obtain ⟨hr5, hnext⟩ := HS2.out.next (show Below W.heap.size W W.drew by (repeat' (first | (with_reducible exact Below.refl _ _) | (with_reducible refine below_alloc ?_) | (with_reducible refine below_drew ?_) | (with_reducible refine below_drewN ?_) | (with_reducible refine below_set (by first | (simp; done) | (simp; omega)) ?_) | (with_reducible refine below_call (by with_reducible assumption) ?_)))) hgr5 hown5 HOW.out HV.out (by simp)
      have hc5 := cell_of_row _ _ 2 _ _ _ hr5
      have hf5 := frozen_row 2 hr5
      simp at hc5
      have hpk := HS2.out.ptr (show Below W.heap.size W W.drew by (repeat' (first | (with_reducible exact Below.refl _ _) | (with_reducible refine below_alloc ?_) | (with_reducible refine below_drew ?_) | (with_reducible refine below_drewN ?_) | (with_reducible refine below_set (by first | (simp; done) | (simp; omega)) ?_) | (with_reducible refine below_call (by with_reducible assumption) ?_)))) hgr5 (.slice (some ⟨g5, 0, none⟩) (i + 1) cap5)
      have hp5 : w5.cell? ⟨w2.heap.size + 1, 0, none⟩ = some (.pointer (some ⟨w2.heap.size, 0, none⟩)) := hpk.1
      refine hK.out _ _ hp5 (fun hH3 => ?_)
      clear hK K
      try simp only [Act.put, List.setIfInBounds_toArray, List.set_cons_zero, List.set_cons_succ]
      (refine take_at (i := 8) (v := ?_) (some 36) rfl (by rfl) (by kernel_rfl) (by kernel_rfl) (by kernel_rfl) (fun _ _ _ h => h) (Or.inl ⟨by rfl, ?_⟩) (by assumption) ?_; rotate_left; (focus ((intro w hSw; (try dsimp only at hSw); go_simp); (try with_reducible rfl))); (simp only [Act.put, List.setIfInBounds_toArray, List.set_cons_zero, List.set_cons_succ]))
      (refine take_at (i := 9) (v := ?_) (some 37) rfl (by rfl) (by kernel_rfl) (by kernel_rfl) (by kernel_rfl) (fun _ _ _ h => h) (Or.inl ⟨by rfl, ?_⟩) (by assumption) ?_; rotate_left; (focus ((intro w hSw; (try dsimp only at hSw); go_simp); (try with_reducible rfl))); (simp only [Act.put, List.setIfInBounds_toArray, List.set_cons_zero, List.set_cons_succ]))
      (refine wpAnyH_ready (rs := [10]) (by kernel_rfl) (by simp) ?_; refine AllReadyH.cons (by rfl) (fun K hK => ?_) AllReadyH.nil)
      go_simp
      refine hK.out _ _ hpk.2 (fun hH4 => ?_)
      clear hK K
      try simp only [Act.put, List.setIfInBounds_toArray, List.set_cons_zero, List.set_cons_succ]
      refine wpAnyH_done (by kernel_rfl) ?_ _
      gi_wp2
      exact hnext
end Go.Proofs.YtenjkplijblcoaaGreatDoor

/- fold.Fold. -/
namespace Go.Proofs.YtenjkplijblcoaaGreatDoor
open Go.RowKit Cap
set_option maxRecDepth 100000

/-- What Fold hands back. -/
def FoldVR (vars : List Vr) (x : List Prt) (t : Int) (w : World) (e : Ending) (w' : World) : Prop :=
  (if fitsX vars x t ≠ 0 then e = .returned (.tuple #[.slice none 0 0, .int .i64 (fitsX vars x t)])
    else ∃ v, e = .returned (.tuple #[v, .int .i64 0]) ∧ w'.ownsRow w.heap.size 38 5 v (foldX (askX vars t (treeL x))).length ((foldX (askX vars t (treeL x))).flatMap encPrt)) ∧ Below w.heap.size w w'
set_option maxHeartbeats 2000000 in
theorem fold_c (vars : List Vr) (x : List Prt) (t : Int) (vv vx : Value) (w : World) (hs : Sl encVr 5 w vv vars) (hvo : ∀ v ∈ vars, VrOk v) (hx : Sl encPrt 5 w vx x) (hpo : ∀ p ∈ x, PrtOk p) (hG : G w) :
    Calls Tryz.prog 11 #[vv, vx, .int .i64 t] w (FoldVR vars x t w) := by
  have HRS := Lib.hid (show ∀ W, Below w.heap.size w W → Calls Tryz.prog 9 #[vv, vx, .int .i64 t] W (ResolveR vars x t W) from fun W hW => resolve_c vars x t vv vx W (hs.below hW) hvo (hx.below hW) hpo (hG.below hW))
  unfold ResolveR at HRS
  unfold FoldVR
  obtain ⟨f, hf⟩ : ∃ f, fitsX vars x t = f := ⟨_, rfl⟩
  rw [hf] at HRS ⊢
  obtain ⟨Av, cv, rfl, -, -, -⟩ := hs
  obtain ⟨Ax, cx, rfl, -, -, -⟩ := hx
  by_cases hf0 : f = 0
  · subst hf0
    have hcx := fits_check hf
    obtain ⟨h500, _, _⟩ := checkX_ok hcx
    obtain ⟨hTok, hTf⟩ := tree_in hcx
    have hlen : (askX vars t (treeL x)).flat.length ≤ 500 := by rw [ask_len, hTf]; exact h500
    have hgo : foldGo (askX vars t (treeL x)).flat [] = foldX (askX vars t (treeL x)) := by
      have h := foldGo_flat (askX vars t (treeL x)) [] [] (ask_ok vars _ t hTok)
      rw [List.append_nil] at h
      exact h
    have HFD := Lib.hid (show ∀ (v : Value) (W : World), W.ownsRow w.heap.size 38 5 v (askX vars t (treeL x)).flat.length ((askX vars t (treeL x)).flat.flatMap encPrt) → Calls Tryz.prog 29 #[v] W fun e w' => ∃ u, e = .returned u ∧ w'.ownsRow W.heap.size 38 5 u (foldX (askX vars t (treeL x))).length ((foldX (askX vars t (treeL x))).flatMap encPrt) ∧ Below W.heap.size W w' from fun v W ho => by
      have h := folded_c (askX vars t (treeL x)).flat (flatOk_tree (ask_ok vars _ t hTok)) hlen v W (Sl.own encPrt_len ho rfl)
      rw [hgo] at h
      exact h)
    simp only [ne_eq, not_true_eq_false, if_false] at HRS ⊢
    clear hf hcx hTf hlen hgo hTok hG hvo hpo
    go_enter Tryz.func11, Tryz.ntmps11
    go_wp2_with (first | (go_at_call 9; refine (HRS.out _ (by (repeat' (first | (with_reducible exact Below.refl _ _) | (with_reducible refine below_alloc ?_) | (with_reducible refine below_drew ?_) | (with_reducible refine below_drewN ?_) | (with_reducible refine below_set (by first | (simp; done) | (simp; omega)) ?_) | (with_reducible refine below_call (by with_reducible assumption) ?_))))).mono ?_; rintro e w1 ⟨⟨v1, rfl, ho1⟩, hb1⟩) | (go_at_call 29; refine (HFD.out _ _ ho1).mono ?_; rintro e w2 ⟨u, rfl, ho2, hb2⟩))
    go_ret2
    exact ⟨⟨u, rfl, own_base ho2 hb1.size⟩, by (repeat' (first | (with_reducible exact Below.refl _ _) | (with_reducible refine below_alloc ?_) | (with_reducible refine below_drew ?_) | (with_reducible refine below_drewN ?_) | (with_reducible refine below_set (by first | (simp; done) | (simp; omega)) ?_) | (with_reducible refine below_call (by with_reducible assumption) ?_)))⟩
  · have hfb := ne_i hf0
    have hfn : (f != 0) = true := by simpa using hf0
    simp only [ne_eq, hf0, not_false_eq_true, if_true] at HRS ⊢
    clear hf hG hvo hpo
    go_enter Tryz.func11, Tryz.ntmps11
    go_wp2_with (go_at_call 9; refine (HRS.out _ (by (repeat' (first | (with_reducible exact Below.refl _ _) | (with_reducible refine below_alloc ?_) | (with_reducible refine below_drew ?_) | (with_reducible refine below_drewN ?_) | (with_reducible refine below_set (by first | (simp; done) | (simp; omega)) ?_) | (with_reducible refine below_call (by with_reducible assumption) ?_))))).mono ?_; rintro e w1 ⟨rfl, hb1⟩)
    go_ret2
    exact ⟨rfl, by (repeat' (first | (with_reducible exact Below.refl _ _) | (with_reducible refine below_alloc ?_) | (with_reducible refine below_drew ?_) | (with_reducible refine below_drewN ?_) | (with_reducible refine below_set (by first | (simp; done) | (simp; omega)) ?_) | (with_reducible refine below_call (by with_reducible assumption) ?_)))⟩
end Go.Proofs.YtenjkplijblcoaaGreatDoor
