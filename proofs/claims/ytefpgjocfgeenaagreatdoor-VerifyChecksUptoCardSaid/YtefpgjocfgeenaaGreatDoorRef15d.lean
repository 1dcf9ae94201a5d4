/- (*capstanref15.look).at: one instruction looked at. -/
import Derived.Test.YtefpgjocfgeenaaGreatDoorRef15c
import Derived.Deep.RegionHeld3
namespace Go.Proofs.YtefpgjocfgeenaaGreatDoor
open Go.RowKit Cap
set_option maxRecDepth 100000

theorem Sl.cells {α : Type} {enc : α → List Value} {k : Nat} {w : World} {A : Option Addr} {n c : Nat} {xs : List α} (h : Sl enc k w (.slice A n c) xs) : ∀ i x, xs[i]? = some x → ∃ b off, A = some ⟨b, off, none⟩ ∧ b < w.heap.size ∧ ∀ j v, (enc x)[j]? = some v → w.cell? ⟨b, off + i * k + j, none⟩ = some v := by
  obtain ⟨A', c', e, _, _, h3⟩ := h
  injection e with e1 _ _
  rw [e1]
  exact h3
theorem Sl.upto {α : Type} {enc : α → List Value} {k : Nat} {w : World} {A : Option Addr} {n c m : Nat} {xs : List α} (h : Sl enc k w (.slice A n c) xs) (hm : m ≤ xs.length) : Sl enc k w (.slice A m c) (xs.take m) := by
  obtain ⟨A', c', e, h1, h2, h3⟩ := h
  injection e with e1 e2 e3
  subst e1 e2 e3
  have hl : (xs.take m).length = m := by rw [List.length_take]; omega
  refine ⟨_, _, by rw [hl], by omega, h2, fun i x hx => h3 i x ?_⟩
  have hi : i < m := by have := (List.getElem?_eq_some_iff.1 hx).1; omega
  rw [List.getElem?_take_of_lt hi] at hx
  exact hx
theorem frozen_of_row {w : World} {b : Nat} {cs : Array Value} {T : TypeId} (j : Nat) (h : w.heap[b]? = some (.cells cs T (0, 0))) : w.frozen? ⟨b, j, none⟩ = false := by
  simp [World.frozen?, h]
/-- Where a row of the call's own lies. -/
theorem row_lies {w : World} {base : Nat} {e : TypeId} {k : Nat} {v : Value} {n : Nat} {xs : List Value} (h : w.ownsRow base e k v n xs) : v = .slice none 0 0 ∨ ∃ b o l c, v = .slice (some ⟨b, o, none⟩) l c ∧ base ≤ b := by
  rcases h.2 with ⟨rfl, _⟩ | ⟨g, cap, cur, rfl, hb, _⟩
  · exact .inl rfl
  · exact .inr ⟨g, 0, _, _, rfl, hb⟩
theorem takesR_len (x : Img) (i : Ins) : (takesR x i).1.length ≤ 2 ∧ (takesR x i).2.length ≤ 1 := by
  unfold takesR
  repeat' split
  all_goals exact ⟨by simp, by simp⟩
theorem rwhole_q (t : Int) (w : World) : Calls Tryz.prog 118 #[.int .i64 t] w fun e w' => e = .returned (.bool (wholeR t)) ∧ w' = w := (rwhole_c t w).mono fun _ _ h => ⟨h.1, h.2.symm⟩
/-- Three blocks alone have turned, of what was there. -/
structure Chg3 (b1 b2 b3 : Nat) (w w' : World) : Prop where
  os : w'.os = w.os
  tape : w'.tape = w.tape
  output : w'.output = w.output
  size : w.heap.size ≤ w'.heap.size
  block : ∀ i, i < w.heap.size → i ≠ b1 → i ≠ b2 → i ≠ b3 → w'.heap[i]? = w.heap[i]?
theorem Chg3.of_below {b1 b2 b3 : Nat} {w w' : World} (h : Below w.heap.size w w') : Chg3 b1 b2 b3 w w' := ⟨h.os, h.tape, h.output, h.size, fun i hi _ _ _ => h.block i hi⟩
theorem Chg3.set1 {b1 b2 b3 : Nat} {w w' : World} (h : Chg3 b1 b2 b3 w w') (o : Nat) (u : Value) : Chg3 b1 b2 b3 w (w'.setCell ⟨b1, o, none⟩ u) :=
  ⟨h.os, h.tape, h.output, by have := h.size; simpa using this, fun i hi h1 h2 h3 => (heap_setCell_other w' ⟨b1, o, none⟩ i u h1).trans (h.block i hi h1 h2 h3)⟩
theorem Chg3.set2 {b1 b2 b3 : Nat} {w w' : World} (h : Chg3 b1 b2 b3 w w') (o : Nat) (u : Value) : Chg3 b1 b2 b3 w (w'.setCell ⟨b2, o, none⟩ u) :=
  ⟨h.os, h.tape, h.output, by have := h.size; simpa using this, fun i hi h1 h2 h3 => (heap_setCell_other w' ⟨b2, o, none⟩ i u h2).trans (h.block i hi h1 h2 h3)⟩
theorem Chg3.set3 {b1 b2 b3 : Nat} {w w' : World} (h : Chg3 b1 b2 b3 w w') (o : Nat) (u : Value) : Chg3 b1 b2 b3 w (w'.setCell ⟨b3, o, none⟩ u) :=
  ⟨h.os, h.tape, h.output, by have := h.size; simpa using this, fun i hi h1 h2 h3 => (heap_setCell_other w' ⟨b3, o, none⟩ i u h3).trans (h.block i hi h1 h2 h3)⟩
theorem Chg3.then {b1 b2 b3 : Nat} {w w' w'' : World} (h : Chg3 b1 b2 b3 w w') (hb : Below w'.heap.size w' w'') : Chg3 b1 b2 b3 w w'' :=
  ⟨hb.os.trans h.os, hb.tape.trans h.tape, hb.output.trans h.output, Nat.le_trans h.size hb.size, fun i hi h1 h2 h3 => (hb.block i (Nat.lt_of_lt_of_le hi h.size)).trans (h.block i hi h1 h2 h3)⟩
theorem Chg3.trans {b1 b2 b3 : Nat} {w w' w'' : World} (h : Chg3 b1 b2 b3 w w') (hb : Chg3 b1 b2 b3 w' w'') : Chg3 b1 b2 b3 w w'' :=
  ⟨hb.os.trans h.os, hb.tape.trans h.tape, hb.output.trans h.output, Nat.le_trans h.size hb.size, fun i hi h1 h2 h3 => (hb.block i (Nat.lt_of_lt_of_le hi h.size) h1 h2 h3).trans (h.block i hi h1 h2 h3)⟩
theorem SlB.chg {base b1 b2 b3 : Nat} {w w' : World} {u : Value} {st : List Int} (h : SlB base w u st) (hc : Chg3 b1 b2 b3 w w') (h1 : b1 < base) (h2 : b2 < base) (h3 : b3 < base) : SlB base w' u st :=
  h.kept hc.size (fun b hb hlt => hc.block b hlt (by omega) (by omega) (by omega))
theorem RLook.st_at {base bl bs bt n : Nat} {v0 v1 v2 v3 v4 v5 : Value} {rs ds : List Bool} {ss : List (List Int)} {deep : Int} {w : World} (h : RLook base bl bs bt n v0 v1 v2 v3 v4 v5 rs ds ss deep w) {k : Nat} (hk : k < n) : w.cell? ⟨bt, k, none⟩ = some (.int .i64 (stV (rs.getD k false) (ds.getD k false))) := by
  refine h.at_ ?_
  unfold stsV
  rw [List.getElem?_zipWith, List.getElem?_eq_getElem (by rw [h.lr]; exact hk), List.getElem?_eq_getElem (by rw [h.ld]; exact hk)]
  simp only [List.getD_eq_getElem?_getD, List.getElem?_eq_getElem (show k < rs.length by rw [h.lr]; exact hk), List.getElem?_eq_getElem (show k < ds.length by rw [h.ld]; exact hk)]
  rfl
theorem RLook.drew_ {base bl bs bt n : Nat} {v0 v1 v2 v3 v4 v5 : Value} {rs ds : List Bool} {ss : List (List Int)} {deep : Int} {w : World} (h : RLook base bl bs bt n v0 v1 v2 v3 v4 v5 rs ds ss deep w) : RLook base bl bs bt n v0 v1 v2 v3 v4 v5 rs ds ss deep w.drew := h.below (below_drew (Below.refl _ _))
theorem RLook.drewN_ {base bl bs bt n : Nat} {v0 v1 v2 v3 v4 v5 : Value} {rs ds : List Bool} {ss : List (List Int)} {deep : Int} {w : World} {q : Nat} (h : RLook base bl bs bt n v0 v1 v2 v3 v4 v5 rs ds ss deep w) : RLook base bl bs bt n v0 v1 v2 v3 v4 v5 rs ds ss deep (w.drewN q) := h.below (below_drewN (Below.refl _ _))
theorem SlB.drew_ {base : Nat} {w : World} {u : Value} {st : List Int} (h : SlB base w u st) : SlB base w.drew u st := h.kept (Nat.le_refl _) (fun _ _ _ => rfl)
theorem SlB.drewN_ {base q : Nat} {w : World} {u : Value} {st : List Int} (h : SlB base w u st) : SlB base (w.drewN q) u st := h.kept (Nat.le_refl _) (fun _ _ _ => rfl)
theorem Chg3.drew_ {b1 b2 b3 : Nat} {w w' : World} (h : Chg3 b1 b2 b3 w w') : Chg3 b1 b2 b3 w w'.drew := h.then (below_drew (Below.refl _ _))
theorem Chg3.drewN_ {b1 b2 b3 q : Nat} {w w' : World} (h : Chg3 b1 b2 b3 w w') : Chg3 b1 b2 b3 w (w'.drewN q) := h.then (below_drewN (Below.refl _ _))
theorem hdr_set {ds rs : List Bool} {k : Nat} (h : ∀ i, ds.getD i false = true → rs.getD i false = true) : ∀ i, ds.getD i false = true → (rs.set k true).getD i false = true := by
  intro i hi
  have h1 := h i hi
  by_cases e : k = i
  · subst e
    have hlt : k < rs.length := by
      rw [List.getD_eq_getElem?_getD] at h1
      rcases Nat.lt_or_ge k rs.length with hlt | hge
      · exact hlt
      · rw [List.getElem?_eq_none hge] at h1; cases h1
    rw [List.getD_eq_getElem?_getD, List.getElem?_set_self hlt]
    rfl
  · rw [List.getD_eq_getElem?_getD, List.getElem?_set_ne e, ← List.getD_eq_getElem?_getD]
    exact h1
/-- One instruction looked at, plainly. -/
def atL (x : Img) (k : Nat) (rs ds : List Bool) (ss : List (List Int)) (deep back : Int) : Except NE (List Bool × List (List Int) × Int × Int) :=
  match stepR x (x.code.getD k ⟨0, 0, 0, 0⟩) (ss.getD k []) with
  | none => .error (k, 151)
  | some st => match tosL x.code.length k ds st (goesL k (x.code.getD k ⟨0, 0, 0, 0⟩)) rs ss back with
    | .error e => .error e
    | .ok (rs', ss', back') => .ok (rs', ss', max deep st.length, back')
inductive RAtR (base bl bs bt n : Nat) (v0 v1 v2 v3 v4 v5 : Value) (ds : List Bool) (w : World) : Except NE (List Bool × List (List Int) × Int × Int) → Ending → World → Prop
  | err {a e : Int} {w' : World} (h : Chg3 bl bs bt w w') : RAtR base bl bs bt n v0 v1 v2 v3 v4 v5 ds w (.error (a, e)) (.returned (.tuple #[.int .i64 a, .int .i64 e])) w'
  | ok {rs' : List Bool} {ss' : List (List Int)} {deep' back' : Int} {w' : World} (h : Chg3 bl bs bt w w') (hl : RLook base bl bs bt n v0 v1 v2 v3 v4 v5 rs' ds ss' deep' w') : RAtR base bl bs bt n v0 v1 v2 v3 v4 v5 ds w (.ok (rs', ss', deep', back')) (.returned (.tuple #[.int .i64 0, .int .i64 0])) w'
set_option maxHeartbeats 1600000 in
theorem rat_c (x : Img) (base bl bs bt k : Nat) (v1 v2 v3 v4 v5 : Value) (rs ds : List Bool) (ss : List (List Int)) (deep back : Int) (w : World) (hv : ImgV w (.agg #[.string x.name, v1, v2, v3, v4, v5]) x)
    (hL : RLook base bl bs bt x.code.length (.string x.name) v1 v2 v3 v4 v5 rs ds ss deep w) (hn : x.code.length ≤ 4096) (hk : k < x.code.length) (hmay : ∀ i ∈ x.code, mayIns x i = true) (h64 : ∀ s ∈ ss, s.length ≤ 64) (hb : base ≤ w.heap.size) (hdr : ∀ j, ds.getD j false = true → rs.getD j false = true) :
    Calls Tryz.prog 68 #[.pointer (some ⟨bl, 0, none⟩), .int .i64 k] w (RAtR base bl bs bt x.code.length (.string x.name) v1 v2 v3 v4 v5 ds w (atL x k rs ds ss deep back)) := by
  have HV := Lib.hid hv
  have HLK := Lib.hid hL
  obtain ⟨_, _, _, _, _, hve, -, -, -, -, h5⟩ := hv
  injection hve with hve
  simp at hve
  obtain ⟨rfl, rfl, rfl, rfl, rfl⟩ := hve
  obtain ⟨Ac, cc, rfl, hl5, hl5', hcc⟩ := h5
  obtain ⟨ii, hii⟩ : ∃ ii, x.code[k]? = some ii := ⟨x.code[k], List.getElem?_eq_getElem hk⟩
  obtain ⟨bi, oi, rfl, hbi, hci⟩ := hcc k ii hii
  have HII := Lib.hid (show x.code.getD k ⟨0, 0, 0, 0⟩ = ii by rw [List.getD_eq_getElem?_getD, hii]; rfl)
  have HMI := Lib.hid (hmay ii (List.mem_of_getElem? hii))
  have i0 : w.cell? ⟨bi, oi + k * 4, none⟩ = some (.int .i64 ii.op) := by simpa using hci 0 _ rfl
  have i1 : w.cell? ⟨bi, oi + k * 4 + 1, none⟩ = some (.int .i64 ii.a) := by simpa using hci 1 _ rfl
  have i2 : w.cell? ⟨bi, oi + k * 4 + 2, none⟩ = some (.int .i64 ii.b) := by simpa using hci 2 _ rfl
  have i3 : w.cell? ⟨bi, oi + k * 4 + 3, none⟩ = some (.int .i64 ii.n) := by simpa using hci 3 _ rfl
  obtain ⟨us, hus, hul, hust⟩ := hL.stk
  obtain ⟨u, hu⟩ : ∃ u, us[k]? = some u := ⟨us[k]'(by omega), List.getElem?_eq_getElem _⟩
  obtain ⟨s0, hs0⟩ : ∃ s0, ss[k]? = some s0 := ⟨ss[k]'(by rw [hL.ls]; exact hk), List.getElem?_eq_getElem _⟩
  have hSB := hust k u s0 hu hs0
  have h064 := h64 s0 (List.mem_of_getElem? hs0)
  have HS0 := Lib.hid (show ss.getD k [] = s0 by rw [List.getD_eq_getElem?_getD, hs0]; rfl)
  have l0 : w.cell? ⟨bl, 0, none⟩ = some (.string x.name) := cell_of_row _ _ 0 _ _ _ hL.look
  have l1 := cell_of_row _ _ 1 _ _ _ hL.look
  have l2 := cell_of_row _ _ 2 _ _ _ hL.look
  have l3 := cell_of_row _ _ 3 _ _ _ hL.look
  have l4 := cell_of_row _ _ 4 _ _ _ hL.look
  have l5 := cell_of_row _ _ 5 _ _ _ hL.look
  have l6 := cell_of_row _ _ 6 _ _ _ hL.look
  have l7 := cell_of_row _ _ 7 _ _ _ hL.look
  have l8 := cell_of_row _ _ 8 _ _ _ hL.look
  simp at l1 l2 l3 l4 l5 l6 l7 l8
  have hsk : w.cell? ⟨bs, k, none⟩ = some u := by rw [cell_of_row _ _ _ _ _ _ hus]; simpa using hu
  have hblw : bl < w.heap.size := (Array.getElem?_eq_some_iff.1 hL.look).1
  have hbsw : bs < w.heap.size := (Array.getElem?_eq_some_iff.1 hus).1
  have hkz : (k : Int) < (x.code.length : Int) := by omega
  have hk0 : (0 : Int) ≤ (k : Int) := Int.natCast_nonneg _
  have HSB := Lib.hid hSB
  obtain ⟨⟨Au, cu, rfl, hcu1, hcu2, -⟩, hAu0⟩ := hSB
  have HUST := Lib.hid hust
  have HDR := Lib.hid hdr
  clear hdr
  clear hci hii hmay hust hu hs0 hL hcc
  obtain ⟨tin, tout, hto⟩ : ∃ a b, takesR x ii = (a, b) := ⟨_, _, rfl⟩
  have htl := takesR_len x ii
  rw [hto] at htl
  have hST : stepR x ii s0 = if s0.length < tin.length then none else if eqP okR tin (s0.drop (s0.length - tin.length)) = false then none else if 64 < (s0.take (s0.length - tin.length) ++ tout).length then none else some (s0.take (s0.length - tin.length) ++ tout) := by unfold stepR; rw [hto]
  have HTO := Lib.hid hto
  have HST := Lib.hid hST
  obtain ⟨htl1, htl2⟩ := htl
  simp only at htl1 htl2
  clear hto hST
  go_enter Tryz.func68, Tryz.ntmps68
  go_upto_region 2 with fail
  have hrow := heap_alloc_new w (.cells #[.int .i64 ii.op, .int .i64 ii.a, .int .i64 ii.b, .int .i64 ii.n] 80)
  have hB1 : Below w.heap.size w (w.alloc (.cells #[.int .i64 ii.op, .int .i64 ii.a, .int .i64 ii.b, .int .i64 ii.n] 80)) := below_alloc (Below.refl _ _)
  have hsz1 : (w.alloc (.cells #[.int .i64 ii.op, .int .i64 ii.a, .int .i64 ii.b, .int .i64 ii.n] 80)).heap.size = w.heap.size + 1 := by simp
  generalize w.alloc (.cells #[.int .i64 ii.op, .int .i64 ii.a, .int .i64 ii.b, .int .i64 ii.n] 80) = W1 at hrow hB1 hsz1 ⊢
  have HK := Lib.hid (show ∀ W, Below W1.heap.size W1.drew W → (W.cell? ⟨bl, 0, none⟩ = some (.string x.name) ∧ W.cell? ⟨bl, 1, none⟩ = some v1 ∧ W.cell? ⟨bl, 2, none⟩ = some v2 ∧ W.cell? ⟨bl, 3, none⟩ = some v3 ∧ W.cell? ⟨bl, 4, none⟩ = some v4 ∧ W.cell? ⟨bl, 5, none⟩ = some (.slice (some ⟨bi, oi, none⟩) x.code.length cc) ∧ W.cell? ⟨w.heap.size, 0, none⟩ = some (.int .i64 ii.op) ∧ W.cell? ⟨w.heap.size, 1, none⟩ = some (.int .i64 ii.a) ∧ W.cell? ⟨w.heap.size, 2, none⟩ = some (.int .i64 ii.b) ∧ W.cell? ⟨w.heap.size, 3, none⟩ = some (.int .i64 ii.n)) from fun W hW => by
    have hB : Below w.heap.size w W := below_call hW (below_drew hB1)
    exact ⟨(hB.cell (p := ⟨bl, 0, none⟩) hblw).trans l0, (hB.cell (p := ⟨bl, 1, none⟩) hblw).trans l1, (hB.cell (p := ⟨bl, 2, none⟩) hblw).trans l2, (hB.cell (p := ⟨bl, 3, none⟩) hblw).trans l3, (hB.cell (p := ⟨bl, 4, none⟩) hblw).trans l4, (hB.cell (p := ⟨bl, 5, none⟩) hblw).trans l5,
      (hW.cell (p := ⟨w.heap.size, 0, none⟩) (by show w.heap.size < _; omega)).trans (cell_of_row _ _ 0 _ _ _ hrow), (hW.cell (p := ⟨w.heap.size, 1, none⟩) (by show w.heap.size < _; omega)).trans (cell_of_row _ _ 1 _ _ _ hrow), (hW.cell (p := ⟨w.heap.size, 2, none⟩) (by show w.heap.size < _; omega)).trans (cell_of_row _ _ 2 _ _ _ hrow), (hW.cell (p := ⟨w.heap.size, 3, none⟩) (by show w.heap.size < _; omega)).trans (cell_of_row _ _ 3 _ _ _ hrow)⟩)
  have HT := Lib.hid (rtakes_c x _ ii W1.drew (HV.out.below (below_drew hB1)) HMI.out)
  go_region_held3 (fun W => W.cell? ⟨bl, 0, none⟩ = some (.string x.name) ∧ W.cell? ⟨bl, 1, none⟩ = some v1 ∧ W.cell? ⟨bl, 2, none⟩ = some v2 ∧ W.cell? ⟨bl, 3, none⟩ = some v3 ∧ W.cell? ⟨bl, 4, none⟩ = some v4 ∧ W.cell? ⟨bl, 5, none⟩ = some (.slice (some ⟨bi, oi, none⟩) x.code.length cc) ∧ W.cell? ⟨w.heap.size, 0, none⟩ = some (.int .i64 ii.op) ∧ W.cell? ⟨w.heap.size, 1, none⟩ = some (.int .i64 ii.a) ∧ W.cell? ⟨w.heap.size, 2, none⟩ = some (.int .i64 ii.b) ∧ W.cell? ⟨w.heap.size, 3, none⟩ = some (.int .i64 ii.n)) (first | exact HK.out _ (Below.refl _ _) | exact HK.out _ hb9) (first | (go_at_call 117; refine HT.out.mono ?_; rintro e w9 ⟨u1, u2, rfl, hS1, hS2, hb9⟩; rw [HTO.out] at hS1 hS2; obtain ⟨A1, c1, rfl, -⟩ := id hS1; obtain ⟨A2, c2, rfl, -⟩ := id hS2; have HS1 := Lib.hid hS1; have HS2 := Lib.hid hS2; clear hS1 hS2))
  have hB9 : Below w.heap.size w w9 := below_call hb9 (below_drew hB1)
  have hB9' := Lib.hid (HK.out _ hb9)
  have d6 : w9.cell? ⟨bl, 6, none⟩ = some (.slice (some ⟨bs, 0, none⟩) x.code.length x.code.length) := (hB9.cell (p := ⟨bl, 6, none⟩) hblw).trans l6
  have d7 : w9.cell? ⟨bl, 7, none⟩ = some (.slice (some ⟨bt, 0, none⟩) x.code.length x.code.length) := (hB9.cell (p := ⟨bl, 7, none⟩) hblw).trans l7
  have d8 : w9.cell? ⟨bl, 8, none⟩ = some (.int .i64 deep) := (hB9.cell (p := ⟨bl, 8, none⟩) hblw).trans l8
  have dk : w9.cell? ⟨bs, k, none⟩ = some (.slice Au s0.length cu) := (hB9.cell (p := ⟨bs, k, none⟩) hbsw).trans hsk
  have HB9 := Lib.hid hB9
  clear l0 l1 l2 l3 l4 l5 l6 l7 l8 i0 i1 i2 i3 hsk hb9 hB9
  by_cases hlen : s0.length < tin.length
  · have hz : (s0.length : Int) - (tin.length : Int) < 0 := by omega
    have HA := Lib.hid (show atL x k rs ds ss deep back = .error ((k : Int), 151) by
      unfold atL
      rw [HII.out, HS0.out, HST.out, if_pos hlen])
    clear hlen
    go_wp2
    go_ret2
    rw [HA.out]
    exact RAtR.err (Chg3.of_below HB9.out)
  obtain ⟨m, hm⟩ : ∃ m : Nat, s0.length = tin.length + m := ⟨s0.length - tin.length, by omega⟩
  have hmz : (s0.length : Int) - (tin.length : Int) = (m : Int) := by omega
  have hm0 : ¬ (m : Int) < 0 := by omega
  have HST2 := Lib.hid (show stepR x ii s0 = if eqP okR tin (s0.drop m) = false then none else if 64 < (s0.take m ++ tout).length then none else some (s0.take m ++ tout) by
    rw [HST.out, if_neg hlen, show s0.length - tin.length = m from by omega])
  have HM := Lib.hid hm
  clear hlen HST hm
  go_upto_region 7 with fail
  go_wp2
  go_loopg [11] tin.length (fun gg s11 wr => ∃ j : Nat, s11 = .int .i64 j ∧ j ≤ tin.length ∧ tin.length - j ≤ gg ∧ Aside (Below w9.heap.size w9 wr) ∧ Aside (eqP okR (tin.drop j) ((s0.drop m).drop j) = eqP okR tin (s0.drop m)))
  case atStart => exact ⟨0, rfl, Nat.zero_le _, by omega, (show Aside _ from Below.refl _ _), rfl⟩
  case round =>
    obtain ⟨j, rfl, hj, hg, HB, HE⟩ := hrel
    have hB := HB.out
    by_cases hlt : j < tin.length
    · have hltz : (j : Int) < (tin.length : Int) := by omega
      have hj0 : (0 : Int) ≤ (j : Int) := Int.natCast_nonneg _
      have hmj0 : (0 : Int) ≤ (m : Int) + (j : Int) := by omega
      have hmj1 : (m : Int) + (j : Int) < (s0.length : Int) := by have := HM.out; omega
      obtain ⟨c, hc⟩ : ∃ c, tin[j]? = some c := ⟨tin[j], List.getElem?_eq_getElem hlt⟩
      obtain ⟨t, ht⟩ : ∃ t, s0[m + j]? = some t := ⟨s0[m + j]'(by omega), List.getElem?_eq_getElem (by omega)⟩
      obtain ⟨b1, o1, rfl, hb1, hc1⟩ := HS1.out.cells j c hc
      obtain ⟨b2, o2, rfl, hb2, hc2⟩ := HSB.out.1.cells (m + j) t ht
      have e1 : wr.cell? ⟨b1, o1 + j, none⟩ = some (.int .i64 c) := (hB.cell (p := ⟨b1, o1 + j, none⟩) hb1).trans (by simpa using hc1 0 _ rfl)
      have e2 : wr.cell? ⟨b2, o2 + (m + j), none⟩ = some (.int .i64 t) := (hB.cell (p := ⟨b2, o2 + (m + j), none⟩) (Nat.lt_of_lt_of_le hb2 HB9.out.size)).trans ((HB9.out.cell (p := ⟨b2, o2 + (m + j), none⟩) hb2).trans (by simpa using hc2 0 _ rfl))
      have htd : (s0.drop m)[j]? = some t := by rw [List.getElem?_drop]; exact ht
      have HED := Lib.hid ((HE.out).symm.trans (eqP_drop (p := okR) hc htd))
      clear hc1 hc2 hc ht htd
      by_cases hcm : c = -1
      · subst hcm
        cases hw : wholeR t with
        | true =>
          have hok : okR (-1) t = true := by unfold okR; rw [if_pos rfl]; exact hw
          have HN := Lib.hid (show eqP okR (tin.drop (j + 1)) ((s0.drop m).drop (j + 1)) = eqP okR tin (s0.drop m) by rw [HED.out, hok, Bool.true_and])
          clear hok
          go_upto_region 10 with fail
          go_quiet ((go_at_call 118; exact Calls.quiet_of_same (rwhole_q _ _)))
          go_wp2
          go_roundg (tin.length - (j + 1))
          case measure => omega
          case rel => exact ⟨j + 1, by go_num, by omega, by omega, below_drewN hB, HN.out⟩
        | false =>
          have hok : okR (-1) t = false := by unfold okR; rw [if_pos rfl]; exact hw
          have HA := Lib.hid (show atL x k rs ds ss deep back = .error ((k : Int), 151) by
            unfold atL
            rw [HII.out, HS0.out, HST2.out, if_pos (by rw [HED.out, hok, Bool.false_and])])
          clear hok
          go_upto_region 10 with fail
          go_quiet ((go_at_call 118; exact Calls.quiet_of_same (rwhole_q _ _)))
          go_wp2
          go_ret2
          rw [HA.out]
          exact RAtR.err (Chg3.of_below (below_call (below_drewN hB) HB9.out))
      · have hcn : (c == -1) = false := beq_eq_false_iff_ne.2 hcm
        have hcn2 : (c != -1) = true := by simp [bne, hcn]
        cases hq : (c == t) with
        | true =>
          have hok : okR c t = true := by unfold okR; rw [if_neg hcm]; exact hq
          have hq2 : (c != t) = false := by simp [bne, hq]
          have HN := Lib.hid (show eqP okR (tin.drop (j + 1)) ((s0.drop m).drop (j + 1)) = eqP okR tin (s0.drop m) by rw [HED.out, hok, Bool.true_and])
          clear hok hcm hq
          go_upto_region 10 with fail
          go_quiet ((go_at_call 118; exact Calls.quiet_of_same (rwhole_q _ _)))
          go_wp2
          go_roundg (tin.length - (j + 1))
          case measure => omega
          case rel => exact ⟨j + 1, by go_num, by omega, by omega, below_drewN hB, HN.out⟩
        | false =>
          have hok : okR c t = false := by unfold okR; rw [if_neg hcm]; exact hq
          have hq2 : (c != t) = true := by simp [bne, hq]
          have HA := Lib.hid (show atL x k rs ds ss deep back = .error ((k : Int), 151) by
            unfold atL
            rw [HII.out, HS0.out, HST2.out, if_pos (by rw [HED.out, hok, Bool.false_and])])
          clear hok hcm hq
          go_upto_region 10 with fail
          go_quiet ((go_at_call 118; exact Calls.quiet_of_same (rwhole_q _ _)))
          go_wp2
          go_ret2
          rw [HA.out]
          exact RAtR.err (Chg3.of_below (below_call (below_drewN hB) HB9.out))
    · obtain rfl : j = tin.length := by omega
      have hltz : ¬ (tin.length : Int) < (tin.length : Int) := by omega
      have hEQ : eqP okR tin (s0.drop m) = true := by
        have h1 := HE.out
        have h2 : ((s0.drop m).drop tin.length) = [] := by
          rw [List.drop_drop]
          exact List.drop_of_length_le (by have := HM.out; omega)
        rw [List.drop_length, h2] at h1
        rw [← h1]
        rfl
      have HST3 := Lib.hid (show stepR x ii s0 = if 64 < (s0.take m ++ tout).length then none else some (s0.take m ++ tout) by rw [HST2.out, hEQ, if_neg (by simp)])
      clear hEQ HST2 HE
      have hBw : Below w.heap.size w wr := below_call hB HB9.out
      have HTK := Lib.hid (show Sl encI 1 wr (.slice Au m cu) (s0.take m) from (HSB.out.1.upto (by have := HM.out; omega)).below hBw)
      have HTO2 := Lib.hid (HS2.out.below hB)
      have hmcu : (m : Int) ≤ (cu : Int) := by have := HM.out; omega
      have htk : (s0.take m).length = m := by rw [List.length_take]; have := HM.out; omega
      have HTKL := Lib.hid htk
      have hm64 : m + tout.length ≤ 65 := by have := HM.out; omega
      have HLI := Lib.hid (show (wr.alloc (.cells #[] 3)).ownsRow wr.heap.size 3 1 (.slice (some ⟨wr.heap.size, 0, none⟩) 0 0) 0 [] from World.ownsRow_lit wr #[] 0 (Nat.le_refl _) (by decide) (by rfl))
      clear htk
      go_upto_region 13 with (first | (at_builtin; refine wpList_app _ rfl (.tmp 89) (.tmp 92) 22 rfl wr.heap.size 3 _ 1 8 Tryz.underlying22 info_int rfl (by decide) encI encI_len one_I (.slice (some ⟨wr.heap.size, 0, none⟩) 0 0) _ _ rfl HLI.out _ (s0.take m) rfl (HTK.out.below (by (repeat' (first | (with_reducible exact Below.refl _ _) | (with_reducible refine below_alloc ?_) | (with_reducible refine below_drew ?_) | (with_reducible refine below_drewN ?_) | (with_reducible refine below_set (by simp; omega) ?_) | (with_reducible refine below_call (by with_reducible assumption) ?_))))) (by rw [HTKL.out]; unfold maxLen; omega) (by rw [HTKL.out]; omega) (by simp) ?_; intro q1 w10 ho10 hg10; rw [HTKL.out, Nat.zero_add, List.nil_append] at ho10; have HO10 := Lib.hid ho10; have HG10 := Lib.hid (below_grown (w := wr) (below_alloc (Below.refl _ _)) hg10 (own_ge HLI.out (Nat.le_refl _))); clear ho10 hg10) | (at_builtin; refine wpList_app _ rfl (.tmp 93) (.tmp 94) 22 rfl wr.heap.size 3 _ 1 8 Tryz.underlying22 info_int rfl (by decide) encI encI_len one_I q1 _ _ rfl HO10.out _ tout rfl (HTO2.out.below HG10.out) (by unfold maxLen; omega) (by omega) (by have := HG10.out.size; omega) ?_; intro q2 w11 ho11 hg11; obtain ⟨A11, c11, rfl⟩ := own_slice ho11; have HO11 := Lib.hid ho11; have HG11 := Lib.hid (below_grown (w := wr) HG10.out hg11 (own_ge HO10.out (Nat.le_refl _))); clear ho11 hg11))
      have hB11 : Below w.heap.size w w11 := below_call HG11.out hBw
      have HL11 := Lib.hid (HLK.out.below hB11)
      have HST4 := Lib.hid (show (s0.take m ++ tout).length = m + tout.length by rw [List.length_append, HTKL.out])
      have HQ2 := Lib.hid (show Sl encI 1 w11 (.slice A11 (m + tout.length) c11) (s0.take m ++ tout) from Sl.own encI_len (by have h := HO11.out; rw [← List.flatMap_append] at h; exact h) HST4.out.symm)
      have HA11 := Lib.hid (row_lies HO11.out)
      have HBW := Lib.hid hBw
      clear HTK HTO2 HLI HO10 HG10
      by_cases h65 : 64 < m + tout.length
      · have h65z : (64 : Int) < (m : Int) + (tout.length : Int) := by omega
        have HA := Lib.hid (show atL x k rs ds ss deep back = .error ((k : Int), 151) by
          unfold atL
          rw [HII.out, HS0.out, HST3.out, if_pos (by rw [HST4.out]; exact h65)])
        clear h65
        go_wp2
        go_ret2
        rw [HA.out]
        exact RAtR.err (Chg3.of_below hB11)
      have h65z : ¬ (64 : Int) < (m : Int) + (tout.length : Int) := by omega
      have HAT := Lib.hid (show atL x k rs ds ss deep back = (match tosL x.code.length k ds (s0.take m ++ tout) (goesL k ii) rs ss back with
          | .error e => .error e
          | .ok (rs', ss', back') => .ok (rs', ss', max deep ((m + tout.length : Nat) : Int), back')) by
        unfold atL
        rw [HII.out, HS0.out, HST3.out, if_neg (by rw [HST4.out]; exact h65)]
        simp only [HST4.out])
      clear h65 HST3
      have f8 := frozen_of_row 8 HL11.out.look
      have g8 : w11.cell? ⟨bl, 8, none⟩ = some (.int .i64 deep) := cell_of_row _ _ 8 _ _ _ HL11.out.look
      have g5 : w11.cell? ⟨bl, 5, none⟩ = some (.slice (some ⟨bi, oi, none⟩) x.code.length cc) := cell_of_row _ _ 5 _ _ _ HL11.out.look
      have g6 : w11.cell? ⟨bl, 6, none⟩ = some (.slice (some ⟨bs, 0, none⟩) x.code.length x.code.length) := cell_of_row _ _ 6 _ _ _ HL11.out.look
      have g7 : w11.cell? ⟨bl, 7, none⟩ = some (.slice (some ⟨bt, 0, none⟩) x.code.length x.code.length) := cell_of_row _ _ 7 _ _ _ HL11.out.look
      clear d6 d7 d8 dk
      go_upto_region 16 with fail
      have HL12 := Lib.hid (HL11.out.deep_ (max deep ((m : Int) + (tout.length : Int))))
      have HC12 := Lib.hid (Chg3.set1 (b1 := bl) (b2 := bs) (b3 := bt) (Chg3.of_below hB11) 8 (.int .i64 (max deep ((m : Int) + (tout.length : Int)))))
      have hbw : base ≤ wr.heap.size := Nat.le_trans hb HBW.out.size
      have HNX := Lib.hid ((show SlB base w11 (.slice A11 (m + tout.length) c11) (s0.take m ++ tout) from ⟨HQ2.out, HA11.out.imp id (fun ⟨b, o, l, c, h1, h2⟩ => ⟨b, o, l, c, h1, Nat.le_trans hbw h2⟩)⟩).grown (grown_cell w11 bl 8 (.int .i64 (max deep ((m : Int) + (tout.length : Int))))) HL11.out.gl)
      have hB911 : Below w9.heap.size w9 w11 := below_call HG11.out hB
      obtain ⟨-, -, -, -, -, -, p0, p1, p2, p3⟩ := hB9'.out
      have hbx9 : w.heap.size < w9.heap.size := World.block_lt_of_cell? _ _ p0
      have hneb : bl ≠ w.heap.size := by omega
      have hfar : ∀ o, (w11.setCell ⟨bl, 8, none⟩ (.int .i64 (max deep ((m : Int) + (tout.length : Int))))).cell? ⟨w.heap.size, o, none⟩ = w11.cell? ⟨w.heap.size, o, none⟩ := fun o => World.cell?_setCell_far _ _ _ _ hneb
      have q0 := (hfar 0).trans ((hB911.cell (p := ⟨w.heap.size, 0, none⟩) hbx9).trans p0)
      have q1 := (hfar 1).trans ((hB911.cell (p := ⟨w.heap.size, 1, none⟩) hbx9).trans p1)
      have q2 := (hfar 2).trans ((hB911.cell (p := ⟨w.heap.size, 2, none⟩) hbx9).trans p2)
      have q3 := (hfar 3).trans ((hB911.cell (p := ⟨w.heap.size, 3, none⟩) hbx9).trans p3)
      clear hfar f8 g8 g5 g6 g7 p0 p1 p2 p3 hB911 hB11 HL11 HQ2 HA11 HG11 HO11 hB9'
      generalize w11.setCell ⟨bl, 8, none⟩ (.int .i64 (max deep ((m : Int) + (tout.length : Int)))) = w12 at HL12 HC12 HNX q0 q1 q2 q3 ⊢
      go_upto_region 17 with (go_at_call 119; refine (rgoes_c k ii w12 (by omega)).mono ?_; rintro e w13 ⟨u3, rfl, hS3, hF3, hb13⟩; obtain ⟨A3, c3, rfl, -⟩ := id hS3; have HS3 := Lib.hid hS3; have HF3 := Lib.hid hF3; clear hS3 hF3)
      have hb12 : base ≤ w12.heap.size := Nat.le_trans hb HC12.out.size
      have HTOS := Lib.hid (show SlB base w13 (.slice A3 (goesL k ii).length c3) (goesL k ii) from ⟨HS3.out, HF3.out.imp id (fun ⟨b, o, l, c, h1, h2⟩ => ⟨b, o, l, c, h1, Nat.le_trans hb12 h2⟩)⟩)
      have HNX13 := Lib.hid (HNX.out.kept hb13.size (fun b _ hlt' => hb13.block b hlt'))
      have HL13 := Lib.hid (HL12.out.below hb13)
      have HC13 := Lib.hid (HC12.out.then hb13)
      have HGE := Lib.hid (goesL_ge (x := x) (at_ := (k : Int)) hk0 HMI.out)
      clear HNX HL12 HC12 HS3 HF3 q0 q1 q2 q3
      have htos2 : (goesL k ii).length ≤ 2 := by unfold goesL; repeat' split
                                                 all_goals simp
      generalize goesL k ii = tos at HAT HTOS HGE htos2 ⊢
      go_wp2
      go_loopg [14] tos.length (fun gg s14 wr => ∃ (j : Nat) (rs1 : List Bool) (ss1 : List (List Int)) (bk : Int), s14 = .int .i64 j ∧ j ≤ tos.length ∧ tos.length - j ≤ gg ∧ Aside (RLook base bl bs bt x.code.length (.string x.name) v1 v2 v3 v4 (.slice (some ⟨bi, oi, none⟩) x.code.length cc) rs1 ds ss1 (max deep ((m : Int) + (tout.length : Int))) wr) ∧ Aside (Chg3 bl bs bt w13 wr) ∧ Aside (∀ i, ds.getD i false = true → rs1.getD i false = true) ∧ Aside (tosL x.code.length k ds (s0.take m ++ tout) (tos.drop j) rs1 ss1 bk = tosL x.code.length k ds (s0.take m ++ tout) tos rs ss back))
      case atStart => exact ⟨0, rs, ss, back, rfl, Nat.zero_le _, by omega, HL13.out, (show Aside _ from Chg3.of_below (Below.refl _ _)), HDR.out, rfl⟩
      case round =>
        obtain ⟨j, rs1, ss1, bk, rfl, hj, hg, HLR, HCR, HDR1, HTR⟩ := hrel
        have hLR := HLR.out
        have g5 : wr.cell? ⟨bl, 5, none⟩ = some (.slice (some ⟨bi, oi, none⟩) x.code.length cc) := cell_of_row _ _ 5 _ _ _ hLR.look
        have g6 : wr.cell? ⟨bl, 6, none⟩ = some (.slice (some ⟨bs, 0, none⟩) x.code.length x.code.length) := cell_of_row _ _ 6 _ _ _ hLR.look
        have g7 : wr.cell? ⟨bl, 7, none⟩ = some (.slice (some ⟨bt, 0, none⟩) x.code.length x.code.length) := cell_of_row _ _ 7 _ _ _ hLR.look
        have hCw := HC13.out.trans HCR.out
        have HCW := Lib.hid hCw
        clear hCw
        by_cases hlt : j < tos.length
        case neg =>
          obtain rfl : j = tos.length := by omega
          have hltz : ¬ (tos.length : Int) < (tos.length : Int) := by omega
          have HA := Lib.hid (show atL x k rs ds ss deep back = .ok (rs1, ss1, max deep ((m + tout.length : Nat) : Int), bk) by
            have h1 := HTR.out
            rw [List.drop_length, tosL] at h1
            rw [HAT.out, ← h1])
          clear hLR
          go_wp2
          go_ret2
          rw [HA.out]
          refine RAtR.ok HCW.out ?_
          have h2 := HLR.out
          rw [show ((m + tout.length : Nat) : Int) = (m : Int) + (tout.length : Int) from by omega]
          exact h2
        have hltz : (j : Int) < (tos.length : Int) := by omega
        have hj0 : (0 : Int) ≤ (j : Int) := Int.natCast_nonneg _
        have hj2 : (j : Int) ≤ 2 := by omega
        obtain ⟨tt, htt⟩ : ∃ tt, tos[j]? = some tt := ⟨tos[j], List.getElem?_eq_getElem hlt⟩
        have ht0 := HGE.out tt (List.mem_of_getElem? htt)
        obtain ⟨b3, o3, rfl, hb3, hc3⟩ := (HTOS.out.chg HCR.out hLR.gl hLR.gs hLR.gt).1.cells j tt htt
        have e1 : wr.cell? ⟨b3, o3 + j, none⟩ = some (.int .i64 tt) := by simpa using hc3 0 _ rfl
        have HNR := Lib.hid (HNX13.out.chg HCR.out hLR.gl hLR.gs hLR.gt)
        have HTJ := Lib.hid (show tosL x.code.length k ds (s0.take m ++ tout) (tt :: tos.drop (j + 1)) rs1 ss1 bk = tosL x.code.length k ds (s0.take m ++ tout) tos rs ss back by rw [← HTR.out, drop_cons htt])
        clear htt hc3 hLR
        by_cases htn : (x.code.length : Int) ≤ tt
        · have HA := Lib.hid (show atL x k rs ds ss deep back = .error ((k : Int), 150) by
            have h1 := HTJ.out
            rw [tosL, if_pos htn] at h1
            rw [HAT.out, ← h1])
          go_upto_region 20 with fail
          go_quiet (fail)
          go_wp2
          go_ret2
          rw [HA.out]
          exact RAtR.err (HCW.out.then (below_drewN (Below.refl _ _)))
        obtain ⟨tn, rfl⟩ : ∃ tn : Nat, tt = tn := ⟨tt.toNat, by omega⟩
        have htl : tn < x.code.length := by omega
        have htlz : (tn : Int) < (x.code.length : Int) := by omega
        have htnz : ¬ (x.code.length : Int) ≤ (tn : Int) := htn
        clear htn
        have HTK2 := Lib.hid (show (match reachS rs1 ss1 tn (s0.take m ++ tout) with
            | none => Except.error ((tn : Int), 151)
            | some (rs', ss') => tosL x.code.length k ds (s0.take m ++ tout) (tos.drop (j + 1)) rs' ss' (if ds.getD tn false then bk else min bk tn)) = tosL x.code.length k ds (s0.take m ++ tout) tos rs ss back by
          have h1 := HTJ.out
          rw [tosL, if_neg htnz, Int.toNat_natCast] at h1
          exact h1)
        have hst := HLR.out.st_at htl
        cases hr : rs1.getD tn false with
        | false =>
          have hdf : ds.getD tn false = false := by
            cases hd : ds.getD tn false with
            | false => rfl
            | true => rw [HDR1.out tn hd] at hr; cases hr
          rw [hr, hdf] at hst
          have e2 : wr.cell? ⟨bt, tn, none⟩ = some (.int .i64 0) := hst
          have f2 := frozen_of_row tn HLR.out.sts
          have HRS := Lib.hid (show tosL x.code.length k ds (s0.take m ++ tout) (tos.drop (j + 1)) (rs1.set tn true) (ss1.set tn (s0.take m ++ tout)) (if ds.getD tn false then bk else min bk tn) = tosL x.code.length k ds (s0.take m ++ tout) tos rs ss back by
            have h1 := HTK2.out
            unfold reachS at h1
            rw [hr, if_neg (by simp)] at h1
            exact h1)
          clear hst
          have HNR2 := Lib.hid HNR.out
          go_upto_region 20 with fail
          go_quiet (fail)
          go_upto_region 22 with fail
          go_quiet (fail)
          go_upto_region 23 with fail
          go_region
          have hbase3 : base ≤ b3 := by
            rcases HTOS.out.2 with h | ⟨b, o, l, c, h, h'⟩
            · injection h with h _ _
              cases h
            · injection h with h _ _
              injection h with h
              injection h with h _
              omega
          obtain ⟨uo, huo⟩ : ∃ uo, wr.cell? ⟨bs, tn, none⟩ = some uo := by
            obtain ⟨us1, hu1, hu2, -⟩ := HLR.out.stk
            exact ⟨us1[tn]'(by omega), by rw [cell_of_row _ _ _ _ _ _ hu1]; simp [List.getElem?_eq_getElem (show tn < us1.length by omega)]⟩
          have fuo : wr.frozen? ⟨bs, tn, none⟩ = false := by
            obtain ⟨us1, hu1, hu2, -⟩ := HLR.out.stk
            exact frozen_of_row tn hu1
          have hgl := HLR.out.gl
          have hgs := HLR.out.gs
          have hgt := HLR.out.gt
          have hbtl : bt ≠ bl := fun e => HLR.out.n2 e.symm
          have hbts : bt ≠ bs := fun e => HLR.out.n3 e.symm
          have hbt3 : bt ≠ b3 := by omega
          have hbs3 : bs ≠ b3 := by omega
          have HS24 := Lib.hid (show ∀ q, ((wr.drewN q).setCell ⟨bt, tn, none⟩ (.int .i64 1)).cell? ⟨bl, 6, none⟩ = some (.slice (some ⟨bs, 0, none⟩) x.code.length x.code.length) ∧ ((wr.drewN q).setCell ⟨bt, tn, none⟩ (.int .i64 1)).cell? ⟨b3, o3 + j, none⟩ = some (.int .i64 tn) ∧ ((wr.drewN q).setCell ⟨bt, tn, none⟩ (.int .i64 1)).cell? ⟨bs, tn, none⟩ = some uo ∧ ((wr.drewN q).setCell ⟨bt, tn, none⟩ (.int .i64 1)).frozen? ⟨bs, tn, none⟩ = false ∧ RLook base bl bs bt x.code.length (.string x.name) v1 v2 v3 v4 (.slice (some ⟨bi, oi, none⟩) x.code.length cc) (rs1.set tn true) ds ss1 (max deep ((m : Int) + (tout.length : Int))) ((wr.drewN q).setCell ⟨bt, tn, none⟩ (.int .i64 1)) ∧ Chg3 bl bs bt w13 ((wr.drewN q).setCell ⟨bt, tn, none⟩ (.int .i64 1)) ∧ SlB base ((wr.drewN q).setCell ⟨bt, tn, none⟩ (.int .i64 1)) (.slice A11 (m + tout.length) c11) (s0.take m ++ tout) from fun q => ⟨
            (World.cell?_setCell_far _ _ _ _ hbtl).trans g6, (World.cell?_setCell_far _ _ _ _ hbt3).trans e1, (World.cell?_setCell_far _ _ _ _ hbts).trans huo, by
              obtain ⟨us1, hu1, hu2, -⟩ := HLR.out.stk
              exact frozen_of_row tn ((heap_setCell_other (wr.drewN q) ⟨bt, tn, none⟩ bs _ (fun e => hbts e.symm)).trans hu1),
            RLook.reach_ (RLook.drewN_ HLR.out) htl hdf, Chg3.set3 (Chg3.drewN_ HCR.out) _ _, SlB.grown (SlB.drewN_ HNR.out) (grown_cell _ _ _ _) HLR.out.gt⟩)
          clear huo fuo hgl hgs hgt
          go_upto_region 24 with fail
          rename_i nq1
          generalize hW24 : (wr.drewN (nq1 + nq + 1)).setCell ⟨bt, tn, none⟩ (.int .i64 1) = W24
          have hh := HS24.out (nq1 + nq + 1)
          rw [hW24] at hh
          obtain ⟨k1, k2, k3, k4, HL24, HC24, HN24⟩ := hh
          have HL24 := Lib.hid HL24
          have HC24 := Lib.hid HC24
          have HN24 := Lib.hid HN24
          clear hW24 HS24
          go_region
          all_goals go_wp2
          all_goals go_roundg (tos.length - (j + 1))
          all_goals first | omega | (refine ⟨j + 1, rs1.set tn true, ss1.set tn (s0.take m ++ tout), _, by go_num, by omega, by omega, ?_, ?_, hdr_set HDR1.out, HRS.out⟩; (show RLook _ _ _ _ _ _ _ _ _ _ _ _ _ _ _ _; (repeat' (first | (exact HL24.out) | (refine RLook.drew_ ?_) | (refine RLook.drewN_ ?_) | (refine RLook.stack_ ?_ htl ?_) | (exact HN24.out) | (refine SlB.drew_ ?_) | (refine SlB.drewN_ ?_)))); (show Chg3 _ _ _ _ _; (repeat' (first | (exact HC24.out) | (refine Chg3.drew_ ?_) | (refine Chg3.drewN_ ?_) | (refine Chg3.set2 ?_ _ _)))))
        | true =>
          have hs0' : ∃ s1, ss1[tn]? = some s1 := ⟨ss1[tn]'(by rw [HLR.out.ls]; exact htl), List.getElem?_eq_getElem _⟩
          obtain ⟨s1, hs1⟩ := hs0'
          obtain ⟨us1, hu1, hu2, hu3⟩ := HLR.out.stk
          obtain ⟨u1, hu1'⟩ : ∃ u1, us1[tn]? = some u1 := ⟨us1[tn]'(by omega), List.getElem?_eq_getElem _⟩
          have hsu := hu3 tn u1 s1 hu1' hs1
          have e3 : wr.cell? ⟨bs, tn, none⟩ = some u1 := by rw [cell_of_row _ _ _ _ _ _ hu1]; simpa using hu1'
          have hbs3 : bs < wr.heap.size := (Array.getElem?_eq_some_iff.1 hu1).1
          have HSM := Lib.hid (rsame15_c s1 (s0.take m ++ tout) u1 _ wr.drew (hsu.1.below (below_drew (Below.refl _ _))) (HNR.out.1.below (below_drew (Below.refl _ _))))
          obtain ⟨sv, hsv, hsn⟩ : ∃ sv : Int, wr.cell? ⟨bt, tn, none⟩ = some (.int .i64 sv) ∧ (sv == 0) = false := by
            rw [hr] at hst
            cases hd : ds.getD tn false with
            | true => exact ⟨2, by rw [hd] at hst; exact hst, by decide⟩
            | false => exact ⟨1, by rw [hd] at hst; exact hst, by decide⟩
          have HSS := Lib.hid (show ss1.getD tn [] = s1 by rw [List.getD_eq_getElem?_getD, hs1]; rfl)
          obtain ⟨⟨Aq, cq, rfl, -⟩, -⟩ := id hsu
          have hblr : bl < wr.heap.size := (Array.getElem?_eq_some_iff.1 HLR.out.look).1
          have HSM2 := Lib.hid (fun W (hW : Below wr.heap.size wr W) => rsame15_c s1 (s0.take m ++ tout) (.slice Aq s1.length cq) (.slice A11 (m + tout.length) c11) W (hsu.1.below hW) (HNR.out.1.below hW))
          have HK := Lib.hid (show ∀ W, Below wr.heap.size wr W → (W.cell? ⟨bl, 6, none⟩ = some (.slice (some ⟨bs, 0, none⟩) x.code.length x.code.length) ∧ W.cell? ⟨b3, o3 + j, none⟩ = some (.int .i64 tn) ∧ W.cell? ⟨bs, tn, none⟩ = some (.slice Aq s1.length cq)) from fun W hW => ⟨(hW.cell (p := ⟨bl, 6, none⟩) hblr).trans g6, (hW.cell (p := ⟨b3, o3 + j, none⟩) hb3).trans e1, (hW.cell (p := ⟨bs, tn, none⟩) hbs3).trans e3⟩)
          clear hu3 hu1 hu1' hs1 hst hsu HSM
          by_cases hse : s1 = s0.take m ++ tout
          · have HRS := Lib.hid (show tosL x.code.length k ds (s0.take m ++ tout) (tos.drop (j + 1)) rs1 ss1 (if ds.getD tn false then bk else min bk tn) = tosL x.code.length k ds (s0.take m ++ tout) tos rs ss back by
              have h1 := HTK2.out
              unfold reachS at h1
              rw [hr, if_pos rfl, HSS.out, if_pos hse] at h1
              exact h1)
            have HSQ := Lib.hid (fun W (hW : Below wr.heap.size wr W) => (by have h := HSM2.out W hW; rw [decide_eq_true hse] at h; exact h : Calls Tryz.prog 120 #[.slice Aq s1.length cq, .slice A11 (m + tout.length) c11] W fun e w' => e = .returned (.bool true) ∧ Below W.heap.size W w'))
            clear hse hr
            go_upto_region 20 with fail
            go_quiet (fail)
            go_upto_region 22 with fail
            go_quiet (fail)
            go_upto_region 25 with fail
            go_region_held3 (fun W => W.cell? ⟨bl, 6, none⟩ = some (.slice (some ⟨bs, 0, none⟩) x.code.length x.code.length) ∧ W.cell? ⟨b3, o3 + j, none⟩ = some (.int .i64 tn) ∧ W.cell? ⟨bs, tn, none⟩ = some (.slice Aq s1.length cq)) (first | exact HK.out _ (by (repeat' (first | (with_reducible exact Below.refl _ _) | (with_reducible refine below_alloc ?_) | (with_reducible refine below_drew ?_) | (with_reducible refine below_drewN ?_) | (with_reducible refine below_set (by simp; omega) ?_) | (with_reducible refine below_call (by with_reducible assumption) ?_))))) (first | (go_at_call 120; refine (HSQ.out _ (by (repeat' (first | (with_reducible exact Below.refl _ _) | (with_reducible refine below_alloc ?_) | (with_reducible refine below_drew ?_) | (with_reducible refine below_drewN ?_) | (with_reducible refine below_set (by simp; omega) ?_) | (with_reducible refine below_call (by with_reducible assumption) ?_))))).mono ?_; rintro e w14 ⟨rfl, hb14⟩))
            all_goals go_wp2
            all_goals go_roundg (tos.length - (j + 1))
            all_goals first | omega | exact ⟨j + 1, rs1, ss1, _, by go_num, by omega, by omega, HLR.out.below (by (repeat' (first | (with_reducible exact Below.refl _ _) | (with_reducible refine below_alloc ?_) | (with_reducible refine below_drew ?_) | (with_reducible refine below_drewN ?_) | (with_reducible refine below_set (by simp; omega) ?_) | (with_reducible refine below_call (by with_reducible assumption) ?_)))), HCR.out.then (by (repeat' (first | (with_reducible exact Below.refl _ _) | (with_reducible refine below_alloc ?_) | (with_reducible refine below_drew ?_) | (with_reducible refine below_drewN ?_) | (with_reducible refine below_set (by simp; omega) ?_) | (with_reducible refine below_call (by with_reducible assumption) ?_)))), HDR1.out, HRS.out⟩
          · have HA := Lib.hid (show atL x k rs ds ss deep back = .error ((tn : Int), 151) by
              have h1 := HTK2.out
              unfold reachS at h1
              rw [hr, if_pos rfl, HSS.out, if_neg hse] at h1
              rw [HAT.out, ← h1])
            have HSQ := Lib.hid (fun W (hW : Below wr.heap.size wr W) => (by have h := HSM2.out W hW; rw [decide_eq_false hse] at h; exact h : Calls Tryz.prog 120 #[.slice Aq s1.length cq, .slice A11 (m + tout.length) c11] W fun e w' => e = .returned (.bool false) ∧ Below W.heap.size W w'))
            clear hse hr
            go_upto_region 20 with fail
            go_quiet (fail)
            go_upto_region 22 with fail
            go_quiet (fail)
            go_upto_region 25 with fail
            go_region_held3 (fun W => W.cell? ⟨bl, 6, none⟩ = some (.slice (some ⟨bs, 0, none⟩) x.code.length x.code.length) ∧ W.cell? ⟨b3, o3 + j, none⟩ = some (.int .i64 tn) ∧ W.cell? ⟨bs, tn, none⟩ = some (.slice Aq s1.length cq)) (first | exact HK.out _ (by (repeat' (first | (with_reducible exact Below.refl _ _) | (with_reducible refine below_alloc ?_) | (with_reducible refine below_drew ?_) | (with_reducible refine below_drewN ?_) | (with_reducible refine below_set (by simp; omega) ?_) | (with_reducible refine below_call (by with_reducible assumption) ?_))))) (first | (go_at_call 120; refine (HSQ.out _ (by (repeat' (first | (with_reducible exact Below.refl _ _) | (with_reducible refine below_alloc ?_) | (with_reducible refine below_drew ?_) | (with_reducible refine below_drewN ?_) | (with_reducible refine below_set (by simp; omega) ?_) | (with_reducible refine below_call (by with_reducible assumption) ?_))))).mono ?_; rintro e w14 ⟨rfl, hb14⟩))
            all_goals go_wp2
            all_goals go_ret2
            all_goals (rw [HA.out]; exact RAtR.err (HCW.out.then (by (repeat' (first | (with_reducible exact Below.refl _ _) | (with_reducible refine below_alloc ?_) | (with_reducible refine below_drew ?_) | (with_reducible refine below_drewN ?_) | (with_reducible refine below_set (by simp; omega) ?_) | (with_reducible refine below_call (by with_reducible assumption) ?_))))))
end Go.Proofs.YtefpgjocfgeenaaGreatDoor
