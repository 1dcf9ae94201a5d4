/- The look of package capstanref15 as it lies, and its least place. -/
import Derived.Test.YtefpgjocfgeenaaGreatDoorRef15b
namespace Go.Proofs.YtefpgjocfgeenaaGreatDoor
open Go.RowKit Cap
set_option maxRecDepth 100000

/-- 0 not reached, 1 reached, 2 looked at. -/
def stV (r d : Bool) : Int := if d then 2 else if r then 1 else 0
def stsV (rs ds : List Bool) : List Int := List.zipWith stV rs ds
/-- A stack that lies behind a place. -/
def SlB (base : Nat) (w : World) (u : Value) (st : List Int) : Prop := Sl encI 1 w u st ∧ (u = .slice none 0 0 ∨ ∃ b o l c, u = .slice (some ⟨b, o, none⟩) l c ∧ base ≤ b)
theorem SlB.kept {base : Nat} {w w' : World} {u : Value} {st : List Int} (h : SlB base w u st) (hs : w.heap.size ≤ w'.heap.size) (hk : ∀ b, base ≤ b → b < w.heap.size → w'.heap[b]? = w.heap[b]?) : SlB base w' u st := by
  obtain ⟨⟨A, c, rfl, h1, h2, h3⟩, h4⟩ := h
  refine ⟨⟨A, c, rfl, h1, h2, fun i x hx => ?_⟩, h4⟩
  obtain ⟨b, off, rfl, hb, hc⟩ := h3 i x hx
  refine ⟨b, off, rfl, by omega, fun j v hv => ?_⟩
  have hbase : base ≤ b := by
    rcases h4 with h4 | ⟨b', o', l', c', h4, h5⟩
    · injection h4 with h4 _ _
      cases h4
    · injection h4 with h4 _ _
      injection h4 with h4
      injection h4 with h4 _
      omega
  rw [World.cell?_of_block (a := ⟨b, off + i * 1 + j, none⟩) (hk b hbase hb)]
  exact hc j v hv
structure RLook (base bl bs bt n : Nat) (v0 v1 v2 v3 v4 v5 : Value) (rs ds : List Bool) (ss : List (List Int)) (deep : Int) (w : World) : Prop where
  look : w.heap[bl]? = some (.cells #[v0, v1, v2, v3, v4, v5, .slice (some ⟨bs, 0, none⟩) n n, .slice (some ⟨bt, 0, none⟩) n n, .int .i64 deep] 76 (0, 0))
  sts : w.heap[bt]? = some (.cells ((stsV rs ds).flatMap encI).toArray 3 (0, 0))
  stk : ∃ us : List Value, w.heap[bs]? = some (.cells us.toArray 22 (0, 0)) ∧ us.length = n ∧ ∀ (k : Nat) u st, us[k]? = some u → ss[k]? = some st → SlB base w u st
  lr : rs.length = n
  ld : ds.length = n
  ls : ss.length = n
  gl : bl < base
  gs : bs < base
  gt : bt < base
  n1 : bl ≠ bs
  n2 : bl ≠ bt
  n3 : bs ≠ bt
theorem RLook.below {base bl bs bt n : Nat} {v0 v1 v2 v3 v4 v5 : Value} {rs ds : List Bool} {ss : List (List Int)} {deep : Int} {w w' : World} (h : RLook base bl bs bt n v0 v1 v2 v3 v4 v5 rs ds ss deep w) (hb : Below w.heap.size w w') : RLook base bl bs bt n v0 v1 v2 v3 v4 v5 rs ds ss deep w' := by
  obtain ⟨us, h1, h2, h3⟩ := h.stk
  have hlt : ∀ {b : Nat} {o : Obj}, w.heap[b]? = some o → w'.heap[b]? = some o := fun {b o} e => (hb.block b (Array.getElem?_eq_some_iff.1 e).1).trans e
  exact ⟨hlt h.look, hlt h.sts, ⟨us, hlt h1, h2, fun k u st e1 e2 => (h3 k u st e1 e2).kept hb.size (fun b _ hlt' => hb.block b hlt')⟩, h.lr, h.ld, h.ls, h.gl, h.gs, h.gt, h.n1, h.n2, h.n3⟩
theorem stsV_len {rs ds : List Bool} {n : Nat} (h1 : rs.length = n) (h2 : ds.length = n) : (stsV rs ds).length = n := by unfold stsV; rw [List.length_zipWith]; omega
theorem RLook.at_ {base bl bs bt n : Nat} {v0 v1 v2 v3 v4 v5 : Value} {rs ds : List Bool} {ss : List (List Int)} {deep : Int} {w : World} (h : RLook base bl bs bt n v0 v1 v2 v3 v4 v5 rs ds ss deep w) {k : Nat} {s : Int} (hk : (stsV rs ds)[k]? = some s) : w.cell? ⟨bt, k, none⟩ = some (.int .i64 s) := by
  rw [cell_of_row _ _ _ _ _ _ h.sts]
  have := flatMap_at (enc := encI) (k := 1) (fun _ => rfl) (stsV rs ds) k s 0 _ hk rfl
  simpa using this
set_option maxHeartbeats 2000000 in
theorem rleast_c {base bl bs bt n : Nat} {v0 v1 v2 v3 v4 v5 : Value} {rs ds : List Bool} {ss : List (List Int)} {deep : Int} (w : World) (h : RLook base bl bs bt n v0 v1 v2 v3 v4 v5 rs ds ss deep w) (hn : n ≤ 4096) :
    Calls Tryz.prog 67 #[.pointer (some ⟨bl, 0, none⟩)] w fun e w' => e = .returned (.int .i64 (idxP (fun s => s == 1) (stsV rs ds) 0)) ∧ Below w.heap.size w w' := by
  have HL := Lib.hid h
  have hlen := stsV_len h.lr h.ld
  have hblw : bl < w.heap.size := (Array.getElem?_eq_some_iff.1 h.look).1
  have hbtw : bt < w.heap.size := (Array.getElem?_eq_some_iff.1 h.sts).1
  have c7 : w.cell? ⟨bl, 7, none⟩ = some (.slice (some ⟨bt, 0, none⟩) n n) := cell_of_row _ _ 7 _ _ _ h.look
  have HLEN := Lib.hid hlen
  clear h hlen
  go_enter Tryz.func67, Tryz.ntmps67
  go_wp2
  go_loopg [3] n (fun gg s3 wr => ∃ k : Nat, s3 = .int .i64 k ∧ k ≤ n ∧ n - k ≤ gg ∧ Aside (Below w.heap.size w wr) ∧ Aside (idxP (fun s => s == 1) ((stsV rs ds).drop k) k = idxP (fun s => s == 1) (stsV rs ds) 0))
  case atStart => exact ⟨0, rfl, Nat.zero_le _, by omega, (show Aside _ from Below.refl _ _), rfl⟩
  case round =>
    obtain ⟨k, rfl, hk, hg, HB, HI⟩ := hrel
    have hB := HB.out
    have d7 : wr.cell? ⟨bl, 7, none⟩ = some (.slice (some ⟨bt, 0, none⟩) n n) := (hB.cell (p := ⟨bl, 7, none⟩) hblw).trans c7
    have hk96 : (k : Int) ≤ 4096 := by omega
    by_cases hlt : k < n
    · have hltz : (k : Int) < (n : Int) := by omega
      have hk0 : (0 : Int) ≤ (k : Int) := Int.natCast_nonneg _
      obtain ⟨s, hs⟩ : ∃ s, (stsV rs ds)[k]? = some s := ⟨(stsV rs ds)[k]'(by rw [HLEN.out]; exact hlt), List.getElem?_eq_getElem _⟩
      have e1 : wr.cell? ⟨bt, k, none⟩ = some (.int .i64 s) := (hB.cell (p := ⟨bt, k, none⟩) hbtw).trans (HL.out.at_ hs)
      have HID := Lib.hid (idxP_drop (p := fun s => s == 1) hs)
      clear hs
      cases hq : (s == 1) with
      | true =>
        have HR := Lib.hid (show idxP (fun s => s == 1) (stsV rs ds) 0 = (k : Int) by rw [← HI.out, HID.out]; simp [hq])
        go_wp2
        go_ret
        exact ⟨by rw [HR.out]; rfl, by (repeat' (first | (with_reducible exact Below.refl _ _) | (with_reducible refine below_alloc ?_) | (with_reducible refine below_drew ?_) | (with_reducible refine below_drewN ?_) | (with_reducible refine below_set (by simp; omega) ?_) | (with_reducible refine below_call (by with_reducible assumption) ?_)))⟩
      | false =>
        have HN := Lib.hid (show idxP (fun s => s == 1) ((stsV rs ds).drop (k + 1)) ((k + 1 : Nat) : Int) = idxP (fun s => s == 1) (stsV rs ds) 0 by rw [← HI.out, HID.out]; simp [hq])
        go_wp2
        go_roundg (n - (k + 1))
        case measure => omega
        case rel => exact ⟨k + 1, by go_num, by omega, by omega, hB, HN.out⟩
    · obtain rfl : k = n := by omega
      have hltz : ¬ (k : Int) < (k : Int) := by omega
      have HR := Lib.hid (show idxP (fun s => s == 1) (stsV rs ds) 0 = -1 by
        rw [← HI.out, List.drop_of_length_le (by rw [HLEN.out]; exact Nat.le_refl _)]
        rfl)
      go_wp2
      go_ret
      exact ⟨by rw [HR.out]; rfl, by (repeat' (first | (with_reducible exact Below.refl _ _) | (with_reducible refine below_alloc ?_) | (with_reducible refine below_drew ?_) | (with_reducible refine below_drewN ?_) | (with_reducible refine below_set (by simp; omega) ?_) | (with_reducible refine below_call (by with_reducible assumption) ?_)))⟩
theorem grown_cell (w : World) (b o : Nat) (u : Value) : w.grownBy (w.setCell ⟨b, o, none⟩ u) (some b) :=
  ⟨rfl, rfl, rfl, by simp, fun k _ hk => heap_setCell_other w ⟨b, o, none⟩ k u (fun e => hk (by rw [e]))⟩
theorem SlB.grown {base b : Nat} {w w' : World} {u : Value} {st : List Int} (h : SlB base w u st) (hg : w.grownBy w' (some b)) (hb : b < base) : SlB base w' u st :=
  h.kept hg.size (fun k hk hlt => hg.block k hlt (fun e => by injection e with e; omega))
/-- How deep it gets is put down. -/
theorem RLook.deep_ {base bl bs bt n : Nat} {v0 v1 v2 v3 v4 v5 : Value} {rs ds : List Bool} {ss : List (List Int)} {deep : Int} {w : World} (h : RLook base bl bs bt n v0 v1 v2 v3 v4 v5 rs ds ss deep w) (d : Int) : RLook base bl bs bt n v0 v1 v2 v3 v4 v5 rs ds ss d (w.setCell ⟨bl, 8, none⟩ (.int .i64 d)) := by
  have hg := grown_cell w bl 8 (.int .i64 d)
  have hlt : ∀ {b : Nat} {o : Obj}, b ≠ bl → w.heap[b]? = some o → (w.setCell ⟨bl, 8, none⟩ (.int .i64 d)).heap[b]? = some o := fun {b o} hne e => (hg.block b (Array.getElem?_eq_some_iff.1 e).1 (fun e' => hne (by injection e'))).trans e
  obtain ⟨us, h1, h2, h3⟩ := h.stk
  refine ⟨?_, hlt (fun e => h.n2 e.symm) h.sts, ⟨us, hlt (fun e => h.n1 e.symm) h1, h2, fun k u st e1 e2 => (h3 k u st e1 e2).grown hg h.gl⟩, h.lr, h.ld, h.ls, h.gl, h.gs, h.gt, h.n1, h.n2, h.n3⟩
  have := heap_setCell_same w bl 8 _ 76 (.int .i64 d) h.look
  simpa using this
/-- A place is reached. -/
theorem RLook.reach_ {base bl bs bt n : Nat} {v0 v1 v2 v3 v4 v5 : Value} {rs ds : List Bool} {ss : List (List Int)} {deep : Int} {w : World} (h : RLook base bl bs bt n v0 v1 v2 v3 v4 v5 rs ds ss deep w) {k : Nat} (hk : k < n) (hd : ds.getD k false = false) : RLook base bl bs bt n v0 v1 v2 v3 v4 v5 (rs.set k true) ds ss deep (w.setCell ⟨bt, k, none⟩ (.int .i64 1)) := by
  have hg := grown_cell w bt k (.int .i64 1)
  have hlt : ∀ {b : Nat} {o : Obj}, b ≠ bt → w.heap[b]? = some o → (w.setCell ⟨bt, k, none⟩ (.int .i64 1)).heap[b]? = some o := fun {b o} hne e => (hg.block b (Array.getElem?_eq_some_iff.1 e).1 (fun e' => hne (by injection e'))).trans e
  obtain ⟨us, h1, h2, h3⟩ := h.stk
  refine ⟨hlt h.n2 h.look, ?_, ⟨us, hlt h.n3 h1, h2, fun k u st e1 e2 => (h3 k u st e1 e2).grown hg h.gt⟩, by simp [h.lr], h.ld, h.ls, h.gl, h.gs, h.gt, h.n1, h.n2, h.n3⟩
  have h9 := heap_setCell_same w bt k _ 3 (.int .i64 1) h.sts
  have e : ((stsV rs ds).flatMap encI).toArray.setIfInBounds k (.int .i64 1) = ((stsV (rs.set k true) ds).flatMap encI).toArray := by
    apply Array.toList_inj.1
    have hm : ∀ l : List Int, l.flatMap encI = l.map (Value.int .i64) := by
      intro l
      induction l with
      | nil => rfl
      | cons x l ih => rw [List.flatMap_cons, ih]; rfl
    simp only [hm, List.setIfInBounds_toArray, ← List.map_set]
    congr 1
    apply List.ext_getElem?
    intro j
    unfold stsV
    by_cases hj : j = k
    · subst hj
      have hdk : ds[j]? = some false := by
        rw [List.getD_eq_getElem?_getD, List.getElem?_eq_getElem (by rw [h.ld]; exact hk)] at hd
        rw [List.getElem?_eq_getElem (by rw [h.ld]; exact hk)]
        simpa using hd
      rw [List.getElem?_set_self (by rw [List.length_zipWith, h.lr, h.ld]; omega), List.getElem?_zipWith, List.getElem?_set_self (by rw [h.lr]; exact hk), hdk]
      rfl
    · rw [List.getElem?_set_ne (fun e => hj e.symm), List.getElem?_zipWith, List.getElem?_zipWith, List.getElem?_set_ne (fun e => hj e.symm)]
  rw [e] at h9
  exact h9
/-- A stack is put behind a place. -/
theorem RLook.stack_ {base bl bs bt n : Nat} {v0 v1 v2 v3 v4 v5 : Value} {rs ds : List Bool} {ss : List (List Int)} {deep : Int} {w : World} (h : RLook base bl bs bt n v0 v1 v2 v3 v4 v5 rs ds ss deep w) {k : Nat} (hk : k < n) {u : Value} {st : List Int} (hu : SlB base w u st) : RLook base bl bs bt n v0 v1 v2 v3 v4 v5 rs ds (ss.set k st) deep (w.setCell ⟨bs, k, none⟩ u) := by
  have hg := grown_cell w bs k u
  have hlt : ∀ {b : Nat} {o : Obj}, b ≠ bs → w.heap[b]? = some o → (w.setCell ⟨bs, k, none⟩ u).heap[b]? = some o := fun {b o} hne e => (hg.block b (Array.getElem?_eq_some_iff.1 e).1 (fun e' => hne (by injection e'))).trans e
  obtain ⟨us, h1, h2, h3⟩ := h.stk
  refine ⟨hlt h.n1 h.look, hlt (fun e => h.n3 e.symm) h.sts, ⟨us.set k u, ?_, by simp [h2], fun j u' st' e1 e2 => ?_⟩, h.lr, h.ld, by simp [h.ls], h.gl, h.gs, h.gt, h.n1, h.n2, h.n3⟩
  · have := heap_setCell_same w bs k _ 22 u h1
    simpa using this
  · by_cases hj : j = k
    · subst hj
      rw [List.getElem?_set_self (by omega)] at e1
      rw [List.getElem?_set_self (by rw [h.ls]; exact hk)] at e2
      injection e1 with e1
      injection e2 with e2
      subst e1 e2
      exact hu.grown hg h.gs
    · rw [List.getElem?_set_ne (fun e => hj e.symm)] at e1 e2
      exact (h3 j u' st' e1 e2).grown hg h.gs
end Go.Proofs.YtefpgjocfgeenaaGreatDoor
