/- (*fold.resolver).ask: what it stands on. -/
import Derived.Test.YtenjkplijblcoaaGreatDoorCFKind
import Derived.Test.YtenjkplijblcoaaGreatDoorCFFolded
set_option linter.unusedSimpArgs false
set_option linter.unusedVariables false
namespace Cap
open Go Go.RowKit
theorem ask_len (vars : List Vr) : ∀ (T : Ex) (t : Int), (askX vars t T).flat.length = T.flat.length
  | .leaf p, t => by
    rw [askX]
    split <;> rfl
  | .un p a, t => by
    rw [askX, Ex.flat, Ex.flat, List.length_append, List.length_append, ask_len vars a]
  | .bin p a b, t => by
    rw [askX]
    rw [Ex.flat, Ex.flat, List.length_append, List.length_append, List.length_append, List.length_append, ask_len vars a, ask_len vars b]
/-- Where the values of each part begin. -/
def VOk (vals : Nat → List Int) : Nat → Ex → Prop
  | a, .leaf _ => vals a = []
  | a, .un _ A => vals (a + A.flat.length) = [(a : Int)] ∧ VOk vals a A
  | a, .bin _ A B => vals (a + A.flat.length + B.flat.length) = [(a : Int), ((a + A.flat.length : Nat) : Int)] ∧ VOk vals a A ∧ VOk vals (a + A.flat.length) B
theorem vok_tree (x : List Prt) : ∀ (T : Ex) (a : Nat), T.Ok → LiesAt x a T → VOk (valsAt x) a T
  | .leaf p, a, ho, h => valsAt_leaf ho h
  | .un p A, a, ho, h => ⟨valsAt_un ho h, vok_tree x A a ho.2 h.un.1⟩
  | .bin p A B, a, ho, h => ⟨valsAt_bin ho h, vok_tree x A a ho.2.1 h.bin.1, vok_tree x B _ ho.2.2 h.bin.2.1⟩
theorem LiesAt.lt {x : List Prt} {a : Nat} {T : Ex} (h : LiesAt x a T) : a + T.flat.length ≤ x.length := by
  have hp := flat_pos T
  obtain ⟨p, hq⟩ : ∃ p, T.flat[T.flat.length - 1]? = some p := ⟨_, List.getElem?_eq_getElem (by omega)⟩
  have := (List.getElem?_eq_some_iff.1 (h _ p hq)).1
  omega
/-- An expression's parts turned, the others kept. -/
structure TurnX (cur cur' : List Prt) (a : Nat) (T' : Ex) : Prop where
  len : cur'.length = cur.length
  out : ∀ j, (j < a ∨ a + T'.flat.length ≤ j) → cur'[j]? = cur[j]?
  lies : LiesAt cur' a T'
theorem LiesAt.turn {cur cur' : List Prt} {a b : Nat} {T T' : Ex} (h : LiesAt cur b T) (k : TurnX cur cur' a T') (hab : b + T.flat.length ≤ a ∨ a + T'.flat.length ≤ b) : LiesAt cur' b T := fun j p hp => by
  have := (List.getElem?_eq_some_iff.1 hp).1
  rw [k.out (b + j) (by omega)]
  exact h j p hp
theorem liesAt_un {x : List Prt} {a : Nat} {p : Prt} {A : Ex} (h : LiesAt x a A) (hp : x[a + A.flat.length]? = some p) : LiesAt x a (.un p A) := fun j q hq => by
  rw [Ex.flat] at hq
  by_cases hj : j < A.flat.length
  · rw [List.getElem?_append_left hj] at hq
    exact h j q hq
  · have hl := (List.getElem?_eq_some_iff.1 hq).1
    rw [List.length_append, List.length_singleton] at hl
    obtain rfl : j = A.flat.length := by omega
    rw [List.getElem?_append_right (Nat.le_refl _)] at hq
    simp at hq
    rw [← hq]
    exact hp
theorem liesAt_bin {x : List Prt} {a : Nat} {p : Prt} {A B : Ex} (h : LiesAt x a A) (h' : LiesAt x (a + A.flat.length) B) (hp : x[a + A.flat.length + B.flat.length]? = some p) : LiesAt x a (.bin p A B) := fun j q hq => by
  rw [Ex.flat] at hq
  by_cases hj : j < A.flat.length
  · rw [List.append_assoc, List.getElem?_append_left hj] at hq
    exact h j q hq
  · by_cases hj' : j < A.flat.length + B.flat.length
    · rw [List.append_assoc, List.getElem?_append_right (by omega), List.getElem?_append_left (by omega)] at hq
      have := h' _ q hq
      rw [← this]
      congr 1
      omega
    · have hl := (List.getElem?_eq_some_iff.1 hq).1
      rw [List.length_append, List.length_append, List.length_singleton] at hl
      obtain rfl : j = A.flat.length + B.flat.length := by omega
      rw [List.getElem?_append_right (by rw [List.length_append]; omega)] at hq
      simp at hq
      rw [← hq, ← Nat.add_assoc]
      exact hp
theorem TurnX.un {cur cur' : List Prt} {a : Nat} {p : Prt} {A A' : Ex} (h : LiesAt cur a (.un p A)) (k : TurnX cur cur' a A') (hl : A'.flat.length = A.flat.length) : TurnX cur cur' a (.un p A') := by
  have hf : (Ex.un p A').flat.length = A'.flat.length + 1 := by rw [Ex.flat, List.length_append, List.length_singleton]
  refine ⟨k.len, fun j hj => k.out j (by omega), liesAt_un k.lies ?_⟩
  rw [k.out _ (.inr (Nat.le_refl _)), hl]
  exact h.un.2
theorem TurnX.bin {cur c1 c2 : List Prt} {a : Nat} {p : Prt} {A A' B B' : Ex} (h : LiesAt cur a (.bin p A B)) (k : TurnX cur c1 a A') (k2 : TurnX c1 c2 (a + A.flat.length) B') (hl : A'.flat.length = A.flat.length) (hl2 : B'.flat.length = B.flat.length) : TurnX cur c2 a (.bin p A' B') := by
  have hf : (Ex.bin p A' B').flat.length = A'.flat.length + B'.flat.length + 1 := by rw [Ex.flat, List.length_append, List.length_append, List.length_singleton]
  refine ⟨k2.len.trans k.len, fun j hj => (k2.out j (by omega)).trans (k.out j (by omega)), liesAt_bin (k.lies.turn k2 (.inl (by omega))) (by rw [hl]; exact k2.lies) ?_⟩
  rw [k2.out _ (by omega), k.out _ (by omega), hl, hl2]
  exact h.bin.2.2
end Cap
namespace Go.Proofs.YtenjkplijblcoaaGreatDoor
open Go.RowKit Cap
set_option maxRecDepth 100000

theorem segX_tree {x : List Prt} {a : Nat} {T : Ex} (h : LiesAt x a T) : segX x a (a + T.flat.length) = T.flat := by
  apply List.ext_getElem?
  intro j
  rw [segX, show a + T.flat.length - a = T.flat.length by omega]
  by_cases hj : j < T.flat.length
  · rw [List.getElem?_take_of_lt hj, List.getElem?_drop]
    obtain ⟨p, hp⟩ : ∃ p, T.flat[j]? = some p := ⟨T.flat[j], List.getElem?_eq_getElem hj⟩
    rw [hp, h j p hp]
  · rw [List.getElem?_eq_none (by rw [List.length_take]; omega), List.getElem?_eq_none (by omega)]
theorem flatMap_set5 : ∀ (cur : List Prt) (a : Nat) (p : Prt) (t : Int), cur[a]? = some p → (cur.flatMap encPrt).set (a * 5 + 2) (.int .i64 t) = (cur.set a ⟨p.k, p.n, t, p.s, p.f⟩).flatMap encPrt
  | [], a, p, t, h => by simp at h
  | q :: r, 0, p, t, h => by
    simp at h
    subst h
    simp [encPrt]
  | q :: r, a + 1, p, t, h => by
    rw [List.set_cons_succ, List.flatMap_cons, List.flatMap_cons, ← flatMap_set5 r a p t (by simpa using h), List.set_append_right _ _ (by rw [encPrt_len]; omega), encPrt_len]
    congr 2
    omega
/-- The resolver's values: each lies in a block behind x's. -/
def Vals (W : World) (g : Nat) (vl : Value) (vals : Nat → List Int) (N : Nat) : Prop :=
  ∃ h c, vl = .slice (some ⟨h, 0, none⟩) N c ∧ N ≤ c ∧ g < h ∧ h < W.heap.size ∧ ∀ i, i < N → ∃ vi, W.cell? ⟨h, i, none⟩ = some vi ∧ Sl encI 1 W vi (vals i) ∧ ∀ b, vi.ownBlock = some b → g < b ∧ b < W.heap.size
theorem Vals.kept {W W' : World} {g : Nat} {vl : Value} {vals : Nat → List Int} {N : Nat} (h : Vals W g vl vals N) (hg : W.grownBy W' (some g)) : Vals W' g vl vals N := by
  obtain ⟨b, c, rfl, hc, h1, h2, h3⟩ := h
  have hb : ∀ k, k < W.heap.size → g < k → W'.heap[k]? = W.heap[k]? := fun k hk hgk => hg.block k hk (fun e => by injection e with e; omega)
  refine ⟨b, c, rfl, hc, h1, Nat.lt_of_lt_of_le h2 hg.size, fun i hi => ?_⟩
  obtain ⟨vi, hv, hs, ho⟩ := h3 i hi
  refine ⟨vi, (World.cell?_of_block (hb b h2 h1)).trans hv, ?_, fun k hk => ⟨(ho k hk).1, Nat.lt_of_lt_of_le (ho k hk).2 hg.size⟩⟩
  obtain ⟨A, c', rfl, q1, q2, q3⟩ := hs
  refine ⟨A, c', rfl, q1, q2, fun j x hx => ?_⟩
  obtain ⟨bk, off, rfl, hlt, hcell⟩ := q3 j x hx
  obtain ⟨o1, o2⟩ := ho bk rfl
  exact ⟨bk, off, rfl, by have := hg.size; omega, fun j' u hu => (World.cell?_of_block (hb bk o2 o1)).trans (hcell j' u hu)⟩
/-- The world of a resolver at work. -/
structure AskW (w0 : World) (vals : Nat → List Int) (vv vl : Value) (br g cap : Nat) (cur : List Prt) (W : World) : Prop where
  below : Below w0.heap.size w0 W
  gw : w0.heap.size ≤ g
  res : W.heap[br]? = some (.cells #[vv, .slice (some ⟨g, 0, none⟩) cur.length cap, vl] 51 (0, 0))
  row : W.ownsRow w0.heap.size 38 5 (.slice (some ⟨g, 0, none⟩) cur.length cap) cur.length (cur.flatMap encPrt)
  ok : ∀ p ∈ cur, PrtOk p
  vals : Vals W g vl vals cur.length
theorem AskW.blk {w0 : World} {vals : Nat → List Int} {vv vl : Value} {br g cap : Nat} {cur : List Prt} {W : World} (h : AskW w0 vals vv vl br g cap cur W) : ∃ cs : Array Value, W.heap[g]? = some (.cells cs 38 (0, 0)) ∧ cur.length ≤ cap ∧ cap ≤ maxLen ∧ cs.size = cap * 5 ∧ cs.toList.take (cur.length * 5) = cur.flatMap encPrt := by
  rcases h.row.2 with ⟨e, _⟩ | ⟨g', cap', cs, e, _, hg, h1, h2, h3, h4⟩
  · cases e
  · injection e with e1 e2 e3
    injection e1 with e1
    injection e1 with e1
    subst e1 e3
    exact ⟨cs, hg, h1, h2, h3, h4⟩
theorem AskW.kept {w0 : World} {vals : Nat → List Int} {vv vl : Value} {br g cap : Nat} {cur : List Prt} {W W' : World} (h : AskW w0 vals vv vl br g cap cur W) (hb : Below W.heap.size W W') : AskW w0 vals vv vl br g cap cur W' := by
  refine ⟨h.below.trans (hb.mono h.below.size), h.gw, (hb.block br (Array.getElem?_eq_some_iff.1 h.res).1).trans h.res, own_below h.row hb, h.ok, h.vals.kept (grown_below hb _)⟩
/-- One part's type laid. -/
theorem AskW.put {w0 : World} {vals : Nat → List Int} {vv vl : Value} {br g cap : Nat} {cur : List Prt} {W : World} (h : AskW w0 vals vv vl br g cap cur W) {a : Nat} {p : Prt} (hp : cur[a]? = some p) (t : Int) :
    AskW w0 vals vv vl br g cap (cur.set a ⟨p.k, p.n, t, p.s, p.f⟩) (W.setCell ⟨g, a * 5 + 2, none⟩ (.int .i64 t)) ∧ W.grownBy (W.setCell ⟨g, a * 5 + 2, none⟩ (.int .i64 t)) (some g) := by
  obtain ⟨ha, hpa⟩ := List.getElem?_eq_some_iff.1 hp
  obtain ⟨cs, hg, h1, h2, h3, h4⟩ := h.blk
  have hgl := (Array.getElem?_eq_some_iff.1 hg).1
  have hgr : W.grownBy (W.setCell ⟨g, a * 5 + 2, none⟩ (.int .i64 t)) (some g) :=
    ⟨rfl, rfl, rfl, Nat.le_of_eq (by simp), fun k _ hk => Below.heap_setCell _ _ _ k (fun e => hk (by rw [e]))⟩
  have hbr : br ≠ g := fun e => types_ne h.res (by rw [e]; exact hg) (by decide)
  have hlen : (cur.set a ⟨p.k, p.n, t, p.s, p.f⟩).length = cur.length := List.length_set
  refine ⟨⟨below_grown h.below hgr (fun r e => by injection e with e; rw [← e]; exact h.gw), h.gw, ?_, ?_, ?_, ?_⟩, hgr⟩
  · rw [hlen]
    exact (Below.heap_setCell _ _ _ br hbr).trans h.res
  · rw [hlen]
    refine ⟨?_, .inr ⟨g, cap, cs.setIfInBounds (a * 5 + 2) (.int .i64 t), rfl, h.gw, ?_, h1, h2, by simpa using h3, ?_⟩⟩
    · rw [flatMap_len encPrt_len, hlen]
    · exact heap_setCell_same W g (a * 5 + 2) cs 38 (.int .i64 t) hg
    · rw [Array.toList_setIfInBounds, List.take_set, h4]
      have := flatMap_set5 cur a p t hp
      exact this
  · intro q hq
    rcases List.mem_or_eq_of_mem_set hq with hq | hq
    · exact h.ok q hq
    · rw [hq]
      exact h.ok p (List.mem_of_getElem? hp)
  · rw [hlen]
    exact h.vals.kept hgr
theorem turn_leaf {cur : List Prt} {a : Nat} {p q : Prt} (h : cur[a]? = some p) : TurnX cur (cur.set a q) a (.leaf q) := by
  have ha := (List.getElem?_eq_some_iff.1 h).1
  refine ⟨List.length_set, fun j hj => ?_, fun j r hr => ?_⟩
  · rw [List.getElem?_set_ne]
    rcases hj with hj | hj
    · omega
    · simp [Ex.flat] at hj
      omega
  · obtain rfl : j = 0 := by
      have := (List.getElem?_eq_some_iff.1 hr).1
      simp [Ex.flat] at this
      exact this
    simp [Ex.flat] at hr
    rw [← hr]
    simp [ha]
theorem turn_same {cur : List Prt} {a : Nat} {p : Prt} (h : cur[a]? = some p) : TurnX cur cur a (.leaf p) := by
  refine ⟨rfl, fun _ _ => rfl, fun j r hr => ?_⟩
  obtain rfl : j = 0 := by
    have := (List.getElem?_eq_some_iff.1 hr).1
    simp [Ex.flat] at this
    exact this
  simp [Ex.flat] at hr
  rw [← hr]
  exact h
/-- ask's contract, of an expression. -/
def AskC (vars : List Vr) (w0 : World) (vals : Nat → List Int) (vv vl : Value) (br g cap : Nat) (T : Ex) : Prop :=
  ∀ (t : Int) (cur : List Prt) (a E : Nat) (W : World), LiesAt cur a T → VOk vals a T → E + 1 = a + T.flat.length → AskW w0 vals vv vl br g cap cur W →
    Calls Tryz.prog 26 #[.pointer (some ⟨br, 0, none⟩), .int .i64 E, .int .i64 t] W fun e W' => e = .returned (.tuple #[]) ∧ ∃ cur', TurnX cur cur' a (askX vars t T) ∧ AskW w0 vals vv vl br g cap cur' W' ∧ W.grownBy W' (some g)
end Go.Proofs.YtenjkplijblcoaaGreatDoor

/- (*fold.resolver).ask, at a part that takes no values. -/
namespace Go.Proofs.YtenjkplijblcoaaGreatDoor
open Go.RowKit Cap
set_option maxRecDepth 100000

set_option maxHeartbeats 4000000 in
theorem ask_leaf (vars : List Vr) (w0 : World) (vals : Nat → List Int) (vv vl : Value) (br g cap : Nat) (p : Prt) (hT : (Ex.leaf p).Ok) : AskC vars w0 vals vv vl br g cap (.leaf p) := by
  intro t cur a E W hl hv hE hW
  obtain rfl : E = a := by simp [Ex.flat] at hE; omega
  have hp : cur[E]? = some p := hl 0 p rfl
  obtain ⟨hi, _⟩ := List.getElem?_eq_some_iff.1 hp
  have hv : vals E = [] := hv
  have HP := Lib.hid hp
  have HW := Lib.hid hW
  have hT0 : takesT p = 0 := hT
  obtain ⟨h, c, rfl, hhc, hgh, hhW, hvs⟩ := hW.vals
  obtain ⟨vi, hvi, hsi, _⟩ := hvs E hi
  rw [hv] at hsi
  obtain ⟨Ai, ci, rfl, _, _, _⟩ := hsi
  have r1 := cell_of_row _ _ 1 _ _ _ hW.res
  have r2 := cell_of_row _ _ 2 _ _ _ hW.res
  simp at r1 r2
  obtain ⟨A', c', e', h1, h2, h3⟩ := Sl.own encPrt_len hW.row rfl
  injection e' with e1 e2 e3
  subst e1 e3
  obtain ⟨b, off, e, hb, hcx⟩ := h3 E p hp
  injection e with e
  injection e with eb eo _
  subst eb eo
  have c0 : W.cell? ⟨g, E * 5, none⟩ = some (.int .i64 p.k) := by simpa using hcx 0 _ rfl
  have c2 : W.cell? ⟨g, E * 5 + 2, none⟩ = some (.int .i64 p.t) := by simpa using hcx 2 _ rfl
  obtain ⟨cs, hg, hcap, _⟩ := hW.blk
  have f2 : W.frozen? ⟨g, E * 5 + 2, none⟩ = false := frozen_row (E * 5 + 2) hg
  have hput := Lib.hid (fun t => hW.put hp t)
  have hez : (E : Int) < (cur.length : Int) := by omega
  have he0 : (0 : Int) ≤ (E : Int) := Int.natCast_nonneg _
  have hk3 : p.k ≠ 3 ∧ p.k ≠ 6 ∧ p.k ≠ 5 := by
    unfold takesT at hT0
    by_cases h : p.k = 3 ∨ p.k = 6 ∨ (p.k = 5 ∧ 15 ≤ p.n)
    · rw [if_pos h] at hT0; omega
    · rw [if_neg h] at hT0
      by_cases h5 : p.k = 5
      · rw [if_pos h5] at hT0; omega
      · exact ⟨fun h' => h (.inl h'), fun h' => h (.inr (.inl h')), h5⟩
  have b3 := ne_i hk3.1
  have b6 := ne_i hk3.2.1
  clear hl hp hv hvs hcx h3 hg hW hT0 hT hhW hgh hk3
  by_cases hk : p.k = 1
  · rw [hk] at c0
    by_cases ht : p.t = 0
    · rw [ht] at c2
      have HA := Lib.hid (show askX vars t (.leaf p) = .leaf ⟨p.k, p.n, t, p.s, p.f⟩ by rw [askX, if_pos ⟨hk, ht⟩])
      clear hk ht
      go_enter Tryz.func26, Tryz.ntmps26
      go_wp2
      go_end0
      exact ⟨rfl, _, by rw [HA.out]; exact turn_leaf HP.out, (hput.out t).1, (hput.out t).2⟩
    · have HA := Lib.hid (show askX vars t (.leaf p) = .leaf p by rw [askX, if_neg (fun h => ht h.2)])
      have bt := ne_i ht
      clear hk ht
      go_enter Tryz.func26, Tryz.ntmps26
      go_wp2
      go_end0
      exact ⟨rfl, cur, by rw [HA.out]; exact turn_same HP.out, HW.out, grown_below (Below.refl _ _) _⟩
  · have HA := Lib.hid (show askX vars t (.leaf p) = .leaf p by rw [askX, if_neg (fun h => hk h.1)])
    have b1 := ne_i hk
    clear hk
    go_enter Tryz.func26, Tryz.ntmps26
    go_wp2
    go_end0
    exact ⟨rfl, cur, by rw [HA.out]; exact turn_same HP.out, HW.out, grown_below (Below.refl _ _) _⟩
end Go.Proofs.YtenjkplijblcoaaGreatDoor

/- (*fold.resolver).ask, at a part that takes one value. -/
namespace Go.Proofs.YtenjkplijblcoaaGreatDoor
open Go.RowKit Cap
set_option maxRecDepth 100000

theorem seg_sl {w : World} {g n cap : Nat} {xs : List Prt} (h : Sl encPrt 5 w (.slice (some ⟨g, 0, none⟩) n cap) xs) (a b : Nat) (hab : a ≤ b) (hb : b ≤ xs.length) : Sl encPrt 5 w (.slice (some ⟨g, a * 5, none⟩) (b - a) (cap - a)) (segX xs a b) := by
  obtain ⟨A', c', e, h1, h2, h3⟩ := h
  injection e with e1 e2 e3
  subst e1 e2 e3
  have h1' := Sl.drop (enc := encPrt) ⟨_, _, rfl, h1, h2, h3⟩ a (by omega)
  rw [Nat.zero_add] at h1'
  exact h1'.first (by rw [List.length_drop]; omega)
set_option maxHeartbeats 4000000 in
theorem ask_un (vars : List Vr) (w0 : World) (vals : Nat → List Int) (vv vl : Value) (br g cap : Nat) (hs : Sl encVr 5 w0 vv vars) (hvo : ∀ v ∈ vars, VrOk v) (hG : G w0) (p : Prt) (A : Ex) (hT : (Ex.un p A).Ok) (ih : AskC vars w0 vals vv vl br g cap A) : AskC vars w0 vals vv vl br g cap (.un p A) := by
  intro t cur a E W hl hv hE hW
  have hpos := flat_pos A
  have hf : (Ex.un p A).flat.length = A.flat.length + 1 := by rw [Ex.flat, List.length_append, List.length_singleton]
  obtain ⟨E1, hE1⟩ : ∃ E1, E = E1 + 1 := ⟨E - 1, by omega⟩
  have hEL : a + A.flat.length = E := by omega
  have hp : cur[E]? = some p := by rw [← hEL]; exact hl.un.2
  have hv1 : vals E = [(a : Int)] := by rw [← hEL]; exact hv.1
  obtain ⟨hi, _⟩ := List.getElem?_eq_some_iff.1 hp
  have HL := Lib.hid hl
  have HW := Lib.hid hW
  have HIA := Lib.hid (show ∀ W', Below W.heap.size W W' → ∀ t', Calls Tryz.prog 26 #[.pointer (some ⟨br, 0, none⟩), .int .i64 E1, .int .i64 t'] W' fun e w' => e = .returned (.tuple #[]) ∧ ∃ cur', TurnX cur cur' a (askX vars t' A) ∧ AskW w0 vals vv vl br g cap cur' w' ∧ W'.grownBy w' (some g) from
    fun W' hW' t' => ih t' cur a E1 W' hl.un.1 hv.2 (by omega) (hW.kept hW'))
  have hseg : segX cur a E = A.flat := by rw [← hEL]; exact segX_tree hl.un.1
  obtain ⟨h, c, rfl, hhc, hgh, hhW, hvs⟩ := hW.vals
  obtain ⟨vi, hvi, hsi, _⟩ := hvs _ hi
  rw [hv1] at hsi
  obtain ⟨Ai, ci, rfl, _, _, hsc⟩ := hsi
  obtain ⟨b2, o2, rfl, hb2, hc2⟩ := hsc 0 _ rfl
  have v0 : W.cell? ⟨b2, o2, none⟩ = some (.int .i64 (a : Int)) := by simpa using hc2 0 _ rfl
  have r0 := cell_of_row _ _ 0 _ _ _ hW.res
  have r1 := cell_of_row _ _ 1 _ _ _ hW.res
  have r2 := cell_of_row _ _ 2 _ _ _ hW.res
  have hbr := (Array.getElem?_eq_some_iff.1 hW.res).1
  simp at r0 r1 r2
  have hxs := Sl.own encPrt_len hW.row rfl
  obtain ⟨A', c', e', h1, h2, h3⟩ := hxs
  injection e' with e1 e2 e3
  subst e1 e3
  obtain ⟨b, off, e, hb, hcx⟩ := h3 _ p hp
  injection e with e
  injection e with eb eo _
  subst eb eo
  have c0 : W.cell? ⟨g, E * 5, none⟩ = some (.int .i64 p.k) := by simpa using hcx 0 _ rfl
  obtain ⟨cs, hg, hcap, hcm, _⟩ := hW.blk
  have HFT := Lib.hid (show ∀ W', Below W.heap.size W W' → Calls Tryz.prog 23 #[vv, .slice (some ⟨g, a * 5, none⟩) (E - a) (cap - a), .int .i64 2] W' fun e w' => e = .returned (.int .i64 (fitsX vars A.flat 2)) ∧ Below W'.heap.size W' w' from fun W' hW' => by
    have hK := hW.kept hW'
    have hq := seg_sl (Sl.own encPrt_len hK.row rfl) a E (by omega) (by omega)
    rw [hseg] at hq
    exact fits_x vars A.flat 2 vv _ W' (hs.below hK.below) hvo hq (fun q hq' => hW.ok q (by rw [← hseg] at hq'; exact List.mem_of_mem_drop (List.mem_of_mem_take hq'))) (hG.below hK.below))
  obtain ⟨Av, cv, rfl, -, -, -⟩ := hs
  have HK := Lib.hid (show ∀ W', Below W.heap.size W W' → (W'.cell? ⟨br, 0, none⟩ = some (.slice Av vars.length cv) ∧ W'.cell? ⟨br, 1, none⟩ = some (.slice (some ⟨g, 0, none⟩) cur.length cap) ∧ W'.cell? ⟨b2, o2, none⟩ = some (.int .i64 (a : Int))) from fun W' hW' =>
    ⟨(hW'.cell (p := ⟨br, 0, none⟩) hbr).trans r0, (hW'.cell (p := ⟨br, 1, none⟩) hbr).trans r1, (hW'.cell (p := ⟨b2, o2, none⟩) hb2).trans v0⟩)
  have hnn : A.flat.length ≠ 0 := by omega
  have hk := (show takesT p = 1 from hT.1)
  have HTU := Lib.hid (show ∀ t' A' cur', A' = askX vars t' A → TurnX cur cur' a A' → TurnX cur cur' a (.un p A') from fun t' A' cur' e h => by
    subst e
    exact TurnX.un HL.out h (ask_len vars A t'))
  have hez : (E : Int) < (cur.length : Int) := by omega
  have he0 : (0 : Int) ≤ (E : Int) := Int.natCast_nonneg _
  have hz1 : (E : Int) - 1 = (E1 : Int) := by omega
  have ha0 : (0 : Int) ≤ (a : Int) := Int.natCast_nonneg _
  have hae : (a : Int) ≤ (E : Int) := by omega
  have hec : (E : Int) ≤ (cap : Int) := by omega
  have hacz : (a : Int) ≤ (cap : Int) := by omega
  have hne : ¬ cap = a := by omega
  have haeN : a ≤ E := by omega
  simp only [List.length_singleton] at hvi
  clear hp hv hv1 hE hE1 hEL hpos hnn hvs hcx h3 hg hW hT hhW hgh hsc hc2 hseg ih hl hvo hG hf
  unfold takesT at hk
  by_cases hk3 : p.k = 3
  · rw [hk3] at c0
    have HA := Lib.hid (show askX vars t (.un p A) = .un p (askX vars (if fitsX vars A.flat 2 = 0 then 2 else 3) A) by rw [askX, if_pos hk3])
    obtain ⟨f, hf⟩ : ∃ f, fitsX vars A.flat 2 = f := ⟨_, rfl⟩
    rw [hf] at HFT HA
    clear hk hk3 hf
    by_cases hf0 : f = 0
    · have HA2 := Lib.hid (show askX vars t (.un p A) = .un p (askX vars 2 A) by rw [HA.out, if_pos hf0])
      subst hf0
      go_enter Tryz.func26, Tryz.ntmps26
      go_upto_region 6 with fail
      go_region_held3 (fun W' => W'.cell? ⟨br, 0, none⟩ = some (.slice Av vars.length cv) ∧ W'.cell? ⟨br, 1, none⟩ = some (.slice (some ⟨g, 0, none⟩) cur.length cap) ∧ W'.cell? ⟨b2, o2, none⟩ = some (.int .i64 (a : Int))) (first | exact HK.out _ (by (repeat' (first | (with_reducible exact Below.refl _ _) | (with_reducible refine below_alloc ?_) | (with_reducible refine below_drew ?_) | (with_reducible refine below_drewN ?_) | (with_reducible refine below_set (by first | (simp; done) | (simp; omega)) ?_) | (with_reducible refine below_call (by with_reducible assumption) ?_))))) (first | (go_at_call 23; refine (HFT.out _ (by (repeat' (first | (with_reducible exact Below.refl _ _) | (with_reducible refine below_alloc ?_) | (with_reducible refine below_drew ?_) | (with_reducible refine below_drewN ?_) | (with_reducible refine below_set (by first | (simp; done) | (simp; omega)) ?_) | (with_reducible refine below_call (by with_reducible assumption) ?_))))).mono ?_; rintro e w1 ⟨rfl, hb1⟩))
      all_goals go_wp2_with (go_at_call 26; refine (HIA.out _ (by (repeat' (first | (with_reducible exact Below.refl _ _) | (with_reducible refine below_alloc ?_) | (with_reducible refine below_drew ?_) | (with_reducible refine below_drewN ?_) | (with_reducible refine below_set (by first | (simp; done) | (simp; omega)) ?_) | (with_reducible refine below_call (by with_reducible assumption) ?_)))) _).mono ?_; rintro e w2 ⟨rfl, cur', hT', hA', hg'⟩)
      all_goals go_end0
      all_goals exact ⟨rfl, cur', by rw [HA2.out]; exact HTU.out _ _ _ rfl hT', hA', grown_trans (grown_below (by (repeat' (first | (with_reducible exact Below.refl _ _) | (with_reducible refine below_alloc ?_) | (with_reducible refine below_drew ?_) | (with_reducible refine below_drewN ?_) | (with_reducible refine below_set (by first | (simp; done) | (simp; omega)) ?_) | (with_reducible refine below_call (by with_reducible assumption) ?_)))) _) hg'⟩
    · have HA2 := Lib.hid (show askX vars t (.un p A) = .un p (askX vars 3 A) by rw [HA.out, if_neg hf0])
      have hfb := ne_i hf0
      go_enter Tryz.func26, Tryz.ntmps26
      go_upto_region 6 with fail
      go_region_held3 (fun W' => W'.cell? ⟨br, 0, none⟩ = some (.slice Av vars.length cv) ∧ W'.cell? ⟨br, 1, none⟩ = some (.slice (some ⟨g, 0, none⟩) cur.length cap) ∧ W'.cell? ⟨b2, o2, none⟩ = some (.int .i64 (a : Int))) (first | exact HK.out _ (by (repeat' (first | (with_reducible exact Below.refl _ _) | (with_reducible refine below_alloc ?_) | (with_reducible refine below_drew ?_) | (with_reducible refine below_drewN ?_) | (with_reducible refine below_set (by first | (simp; done) | (simp; omega)) ?_) | (with_reducible refine below_call (by with_reducible assumption) ?_))))) (first | (go_at_call 23; refine (HFT.out _ (by (repeat' (first | (with_reducible exact Below.refl _ _) | (with_reducible refine below_alloc ?_) | (with_reducible refine below_drew ?_) | (with_reducible refine below_drewN ?_) | (with_reducible refine below_set (by first | (simp; done) | (simp; omega)) ?_) | (with_reducible refine below_call (by with_reducible assumption) ?_))))).mono ?_; rintro e w1 ⟨rfl, hb1⟩))
      all_goals go_wp2_with (go_at_call 26; refine (HIA.out _ (by (repeat' (first | (with_reducible exact Below.refl _ _) | (with_reducible refine below_alloc ?_) | (with_reducible refine below_drew ?_) | (with_reducible refine below_drewN ?_) | (with_reducible refine below_set (by first | (simp; done) | (simp; omega)) ?_) | (with_reducible refine below_call (by with_reducible assumption) ?_)))) _).mono ?_; rintro e w2 ⟨rfl, cur', hT', hA', hg'⟩)
      all_goals go_end0
      all_goals exact ⟨rfl, cur', by rw [HA2.out]; exact HTU.out _ _ _ rfl hT', hA', grown_trans (grown_below (by (repeat' (first | (with_reducible exact Below.refl _ _) | (with_reducible refine below_alloc ?_) | (with_reducible refine below_drew ?_) | (with_reducible refine below_drewN ?_) | (with_reducible refine below_set (by first | (simp; done) | (simp; omega)) ?_) | (with_reducible refine below_call (by with_reducible assumption) ?_)))) _) hg'⟩
  have b3 := ne_i hk3
  by_cases hk6 : p.k = 6
  · rw [hk6] at c0
    have HA2 := Lib.hid (show askX vars t (.un p A) = .un p (askX vars 3 A) by rw [askX, if_neg hk3, if_pos hk6])
    clear hk hk3 hk6 b3
    go_enter Tryz.func26, Tryz.ntmps26
    go_wp2_with (go_at_call 26; refine (HIA.out _ (by (repeat' (first | (with_reducible exact Below.refl _ _) | (with_reducible refine below_alloc ?_) | (with_reducible refine below_drew ?_) | (with_reducible refine below_drewN ?_) | (with_reducible refine below_set (by first | (simp; done) | (simp; omega)) ?_) | (with_reducible refine below_call (by with_reducible assumption) ?_)))) _).mono ?_; rintro e w2 ⟨rfl, cur', hT', hA', hg'⟩)
    go_end0
    exact ⟨rfl, cur', by rw [HA2.out]; exact HTU.out _ _ _ rfl hT', hA', grown_trans (grown_below (by (repeat' (first | (with_reducible exact Below.refl _ _) | (with_reducible refine below_alloc ?_) | (with_reducible refine below_drew ?_) | (with_reducible refine below_drewN ?_) | (with_reducible refine below_set (by first | (simp; done) | (simp; omega)) ?_) | (with_reducible refine below_call (by with_reducible assumption) ?_)))) _) hg'⟩
  · have hk5 : p.k = 5 := by
      by_cases h : p.k = 3 ∨ p.k = 6 ∨ (p.k = 5 ∧ 15 ≤ p.n)
      · rcases h with h | h | h
        · exact absurd h hk3
        · exact absurd h hk6
        · exact h.1
      · rw [if_neg h] at hk
        by_cases h5 : p.k = 5
        · exact h5
        · rw [if_neg h5] at hk
          omega
    rw [hk5] at c0
    have HA2 := Lib.hid (show askX vars t (.un p A) = .un p (askX vars t A) by rw [askX, if_neg hk3, if_neg hk6])
    clear hk hk3 hk6 b3 hk5
    go_enter Tryz.func26, Tryz.ntmps26
    go_wp2_with (go_at_call 26; refine (HIA.out _ (by (repeat' (first | (with_reducible exact Below.refl _ _) | (with_reducible refine below_alloc ?_) | (with_reducible refine below_drew ?_) | (with_reducible refine below_drewN ?_) | (with_reducible refine below_set (by first | (simp; done) | (simp; omega)) ?_) | (with_reducible refine below_call (by with_reducible assumption) ?_)))) _).mono ?_; rintro e w2 ⟨rfl, cur', hT', hA', hg'⟩)
    go_end0
    exact ⟨rfl, cur', by rw [HA2.out]; exact HTU.out _ _ _ rfl hT', hA', grown_trans (grown_below (by (repeat' (first | (with_reducible exact Below.refl _ _) | (with_reducible refine below_alloc ?_) | (with_reducible refine below_drew ?_) | (with_reducible refine below_drewN ?_) | (with_reducible refine below_set (by first | (simp; done) | (simp; omega)) ?_) | (with_reducible refine below_call (by with_reducible assumption) ?_)))) _) hg'⟩
end Go.Proofs.YtenjkplijblcoaaGreatDoor

/- (*fold.resolver).ask, at a part that takes two values; and whole. -/
namespace Go.Proofs.YtenjkplijblcoaaGreatDoor
open Go.RowKit Cap
set_option maxRecDepth 100000

set_option maxHeartbeats 8000000 in
theorem ask_bin (vars : List Vr) (w0 : World) (vals : Nat → List Int) (vv vl : Value) (br g cap : Nat) (hs : Sl encVr 5 w0 vv vars) (hvo : ∀ v ∈ vars, VrOk v) (hG : G w0) (p : Prt) (A B : Ex) (hT : (Ex.bin p A B).Ok) (iha : AskC vars w0 vals vv vl br g cap A) (ihb : AskC vars w0 vals vv vl br g cap B) : AskC vars w0 vals vv vl br g cap (.bin p A B) := by
  intro t cur a E W hl hv hE hW
  have hpos := flat_pos A
  have hposb := flat_pos B
  have hf : (Ex.bin p A B).flat.length = A.flat.length + B.flat.length + 1 := by rw [Ex.flat, List.length_append, List.length_append, List.length_singleton]
  obtain ⟨m, hm⟩ : ∃ m, a + A.flat.length = m := ⟨_, rfl⟩
  obtain ⟨M1, hM1⟩ : ∃ M1, m = M1 + 1 := ⟨m - 1, by omega⟩
  obtain ⟨E1, hE1⟩ : ∃ E1, E = E1 + 1 := ⟨E - 1, by omega⟩
  have hEL : m + B.flat.length = E := by omega
  have hp : cur[E]? = some p := by rw [← hEL, ← hm]; exact hl.bin.2.2
  have hv1 : vals E = [(a : Int), (m : Int)] := by rw [← hEL, ← hm]; exact hv.1
  have hlb : LiesAt cur m B := by rw [← hm]; exact hl.bin.2.1
  have hvb : VOk vals m B := by rw [← hm]; exact hv.2.2
  obtain ⟨hi, _⟩ := List.getElem?_eq_some_iff.1 hp
  have HL := Lib.hid hl
  have HW := Lib.hid hW
  have HIA := Lib.hid (show ∀ W', Below W.heap.size W W' → ∀ t', Calls Tryz.prog 26 #[.pointer (some ⟨br, 0, none⟩), .int .i64 M1, .int .i64 t'] W' fun e w' => e = .returned (.tuple #[]) ∧ ∃ cur', TurnX cur cur' a (askX vars t' A) ∧ AskW w0 vals vv vl br g cap cur' w' ∧ W'.grownBy w' (some g) from
    fun W' hW' t' => iha t' cur a M1 W' hl.bin.1 hv.2.1 (by omega) (hW.kept hW'))
  have HIB := Lib.hid (show ∀ t' c1 W', TurnX cur c1 a (askX vars t' A) → AskW w0 vals vv vl br g cap c1 W' → Calls Tryz.prog 26 #[.pointer (some ⟨br, 0, none⟩), .int .i64 E1, .int .i64 t'] W' fun e w' => e = .returned (.tuple #[]) ∧ ∃ cur', TurnX cur cur' a (.bin p (askX vars t' A) (askX vars t' B)) ∧ AskW w0 vals vv vl br g cap cur' w' ∧ W'.grownBy w' (some g) from
    fun t' c1 W' hc hA => (ihb t' c1 m E1 W' (hlb.turn hc (.inr (by rw [ask_len]; omega))) hvb (by omega) hA).mono fun e w' ⟨he, c2, h2, h3, h4⟩ => ⟨he, c2, TurnX.bin hl hc (by rw [hm]; exact h2) (ask_len _ _ _) (ask_len _ _ _), h3, h4⟩)
  have hseg : segX cur a m = A.flat := by rw [← hm]; exact segX_tree hl.bin.1
  have hsegb : segX cur m E = B.flat := by rw [← hEL]; exact segX_tree hlb
  obtain ⟨h, c, rfl, hhc, hgh, hhW, hvs⟩ := hW.vals
  obtain ⟨vi, hvi, hsi, _⟩ := hvs _ hi
  rw [hv1] at hsi
  obtain ⟨Ai, ci, rfl, _, _, hsc⟩ := hsi
  obtain ⟨b2, o2, rfl, hb2, hc2⟩ := hsc 0 _ rfl
  have v0 : W.cell? ⟨b2, o2, none⟩ = some (.int .i64 (a : Int)) := by simpa using hc2 0 _ rfl
  obtain ⟨b3, o3, e, _, hc3⟩ := hsc 1 _ rfl
  injection e with e
  injection e with eb eo _
  subst eb eo
  have v1 : W.cell? ⟨b2, o2 + 1, none⟩ = some (.int .i64 (m : Int)) := by simpa using hc3 0 _ rfl
  have r0 := cell_of_row _ _ 0 _ _ _ hW.res
  have r1 := cell_of_row _ _ 1 _ _ _ hW.res
  have r2 := cell_of_row _ _ 2 _ _ _ hW.res
  have hbr := (Array.getElem?_eq_some_iff.1 hW.res).1
  simp at r0 r1 r2
  have hxs := Sl.own encPrt_len hW.row rfl
  obtain ⟨A', c', e', h1, h2, h3⟩ := hxs
  injection e' with e1 e2 e3
  subst e1 e3
  obtain ⟨b, off, e, hb, hcx⟩ := h3 _ p hp
  injection e with e
  injection e with eb eo _
  subst eb eo
  have c0 : W.cell? ⟨g, E * 5, none⟩ = some (.int .i64 p.k) := by simpa using hcx 0 _ rfl
  have c1 : W.cell? ⟨g, E * 5 + 1, none⟩ = some (.int .i64 p.n) := by simpa using hcx 1 _ rfl
  obtain ⟨cs, hg, hcap, hcm, _⟩ := hW.blk
  have hgl := (Array.getElem?_eq_some_iff.1 hg).1
  have HKA := Lib.hid (show ∀ W', Below W.heap.size W W' → Calls Tryz.prog 46 #[.pointer (some ⟨br, 0, none⟩), .int .i64 a, .int .i64 m] W' fun e w' => e = .returned (.int .i64 (reckV vars A.flat).1.t) ∧ Below W'.heap.size W' w' from fun W' hW' => by
    have hK := hW.kept hW'
    have hq := kind_c vars cur vv _ br g cap a m W' (hs.below hK.below) hvo (Sl.own encPrt_len hK.row rfl) hK.ok (hG.below hK.below) hK.res (by omega) (by omega) hcap
    rw [hseg] at hq
    exact hq)
  have HKB := Lib.hid (show ∀ W', Below W.heap.size W W' → Calls Tryz.prog 46 #[.pointer (some ⟨br, 0, none⟩), .int .i64 m, .int .i64 E] W' fun e w' => e = .returned (.int .i64 (reckV vars B.flat).1.t) ∧ Below W'.heap.size W' w' from fun W' hW' => by
    have hK := hW.kept hW'
    have hq := kind_c vars cur vv _ br g cap m E W' (hs.below hK.below) hvo (Sl.own encPrt_len hK.row rfl) hK.ok (hG.below hK.below) hK.res (by omega) (by omega) hcap
    rw [hsegb] at hq
    exact hq)
  obtain ⟨Av, cv, rfl, -, -, -⟩ := hs
  have HK := Lib.hid (show ∀ W', Below W.heap.size W W' → (W'.cell? ⟨b2, o2, none⟩ = some (.int .i64 (a : Int)) ∧ W'.cell? ⟨b2, o2 + 1, none⟩ = some (.int .i64 (m : Int)) ∧ W'.cell? ⟨g, E * 5 + 1, none⟩ = some (.int .i64 p.n)) from fun W' hW' =>
    ⟨(hW'.cell (p := ⟨b2, o2, none⟩) hb2).trans v0, (hW'.cell (p := ⟨b2, o2 + 1, none⟩) hb2).trans v1, (hW'.cell (p := ⟨g, E * 5 + 1, none⟩) hgl).trans c1⟩)
  have hk5 : p.k = 5 := takes2 hT.1
  rw [hk5] at c0
  have HA := Lib.hid (show askX vars t (.bin p A B) = .bin p (askX vars (if max (reckV vars A.flat).1.t (reckV vars B.flat).1.t = 0 then (if 9 ≤ p.n then 3 else t) else max (reckV vars A.flat).1.t (reckV vars B.flat).1.t) A) (askX vars (if max (reckV vars A.flat).1.t (reckV vars B.flat).1.t = 0 then (if 9 ≤ p.n then 3 else t) else max (reckV vars A.flat).1.t (reckV vars B.flat).1.t) B) by rw [askX])
  obtain ⟨kA, hkA⟩ : ∃ k, (reckV vars A.flat).1.t = k := ⟨_, rfl⟩
  obtain ⟨kB, hkB⟩ : ∃ k, (reckV vars B.flat).1.t = k := ⟨_, rfl⟩
  rw [hkA] at HKA HA
  rw [hkB] at HKB HA
  have hez : (E : Int) < (cur.length : Int) := by omega
  have he0 : (0 : Int) ≤ (E : Int) := Int.natCast_nonneg _
  have hz1 : (E : Int) - 1 = (E1 : Int) := by omega
  have hzm : (m : Int) - 1 = (M1 : Int) := by omega
  have ha0 : (0 : Int) ≤ (a : Int) := Int.natCast_nonneg _
  have hm0 : (0 : Int) ≤ (m : Int) := Int.natCast_nonneg _
  have hme : (m : Int) ≤ (E : Int) := by omega
  have hM10 : (0 : Int) ≤ (M1 : Int) := Int.natCast_nonneg _
  simp only [List.length_cons, List.length_nil] at hvi
  clear hp hv hv1 hE hE1 hEL hm hM1 hpos hposb hvs hcx h3 hg hW hT hhW hgh hsc hc2 hc3 hseg hsegb iha ihb hl hlb hvb hvo hG hf hkA hkB hk5
  go_enter Tryz.func26, Tryz.ntmps26
  go_upto_region 14 with fail
  go_region_held3 (fun W' => W'.cell? ⟨b2, o2, none⟩ = some (.int .i64 (a : Int)) ∧ W'.cell? ⟨b2, o2 + 1, none⟩ = some (.int .i64 (m : Int)) ∧ W'.cell? ⟨g, E * 5 + 1, none⟩ = some (.int .i64 p.n)) (first | exact HK.out _ (by (repeat' (first | (with_reducible exact Below.refl _ _) | (with_reducible refine below_alloc ?_) | (with_reducible refine below_drew ?_) | (with_reducible refine below_drewN ?_) | (with_reducible refine below_set (by first | (simp; done) | (simp; omega)) ?_) | (with_reducible refine below_call (by with_reducible assumption) ?_))))) (first | (go_at_call_of 46 (Value.int IntKind.i64 (a : Int)); refine (HKA.out _ (by (repeat' (first | (with_reducible exact Below.refl _ _) | (with_reducible refine below_alloc ?_) | (with_reducible refine below_drew ?_) | (with_reducible refine below_drewN ?_) | (with_reducible refine below_set (by first | (simp; done) | (simp; omega)) ?_) | (with_reducible refine below_call (by with_reducible assumption) ?_))))).mono ?_; rintro e w1 ⟨rfl, hb1⟩) | (go_at_call 46; refine (HKB.out _ (by (repeat' (first | (with_reducible exact Below.refl _ _) | (with_reducible refine below_alloc ?_) | (with_reducible refine below_drew ?_) | (with_reducible refine below_drewN ?_) | (with_reducible refine below_set (by first | (simp; done) | (simp; omega)) ?_) | (with_reducible refine below_call (by with_reducible assumption) ?_))))).mono ?_; rintro e w2 ⟨rfl, hb2⟩))
  obtain ⟨s0, s1, s2⟩ := HK.out w2 (by (repeat' (first | (with_reducible exact Below.refl _ _) | (with_reducible refine below_alloc ?_) | (with_reducible refine below_drew ?_) | (with_reducible refine below_drewN ?_) | (with_reducible refine below_set (by first | (simp; done) | (simp; omega)) ?_) | (with_reducible refine below_call (by with_reducible assumption) ?_))))
  generalize max kA kB = kM at *
  by_cases hkm : kM = 0
  · subst hkm
    by_cases h9 : 9 ≤ p.n
    · have HA2 := Lib.hid (show askX vars t (.bin p A B) = .bin p (askX vars 3 A) (askX vars 3 B) by rw [HA.out]; simp only [if_true, if_pos h9])
      go_wp2_with (first | (go_at_call_of 26 (Value.int IntKind.i64 (M1 : Int)); refine (HIA.out _ (by (repeat' (first | (with_reducible exact Below.refl _ _) | (with_reducible refine below_alloc ?_) | (with_reducible refine below_drew ?_) | (with_reducible refine below_drewN ?_) | (with_reducible refine below_set (by first | (simp; done) | (simp; omega)) ?_) | (with_reducible refine below_call (by with_reducible assumption) ?_)))) _).mono ?_; rintro e w3 ⟨rfl, c3, hT3, hA3, hg3⟩) | (go_at_call 26; refine (HIB.out _ c3 w3 hT3 hA3).mono ?_; rintro e w4 ⟨rfl, c4, hT4, hA4, hg4⟩))
      go_end0
      exact ⟨rfl, c4, by rw [HA2.out]; exact hT4, hA4, grown_trans (grown_trans (grown_below (by (repeat' (first | (with_reducible exact Below.refl _ _) | (with_reducible refine below_alloc ?_) | (with_reducible refine below_drew ?_) | (with_reducible refine below_drewN ?_) | (with_reducible refine below_set (by first | (simp; done) | (simp; omega)) ?_) | (with_reducible refine below_call (by with_reducible assumption) ?_)))) _) hg3) hg4⟩
    · have HA2 := Lib.hid (show askX vars t (.bin p A B) = .bin p (askX vars t A) (askX vars t B) by rw [HA.out]; simp only [if_true, if_neg h9])
      go_wp2_with (first | (go_at_call_of 26 (Value.int IntKind.i64 (M1 : Int)); refine (HIA.out _ (by (repeat' (first | (with_reducible exact Below.refl _ _) | (with_reducible refine below_alloc ?_) | (with_reducible refine below_drew ?_) | (with_reducible refine below_drewN ?_) | (with_reducible refine below_set (by first | (simp; done) | (simp; omega)) ?_) | (with_reducible refine below_call (by with_reducible assumption) ?_)))) _).mono ?_; rintro e w3 ⟨rfl, c3, hT3, hA3, hg3⟩) | (go_at_call 26; refine (HIB.out _ c3 w3 hT3 hA3).mono ?_; rintro e w4 ⟨rfl, c4, hT4, hA4, hg4⟩))
      go_end0
      exact ⟨rfl, c4, by rw [HA2.out]; exact hT4, hA4, grown_trans (grown_trans (grown_below (by (repeat' (first | (with_reducible exact Below.refl _ _) | (with_reducible refine below_alloc ?_) | (with_reducible refine below_drew ?_) | (with_reducible refine below_drewN ?_) | (with_reducible refine below_set (by first | (simp; done) | (simp; omega)) ?_) | (with_reducible refine below_call (by with_reducible assumption) ?_)))) _) hg3) hg4⟩
  · have HA2 := Lib.hid (show askX vars t (.bin p A B) = .bin p (askX vars kM A) (askX vars kM B) by rw [HA.out, if_neg hkm])
    have hkb := ne_i hkm
    go_wp2_with (first | (go_at_call_of 26 (Value.int IntKind.i64 (M1 : Int)); refine (HIA.out _ (by (repeat' (first | (with_reducible exact Below.refl _ _) | (with_reducible refine below_alloc ?_) | (with_reducible refine below_drew ?_) | (with_reducible refine below_drewN ?_) | (with_reducible refine below_set (by first | (simp; done) | (simp; omega)) ?_) | (with_reducible refine below_call (by with_reducible assumption) ?_)))) _).mono ?_; rintro e w3 ⟨rfl, c3, hT3, hA3, hg3⟩) | (go_at_call 26; refine (HIB.out _ c3 w3 hT3 hA3).mono ?_; rintro e w4 ⟨rfl, c4, hT4, hA4, hg4⟩))
    go_end0
    exact ⟨rfl, c4, by rw [HA2.out]; exact hT4, hA4, grown_trans (grown_trans (grown_below (by (repeat' (first | (with_reducible exact Below.refl _ _) | (with_reducible refine below_alloc ?_) | (with_reducible refine below_drew ?_) | (with_reducible refine below_drewN ?_) | (with_reducible refine below_set (by first | (simp; done) | (simp; omega)) ?_) | (with_reducible refine below_call (by with_reducible assumption) ?_)))) _) hg3) hg4⟩
theorem ask_c (vars : List Vr) (w0 : World) (vals : Nat → List Int) (vv vl : Value) (br g cap : Nat) (hs : Sl encVr 5 w0 vv vars) (hvo : ∀ v ∈ vars, VrOk v) (hG : G w0) : ∀ T : Ex, T.Ok → AskC vars w0 vals vv vl br g cap T
  | .leaf p, h => ask_leaf vars w0 vals vv vl br g cap p h
  | .un p A, h => ask_un vars w0 vals vv vl br g cap hs hvo hG p A h (ask_c vars w0 vals vv vl br g cap hs hvo hG A h.2)
  | .bin p A B, h => ask_bin vars w0 vals vv vl br g cap hs hvo hG p A B h (ask_c vars w0 vals vv vl br g cap hs hvo hG A h.2.1) (ask_c vars w0 vals vv vl br g cap hs hvo hG B h.2.2)
end Go.Proofs.YtenjkplijblcoaaGreatDoor
