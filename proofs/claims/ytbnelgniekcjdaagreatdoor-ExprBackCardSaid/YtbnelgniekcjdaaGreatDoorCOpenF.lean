/- Slices of structs opened to lists: the general part. -/
import Derived.Test.YtbnelgniekcjdaaGreatDoorCRow
import Derived.Test.YtbnelgniekcjdaaGreatDoorCKit
import Derived.Deep.Slices
import Derived.SizedLaws
import Derived.Test.YtbnelgniekcjdaaGreatDoorCRdA
import Derived.Test.YtbnelgniekcjdaaGreatDoorCFCheck
set_option linter.unusedSimpArgs false
set_option linter.unusedVariables false
namespace Go.Proofs.YtbnelgniekcjdaaGreatDoor
open Go.RowKit Go.ChangeShapes Go.WideShapes Cap
variable {H : Type} {enc : TypeId × Value → H}

/-- A slice opened to a list, each element with its datum. -/
theorem open_slD {P : Program} {W : World} {sp : Nat → Bool} {held : Bool} {α : Type} [Inhabited α] {enc' : α → List Value} {kk : Nat} {Good : α → DataW H → Prop} (hk0 : 0 < kk) (hlen : ∀ y, (enc' y).length = kk) {t e : TypeId} (ht : P.underlying t = some (.slice e)) (hc : P.cellsOf e = kk)
    (dec : ∀ n cs x, DataW.trod enc P W 0 sp held n e cs = some x → ∃ y, cs = enc' y ∧ Good y x.1) {fuel : Nat} {v : Value} {x : DataW H × List MemPlace} (h : DataW.trod enc P W 0 sp held fuel t [v] = some x) :
    ∃ xs : List α, Sl enc' kk W v xs ∧ (x.1 = .nil ∧ xs = [] ∨ ∃ elems spare, x.1 = .slice elems spare ∧ elems.length = xs.length ∧ ∀ y ∈ xs, ∃ d ∈ elems, Good y d) := by
  rcases Go.Deep.open_slice ht h with ⟨hv, rfl⟩ | ⟨a, len, cap, m, n, D, Pl, hv, hb, hl, hm, hmm, rfl, hel⟩
  · injection hv with hv _
    subst hv
    exact ⟨[], Sl.nil _ _ _, .inl ⟨rfl, rfl⟩⟩
  · injection hv with hv _
    subst hv
    have hlm : len ≤ m := by rw [hmm]; split <;> omega
    have hex : ∀ i, i < len → ∃ y : α, W.cells? 0 (a.add (i * kk)) kk = some (enc' y) ∧ Good y (D i) := by
      intro i hi
      obtain ⟨cs', h1, h2⟩ := hel i (by omega)
      rw [hc] at h1
      obtain ⟨y, rfl, hg⟩ := dec _ _ _ h2
      exact ⟨y, h1, hg⟩
    obtain ⟨F, hF⟩ := Go.Deep.choose_lt hex
    refine ⟨(List.range len).map F, ⟨some a, cap, by simp, by simpa using hl, by unfold maxLen at hm; omega, ?_⟩, .inr ⟨_, _, rfl, by simp, ?_⟩⟩
    · intro i y hy
      rw [List.getElem?_map, Option.map_eq_some_iff] at hy
      obtain ⟨i', hi', rfl⟩ := hy
      obtain ⟨hi, rfl⟩ : i < len ∧ i = i' := by
        have h1 := List.getElem?_eq_some_iff.1 hi'
        obtain ⟨h2, h3⟩ := h1
        simp at h2 h3
        exact ⟨h2, h3⟩
      obtain ⟨h1, _⟩ := hF i hi
      obtain ⟨_, _, h2⟩ := World.cells?_some h1
      have h0 := h2 0 hk0
      rw [List.getElem?_eq_getElem (by rw [hlen]; exact hk0)] at h0
      obtain ⟨b, off, spot⟩ := a
      have hspot : spot = none := by
        obtain ⟨g1, _⟩ := hF 0 (by omega)
        obtain ⟨_, _, g2⟩ := World.cells?_some g1
        have g0 := g2 0 hk0
        rw [List.getElem?_eq_getElem (by rw [hlen]; exact hk0)] at g0
        have := World.cell?_spot g0
        simpa [Addr.add] using this
      subst hspot
      refine ⟨b, off, rfl, ?_, fun j u hu => ?_⟩
      · have := World.block_lt_of_cell? _ _ h0
        simpa [Addr.add_lit] using this
      · have hj : j < kk := by rw [← hlen (F i)]; exact (List.getElem?_eq_some_iff.1 hu).1
        have h3 := h2 j hj
        rw [hu, Addr.add_lit, Addr.add_lit] at h3
        exact h3
    · intro y hy
      obtain ⟨i, hi, rfl⟩ := List.mem_map.1 hy
      exact ⟨D i, List.mem_map.2 ⟨i, hi, rfl⟩, (hF i (by simpa using hi)).2⟩
theorem weightsAll_mem {P : Program} {e : TypeId} {d : DataW H} {n : Nat} (hn : n ∈ d.weights P e) : ∀ {l : List (DataW H)}, d ∈ l → n ∈ DataW.weightsAll P e l
  | x :: r, h => by
    rw [DataW.weightsAll, List.mem_append]
    rcases List.mem_cons.1 h with rfl | h
    · exact .inl hn
    · exact .inr (weightsAll_mem hn h)
theorem fldF {P : Program} {W : World} {sp : Nat → Bool} {held : Bool} {m : Nat} {fs : Array Field} {cs : List Value} {xs : List (DataW H × List MemPlace)} (hf : ∀ (i : Nat) (f : Field), fs[i]? = some f → DataW.trod enc P W 0 sp held m f.type ((cs.drop f.offset).take (P.cellsOf f.type)) = xs[i]?)
    (hone : Go.Deep.oneCellFields P fs = true) (i : Nat) (t : TypeId) (c : Value) (ht : (fs[i]?).map (·.type) = some t) (hc : cs[i]? = some c) : DataW.trod enc P W 0 sp held m t [c] = xs[i]? := by
  obtain ⟨f, h1, rfl⟩ := Option.map_eq_some_iff.1 ht
  obtain ⟨h2, h3⟩ := Go.Deep.hone_of hone i f h1
  have h4 := hf i f h1
  obtain ⟨hi, rfl⟩ := List.getElem?_eq_some_iff.1 hc
  rw [h2, h3, Go.Deep.take1_drop _ _ cs[i] hi, List.getD_eq_getElem?_getD, List.getElem?_eq_getElem hi] at h4
  exact h4
theorem list5 {α : Type} {l : List α} (h : l.length = 5) : ∃ a b c d e, l = [a, b, c, d, e] := by
  match l, h with
  | [a, b, c, d, e], _ => exact ⟨a, b, c, d, e, rfl⟩
theorem dec_i {P : Program} {W : World} {sp : Nat → Bool} {held : Bool} {t : TypeId} (ht : P.underlying t = some (.int .i64)) {n : Nat} {c : Value} {x : DataW H × List MemPlace} (h : DataW.trod enc P W 0 sp held n t [c] = some x) : ∃ y, c = .int .i64 y := by
  obtain ⟨y, e, _, _⟩ := DataW.trod_int ht h
  injection e with e
  exact ⟨y, e⟩
end Go.Proofs.YtbnelgniekcjdaaGreatDoor

/- A slice of tokens opened to a list; its texts are in reach. -/
namespace Go.Proofs.YtbnelgniekcjdaaGreatDoor
open Go.RowKit Go.ChangeShapes Go.WideShapes Cap
variable {H : Type} {enc : TypeId × Value → H}
instance : Inhabited Tok := ⟨⟨0, ⟨#[]⟩, 0, 0, 0⟩⟩
def TokD (t : Tok) (d : DataW H) : Prop := ∃ a b c e, d = .agg [a, .lit (.string t.s.data.toList), b, c, e]
theorem dec_tok {W : World} {sp : Nat → Bool} {held : Bool} : ∀ n cs (x : DataW H × List MemPlace), DataW.trod enc Tryz.prog W 0 sp held n 38 cs = some x → ∃ y, cs = encTok y ∧ TokD y x.1 := by
  intro n cs x h
  obtain ⟨xs, m, _, rfl, hl, hxl, hf⟩ := DataW.trod_struct Tryz.underlying38 h
  have hl5 : cs.length = 5 := hl.trans (by kernel_rfl)
  obtain ⟨c0, c1, c2, c3, c4, rfl⟩ := list5 hl5
  obtain ⟨x0, x1, x2, x3, x4, rfl⟩ := list5 (show xs.length = 5 from hxl)
  have h0 := fldF hf (by kernel_rfl) 0 3 c0 rfl rfl
  have h1 := fldF hf (by kernel_rfl) 1 9 c1 rfl rfl
  have h2 := fldF hf (by kernel_rfl) 2 2 c2 rfl rfl
  have h3 := fldF hf (by kernel_rfl) 3 3 c3 rfl rfl
  have h4 := fldF hf (by kernel_rfl) 4 3 c4 rfl rfl
  obtain ⟨y0, rfl⟩ := dec_i Tryz.underlying3 h0
  obtain ⟨s, e1, ex1, _⟩ := DataW.trod_string Tryz.underlying9 h1
  obtain ⟨y2, rfl⟩ := dec_i Tryz.underlying2 h2
  obtain ⟨y3, rfl⟩ := dec_i Tryz.underlying3 h3
  obtain ⟨y4, rfl⟩ := dec_i Tryz.underlying3 h4
  simp at e1
  subst e1
  exact ⟨⟨y0, s, y2, y3, y4⟩, rfl, x0.1, x2.1, x3.1, x4.1, by simp [ex1]⟩
theorem open_tokl {W : World} {sp : Nat → Bool} {held : Bool} {v : Value} {d : DataW H} {ps : List MemPlace} (h : DataW.Trod enc Tryz.prog W 0 sp held 31 v d ps) (hv : v.cells.toList = [v]) (hw : ∀ n ∈ d.weights Tryz.prog 31, n ≤ reachBytes) : ∃ l : List Tok, TokL W v l ∧ TokMax l.length ∧ (∀ t ∈ l, t.s.size ≤ 140737488351232) := by
  obtain ⟨n, h⟩ := h
  rw [hv] at h
  obtain ⟨xs, h1, h2⟩ := open_slD (by decide) encTok_len Tryz.underlying31 (by kernel_rfl) dec_tok h
  rcases h2 with ⟨_, rfl⟩ | ⟨elems, spare, hd, hlen, hg⟩
  · exact ⟨[], h1, by unfold TokMax; simp, fun p hp => by cases hp⟩
  · have hd : d = .slice elems spare := hd
    subst hd
    refine ⟨xs, h1, ?_, fun p hp => ?_⟩
    · have key := hw ((elems.length + spare.length) * Tryz.prog.bytesOf 38) (by
        rw [DataW.weights, Tryz.underlying31]
        exact List.mem_cons_self)
      rw [show Tryz.prog.bytesOf 38 = 48 by kernel_rfl] at key
      unfold reachBytes at key
      unfold TokMax
      omega
    · obtain ⟨dd, hm, a, b, c, e, rfl⟩ := hg p hp
      have key : ∀ n ∈ DataW.weights Tryz.prog 38 (.agg [a, .lit (.string p.s.data.toList), b, c, e] : DataW H), n ≤ reachBytes := fun n hn => hw n (by
        rw [DataW.weights, Tryz.underlying31]
        simp only [List.mem_cons, List.mem_append]
        exact .inr (.inl (weightsAll_mem hn hm)))
      have hs : p.s.data.toList.length ≤ reachBytes := key _ (by
        rw [DataW.weights, Tryz.underlying38]
        simp only [DataW.weightsEach, List.map_cons, List.map_nil, List.mem_append, DataW.weights]
        simp)
      rw [Array.length_toList] at hs
      exact hs
end Go.Proofs.YtbnelgniekcjdaaGreatDoor

/- Arguments opened: slices of parts, of variables; how long their texts are. -/
namespace Go.Proofs.YtbnelgniekcjdaaGreatDoor
open Go.RowKit Go.ChangeShapes Go.WideShapes Cap
variable {H : Type} {enc : TypeId × Value → H}

instance : Inhabited Prt := ⟨⟨0, 0, 0, ⟨#[]⟩, ⟨#[]⟩⟩⟩
def PrtD (p : Prt) (d : DataW H) : Prop := ∃ a b c, d = .agg [a, b, c, .lit (.string p.s.data.toList), .lit (.string p.f.data.toList)]
theorem dec_prt {W : World} {sp : Nat → Bool} {held : Bool} : ∀ n cs (x : DataW H × List MemPlace), DataW.trod enc Tryz.prog W 0 sp held n 44 cs = some x → ∃ y, cs = encPrt y ∧ PrtD y x.1 := by
  intro n cs x h
  obtain ⟨xs, m, _, rfl, hl, hxl, hf⟩ := DataW.trod_struct Tryz.underlying44 h
  have hl5 : cs.length = 5 := hl.trans (by kernel_rfl)
  obtain ⟨c0, c1, c2, c3, c4, rfl⟩ := list5 hl5
  obtain ⟨x0, x1, x2, x3, x4, rfl⟩ := list5 (show xs.length = 5 from hxl)
  have h0 := fldF hf (by kernel_rfl) 0 3 c0 rfl rfl
  have h1 := fldF hf (by kernel_rfl) 1 2 c1 rfl rfl
  have h2 := fldF hf (by kernel_rfl) 2 3 c2 rfl rfl
  have h3 := fldF hf (by kernel_rfl) 3 9 c3 rfl rfl
  have h4 := fldF hf (by kernel_rfl) 4 9 c4 rfl rfl
  obtain ⟨y0, rfl⟩ := dec_i Tryz.underlying3 h0
  obtain ⟨y1, rfl⟩ := dec_i Tryz.underlying2 h1
  obtain ⟨y2, rfl⟩ := dec_i Tryz.underlying3 h2
  obtain ⟨s, e3, ex3, _⟩ := DataW.trod_string Tryz.underlying9 h3
  obtain ⟨f, e4, ex4, _⟩ := DataW.trod_string Tryz.underlying9 h4
  simp at e3 e4
  subst e3 e4
  exact ⟨⟨y0, y1, y2, s, f⟩, rfl, x0.1, x1.1, x2.1, by simp [ex3, ex4]⟩
/-- How many elements a slice has. -/
def lenS (d : DataW H) : Nat := match d with
  | .slice elems _ => elems.length
  | _ => 0
/-- A slice of parts; its texts are in reach; its length is the slice's. -/
theorem open_prtl2 {W : World} {sp : Nat → Bool} {held : Bool} {v : Value} {d : DataW H} {ps : List MemPlace} (h : DataW.Trod enc Tryz.prog W 0 sp held 26 v d ps) (hv : v.cells.toList = [v]) (hw : ∀ n ∈ d.weights Tryz.prog 26, n ≤ reachBytes) : ∃ l : List Prt, Sl encPrt 5 W v l ∧ (∀ p ∈ l, PrtOk p) ∧ l.length ≤ lenS d := by
  obtain ⟨n, h⟩ := h
  rw [hv] at h
  obtain ⟨xs, h1, h2⟩ := open_slD (by decide) encPrt_len Tryz.underlying26 (by kernel_rfl) dec_prt h
  refine ⟨xs, h1, fun p hp => ?_, ?_⟩
  rotate_left
  · rcases h2 with ⟨_, rfl⟩ | ⟨elems, spare, hd, hl, _⟩
    · exact Nat.zero_le _
    · have hd : d = .slice elems spare := hd
      subst hd
      exact Nat.le_of_eq hl.symm
  rcases h2 with ⟨_, rfl⟩ | ⟨elems, spare, hd, _, hg⟩
  · cases hp
  · obtain ⟨dd, hm, a, b, c, rfl⟩ := hg p hp
    have hd : d = .slice elems spare := hd
    subst hd
    have key : ∀ n ∈ DataW.weights Tryz.prog 44 (.agg [a, b, c, .lit (.string p.s.data.toList), .lit (.string p.f.data.toList)] : DataW H), n ≤ reachBytes := fun n hn => hw n (by
      rw [DataW.weights, Tryz.underlying26]
      simp only [List.mem_cons, List.mem_append]
      exact .inr (.inl (weightsAll_mem hn hm)))
    have hs : p.s.data.toList.length ≤ reachBytes := key _ (by
      rw [DataW.weights, Tryz.underlying44]
      simp only [DataW.weightsEach, List.map_cons, List.map_nil, List.mem_append, DataW.weights]
      simp)
    have hf : p.f.data.toList.length ≤ reachBytes := key _ (by
      rw [DataW.weights, Tryz.underlying44]
      simp only [DataW.weightsEach, List.map_cons, List.map_nil, List.mem_append, DataW.weights]
      simp)
    rw [Array.length_toList] at hs hf
    exact ⟨hs, hf⟩
/-- A slice of parts; its texts are in reach. -/
theorem open_prtl {W : World} {sp : Nat → Bool} {held : Bool} {v : Value} {d : DataW H} {ps : List MemPlace} (h : DataW.Trod enc Tryz.prog W 0 sp held 26 v d ps) (hv : v.cells.toList = [v]) (hw : ∀ n ∈ d.weights Tryz.prog 26, n ≤ reachBytes) : ∃ l : List Prt, Sl encPrt 5 W v l ∧ (∀ p ∈ l, PrtOk p) := by
  obtain ⟨l, h1, h2, _⟩ := open_prtl2 h hv hw
  exact ⟨l, h1, h2⟩
end Go.Proofs.YtbnelgniekcjdaaGreatDoor
