/- Arguments opened: slices of what is told by cells, images. -/
import Derived.Test.YtefpgjocfgeenaaGreatDoorFlat
import Derived.Test.YtefpgjocfgeenaaGreatDoorCheck
namespace Go.Proofs.YtefpgjocfgeenaaGreatDoor
open Go.RowKit Go.ChangeShapes Go.WideShapes Cap
variable {H : Type} {enc : TypeId × Value → H}

/-- So many elements a datum has. -/
def lenD : DataW H → Nat
  | .slice elems _ => elems.length
  | _ => 0
theorem open_sl {P : Program} {W : World} {sp : Nat → Bool} {held : Bool} {α : Type} [Inhabited α] {enc' : α → List Value} {kk : Nat} {Good : α → Prop} (hk0 : 0 < kk) (hlen : ∀ y, (enc' y).length = kk) {t e : TypeId} (ht : P.underlying t = some (.slice e)) (hc : P.cellsOf e = kk)
    (dec : ∀ n cs x, DataW.trod enc P W 0 sp held n e cs = some x → ∃ y, cs = enc' y ∧ Good y) {fuel : Nat} {v : Value} {x : DataW H × List MemPlace} (h : DataW.trod enc P W 0 sp held fuel t [v] = some x) :
    ∃ xs : List α, Sl enc' kk W v xs ∧ (∀ y ∈ xs, Good y) ∧ lenD x.1 = xs.length := by
  rcases Go.Deep.open_slice ht h with ⟨hv, rfl⟩ | ⟨a, len, cap, m, n, D, Pl, hv, hb, hl, hm, hmm, rfl, hel⟩
  · injection hv with hv _
    subst hv
    exact ⟨[], Sl.nil _ _ _, (fun y hy => by cases hy), rfl⟩
  · injection hv with hv _
    subst hv
    have hlm : len ≤ m := by rw [hmm]; split <;> omega
    have hex : ∀ i, i < len → ∃ y : α, W.cells? 0 (a.add (i * kk)) kk = some (enc' y) ∧ Good y := by
      intro i hi
      obtain ⟨cs', h1, h2⟩ := hel i (by omega)
      rw [hc] at h1
      obtain ⟨y, rfl, hg⟩ := dec _ _ _ h2
      exact ⟨y, h1, hg⟩
    obtain ⟨F, hF⟩ := Go.Deep.choose_lt hex
    refine ⟨(List.range len).map F, ⟨some a, cap, by simp, by simpa using hl, by unfold maxLen at hm; omega, ?_⟩, ?_, by simp [lenD]⟩
    · intro i y hy
      rw [List.getElem?_map, Option.map_eq_some_iff] at hy
      obtain ⟨i', hi', rfl⟩ := hy
      obtain ⟨hi, rfl⟩ : i < len ∧ i = i' := by
        have h1 := List.getElem?_eq_some_iff.1 hi'
        obtain ⟨h2, h3⟩ := h1
        simp at h2 h3
        exact ⟨h2, h3⟩
      obtain ⟨h1, _⟩ := hF i hi
      obtain ⟨_, _, h2⟩ := World.cells?_some h1
      have h0 := h2 0 hk0
      rw [List.getElem?_eq_getElem (by rw [hlen]; exact hk0)] at h0
      obtain ⟨b, off, spot⟩ := a
      have hspot : spot = none := by
        obtain ⟨g1, _⟩ := hF 0 (by omega)
        obtain ⟨_, _, g2⟩ := World.cells?_some g1
        have g0 := g2 0 hk0
        rw [List.getElem?_eq_getElem (by rw [hlen]; exact hk0)] at g0
        have := World.cell?_spot g0
        simpa [Addr.add] using this
      subst hspot
      refine ⟨b, off, rfl, ?_, fun j u hu => ?_⟩
      · have := World.block_lt_of_cell? _ _ h0
        simpa [Addr.add_lit] using this
      · have hj : j < kk := by rw [← hlen (F i)]; exact (List.getElem?_eq_some_iff.1 hu).1
        have h3 := h2 j hj
        rw [hu, Addr.add_lit, Addr.add_lit] at h3
        exact h3
    · intro y hy
      obtain ⟨i, hi, rfl⟩ := List.mem_map.1 hy
      exact (hF i (by simpa using hi)).2
instance : Inhabited Ins := ⟨⟨0, 0, 0, 0⟩⟩
theorem dec_int {W : World} {sp : Nat → Bool} {held : Bool} {t : TypeId} (ht : Tryz.prog.underlying t = some (.int .i64)) : ∀ n cs (x : DataW H × List MemPlace), DataW.trod enc Tryz.prog W 0 sp held n t cs = some x → ∃ y, cs = encI y ∧ (Lit.int .i64 y).wf = true := by
  intro n cs x h
  obtain ⟨y, rfl, _, hw⟩ := DataW.trod_int ht h
  exact ⟨y, rfl, hw⟩
theorem list4 {α : Type} {l : List α} (h : l.length = 4) : ∃ a b c d, l = [a, b, c, d] := by
  match l, h with
  | [a, b, c, d], _ => exact ⟨a, b, c, d, rfl⟩
theorem list6 {α : Type} {l : List α} (h : l.length = 6) : ∃ a b c d e f, l = [a, b, c, d, e, f] := by
  match l, h with
  | [a, b, c, d, e, f], _ => exact ⟨a, b, c, d, e, f, rfl⟩
theorem fld {P : Program} {W : World} {sp : Nat → Bool} {held : Bool} {m : Nat} {fs : Array Field} {cs : List Value} {xs : List (DataW H × List MemPlace)} (hf : ∀ (i : Nat) (f : Field), fs[i]? = some f → DataW.trod enc P W 0 sp held m f.type ((cs.drop f.offset).take (P.cellsOf f.type)) = xs[i]?)
    (hone : Go.Deep.oneCellFields P fs = true) (i : Nat) (t : TypeId) (c : Value) (ht : (fs[i]?).map (·.type) = some t) (hc : cs[i]? = some c) : DataW.trod enc P W 0 sp held m t [c] = xs[i]? := by
  obtain ⟨f, h1, rfl⟩ := Option.map_eq_some_iff.1 ht
  obtain ⟨h2, h3⟩ := Go.Deep.hone_of hone i f h1
  have h4 := hf i f h1
  obtain ⟨hi, rfl⟩ := List.getElem?_eq_some_iff.1 hc
  rw [h2, h3, Go.Deep.take1_drop _ _ cs[i] hi, List.getD_eq_getElem?_getD, List.getElem?_eq_getElem hi] at h4
  exact h4
theorem dec_ins {W : World} {sp : Nat → Bool} {held : Bool} : ∀ n cs (x : DataW H × List MemPlace), DataW.trod enc Tryz.prog W 0 sp held n 80 cs = some x → ∃ y, cs = encIns y ∧ InsOk y := by
  intro n cs x h
  obtain ⟨xs, m, _, rfl, hl, hxl, hf⟩ := DataW.trod_struct Tryz.underlying80 h
  have hl4 : cs.length = 4 := hl.trans (by kernel_rfl)
  obtain ⟨c0, c1, c2, c3, rfl⟩ := list4 hl4
  obtain ⟨x0, x1, x2, x3, rfl⟩ := list4 (show xs.length = 4 from hxl)
  have h0 := fld hf (by kernel_rfl) 0 3 c0 rfl rfl
  have h1 := fld hf (by kernel_rfl) 1 3 c1 rfl rfl
  have h2 := fld hf (by kernel_rfl) 2 3 c2 rfl rfl
  have h3 := fld hf (by kernel_rfl) 3 2 c3 rfl rfl
  obtain ⟨y0, e0, w0⟩ := dec_int Tryz.underlying3 _ _ _ h0
  obtain ⟨y1, e1, w1⟩ := dec_int Tryz.underlying3 _ _ _ h1
  obtain ⟨y2, e2, w2⟩ := dec_int Tryz.underlying3 _ _ _ h2
  obtain ⟨y3, e3, w3⟩ := dec_int Tryz.underlying2 _ _ _ h3
  simp [encI] at e0 e1 e2 e3
  subst e0 e1 e2 e3
  have b1 := bounds_i64 w1
  have b2 := bounds_i64 w2
  exact ⟨⟨y0, y1, y2, y3⟩, rfl, by show y1 < _; omega, by show y2 < _; omega⟩
theorem open_insl {W : World} {sp : Nat → Bool} {held : Bool} {v : Value} {d : DataW H} {ps : List MemPlace} (h : DataW.Trod enc Tryz.prog W 0 sp held 24 v d ps) (hv : v.cells.toList = [v]) : ∃ l : List Ins, Sl encIns 4 W v l ∧ (∀ i ∈ l, InsOk i) := by
  obtain ⟨n, h⟩ := h
  rw [hv] at h
  obtain ⟨xs, h1, h2, _⟩ := open_sl (by decide) encIns_len Tryz.underlying24 (by kernel_rfl) dec_ins h
  exact ⟨xs, h1, h2⟩
theorem open_imgL {W : World} {sp : Nat → Bool} {held : Bool} {v : Value} {d : DataW H} {ps : List MemPlace} (h : DataW.Trod enc Tryz.prog W 0 sp held 26 v d ps) :
    ∃ (x : Img) (d0 d1 d2 d3 d4 d5 : DataW H), ImgV W v x ∧ ImgOk x ∧ x.name.size ≤ maxLen ∧ d = .agg [d0, d1, d2, d3, d4, d5] ∧ d0 = .lit (.string x.name.data.toList) ∧ lenD d3 = x.ins.length ∧ lenD d4 = x.outs.length ∧ lenD d1 = x.types.length ∧ lenD d2 = x.first.length ∧ lenD d5 = x.code.length := by
  obtain ⟨n, h⟩ := h
  obtain ⟨xs, m, _, hd, hl, hxl, hf⟩ := DataW.trod_struct Tryz.underlying26 h
  have hl6 : v.cells.toList.length = 6 := hl.trans (by kernel_rfl)
  obtain ⟨c0, c1, c2, c3, c4, c5, hcs⟩ := list6 hl6
  have hv : v = .agg #[c0, c1, c2, c3, c4, c5] := by
    cases v <;> first | (simp [Value.cells] at hl6; done) | (simp only [Value.cells] at hcs; congr 1; exact Array.toList_inj.1 hcs)
  have hxl6 : xs.length = 6 := hxl
  obtain ⟨x0, x1, x2, x3, x4, x5, rfl⟩ := list6 hxl6
  rw [hcs] at hf
  have h0 := fld hf (by kernel_rfl) 0 9 c0 rfl rfl
  have h1 := fld hf (by kernel_rfl) 1 22 c1 rfl rfl
  have h2 := fld hf (by kernel_rfl) 2 23 c2 rfl rfl
  have h3 := fld hf (by kernel_rfl) 3 22 c3 rfl rfl
  have h4 := fld hf (by kernel_rfl) 4 22 c4 rfl rfl
  have h5 := fld hf (by kernel_rfl) 5 24 c5 rfl rfl
  obtain ⟨s, e0, ex0, hs⟩ := DataW.trod_string Tryz.underlying9 h0
  obtain ⟨l1, s1, _, n1⟩ := open_sl (v := c1) (by decide) encI_len Tryz.underlying22 (by kernel_rfl) (dec_int Tryz.underlying3) h1
  obtain ⟨l2, s2, _, n2⟩ := open_sl (v := c2) (by decide) encI_len Tryz.underlying23 (by kernel_rfl) (dec_int Tryz.underlying2) h2
  obtain ⟨l3, s3, _, n3⟩ := open_sl (v := c3) (by decide) encI_len Tryz.underlying22 (by kernel_rfl) (dec_int Tryz.underlying3) h3
  obtain ⟨l4, s4, _, n4⟩ := open_sl (v := c4) (by decide) encI_len Tryz.underlying22 (by kernel_rfl) (dec_int Tryz.underlying3) h4
  obtain ⟨l5, s5, g5, n5⟩ := open_sl (v := c5) (by decide) encIns_len Tryz.underlying24 (by kernel_rfl) dec_ins h5
  simp at e0
  subst e0
  refine ⟨⟨s, l1, l2, l3, l4, l5⟩, x0.1, x1.1, x2.1, x3.1, x4.1, x5.1, ⟨c1, c2, c3, c4, c5, hv, s1, s2, s3, s4, s5⟩, g5, hs, by injection hd, by rw [ex0], n3, n4, n1, n2, n5⟩
theorem open_img {W : World} {sp : Nat → Bool} {held : Bool} {v : Value} {d : DataW H} {ps : List MemPlace} (h : DataW.Trod enc Tryz.prog W 0 sp held 26 v d ps) :
    ∃ (x : Img) (d0 d1 d2 d3 d4 d5 : DataW H), ImgV W v x ∧ ImgOk x ∧ x.name.size ≤ maxLen ∧ d = .agg [d0, d1, d2, d3, d4, d5] ∧ d0 = .lit (.string x.name.data.toList) ∧ lenD d3 = x.ins.length ∧ lenD d4 = x.outs.length := by
  obtain ⟨x, d0, d1, d2, d3, d4, d5, h1, h2, h3, h4, h5, h6, h7, -⟩ := open_imgL h
  exact ⟨x, d0, d1, d2, d3, d4, d5, h1, h2, h3, h4, h5, h6, h7⟩
end Go.Proofs.YtefpgjocfgeenaaGreatDoor
