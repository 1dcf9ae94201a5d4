/- A row that lists variables, the world's shape kept. Over any program. -/
import Derived.LaidLaws
import Derived.LaidHandle
import Derived.Handed
import Derived.HandedShaped
import Derived.Lay
import Derived.Deep.Fields
import Derived.ChangeSame
import Derived.ProofKit
import Derived.OpenShut
import Derived.Test.YtenjkplijblcoaaGreatDoorCFCheck
import Derived.Test.YtenjkplijblcoaaGreatDoorCFWrong
import Derived.Deep.Slices
import Derived.SizedLaws
set_option linter.unusedSimpArgs false
set_option linter.unusedVariables false
namespace Go.Proofs.YtenjkplijblcoaaGreatDoor
open Go
variable {H : Type} {enc : TypeId × Value → H}
theorem handed_and_shaped {a : Assume} {C : Checked} {os : Os} {f : FuncId} {fn : Func} {s : ChangeSpec} {conds : List PathCond} {apart fresh handsOn again : Bool} {X : World → Array Value → Prop}
    (hX : ∀ (w w' : World) (args : Array Value), w.heap = w'.heap → X w args → X w' args)
    (own : ownKnob C.prog.godebug = none) (started : os.Started) (noInit : C.prog.inits.idxOf? f = none) (hfn : C.prog.funcs[f]? = some fn)
    (witness : ∃ (w : World) (tape : Tape) (i : Input), w.os = os ∧ (w.forCall tape i).Shaped C.prog ∧ i.vars = [] ∧ Input.okWide C.prog (w.forCall tape i) .any w.heap.size f i ∧
      ((s.pre enc C.prog fn conds apart (w.forCall tape i).memory i.args ∧ X (w.forCall tape i).memory i.args) ∧ sizedMet enc C.prog fn (OpenSpec.ofChange s) apart (w.forCall tape i).memory i.args) ∧ a.holds C.prog (lone (Frame.enter C.prog f i.args .normal) [] (w.forCall tape i)))
    (contract : ∀ (W : World) (base : Nat) (args : Array Value) (ds gs : List (DataW H)) (before : List MemPlace),
      (∀ (j : Nat) t v, fn.params[j]? = some t → args[j]? = some v → Value.okWide C.prog W .any base t v) →
      DataW.Whole enc C.prog fn.params.toList s.vars apart W args.toList ds gs before →
      conds.all (PathCond.test C.prog ⟨fn.params.toList, ds, s.plain.varTypes C.prog, gs⟩) = true →
      (DataW.weightsEach C.prog (fn.params.toList ++ s.plain.varTypes C.prog) (ds ++ gs)).all (· ≤ reachBytes) = true → X W args → W.ShapedOpen C.prog →
      Calls C.prog f args W fun e W' => ∃ v, e = .returned v ∧ s.post enc C.prog fn apart fresh handsOn again W args v W') :
    ReturnsInHanded a C os f .any (fun w args => (s.pre enc C.prog fn conds apart w args ∧ X w args) ∧ sizedMet enc C.prog fn (OpenSpec.ofChange s) apart w args) (s.post enc C.prog fn apart fresh handsOn again) := by
  refine returnsInHanded_of_calls own started noInit witness ?_
  intro w tape i _ hsh _ hok hpre _
  obtain ⟨_, _, _, fn', hfn', _, _, _, _, hval⟩ := hok
  have e : fn' = fn := Option.some.inj (hfn'.symm.trans hfn)
  subst e
  obtain ⟨⟨⟨ds, gs, before, hw, hc⟩, hx⟩, hz⟩ := hpre
  have hw' := DataW.Whole.of_heap (w' := w.forCall tape i) (by rfl) hw
  refine (contract (w.forCall tape i) w.heap.size i.args ds gs before hval hw' hc (hz.weights hw) (hX _ _ _ (by rfl) hx) hsh).mono fun e W' ⟨v, he, hp⟩ => ?_
  subst he
  exact ChangeSpec.post_blind hp
end Go.Proofs.YtenjkplijblcoaaGreatDoor

/- Arguments of numbers, texts, slices and structs: read again as they were, where nothing that was there has turned. Over any program. -/
namespace Go.Proofs.YtenjkplijblcoaaGreatDoor
open Go.RowKit Go.ChangeShapes Go.WideShapes
variable {H : Type} {enc : TypeId × Value → H} {P : Program}

/-- A type of bools, numbers, texts, slices of such and structs of such. -/
def flatB (P : Program) : Nat → TypeId → Bool
  | 0, _ => false
  | k + 1, t => match P.underlying t with
    | some .bool => true
    | some (.int _) => true
    | some .string => true
    | some (.slice e) => decide (0 < P.cellsOf e) && flatB P k e
    | some (.struct fs) => fs.toList.all fun f => flatB P k f.type
    | _ => false
theorem trod_sp {w : World} {base : Nat} {held : Bool} {sp : Nat → Bool} : ∀ (k : Nat) {n : Nat} {t : TypeId} {cs : List Value} {x : DataW H × List MemPlace}, flatB P k t = true →
    DataW.trod enc P w base (fun _ => true) held n t cs = some x → (∀ p ∈ x.2, sp p.block = true) → DataW.trod enc P w base sp held n t cs = some x
  | 0, _, _, _, _, hf, _, _ => by cases hf
  | k + 1, 0, _, _, _, _, h, _ => by simp [DataW.trod] at h
  | k + 1, n + 1, t, cs, x, hf, h, hp => by
    rw [DataW.trod_step] at h ⊢
    unfold DataW.trodStep at h ⊢
    split at h
    case h_8 e a len cap heq =>
      have hf' : (decide (0 < P.cellsOf e) && flatB P k e) = true := by
        unfold flatB at hf
        simpa [heq] using hf
      rw [Bool.and_eq_true, decide_eq_true_eq] at hf'
      obtain ⟨hc0, hfe⟩ := hf'
      simp only at h ⊢
      split at h
      · rename_i hc
        rw [if_pos hc]
        simp only [Option.map_eq_some_iff, Option.bind_eq_some_iff, if_true] at h ⊢
        obtain ⟨elems, he, rest, hrest, rfl⟩ := h
        have hlen : elems.length = len := by simpa using mapM_some_length he
        have hrl : rest.length = cap - len := by simpa using mapM_some_length hrest
        have one : ∀ (i : Nat) (y : DataW H × List MemPlace), y ∈ elems ++ rest →
            (w.cells? base (a.add (i * P.cellsOf e)) (P.cellsOf e)).bind (DataW.trod enc P w base (fun _ => true) held n e) = some y → (w.cells? base (a.add (i * P.cellsOf e)) (P.cellsOf e)).bind (DataW.trod enc P w base sp held n e) = some y := by
          intro i y hy hv
          simp only [Option.bind_eq_some_iff] at hv ⊢
          obtain ⟨cs', hc', hy'⟩ := hv
          exact ⟨cs', hc', trod_sp k hfe hy' (fun p hpp => hp p (List.mem_append.2 (.inr (List.mem_flatMap.2 ⟨y, hy, hpp⟩))))⟩
        refine ⟨elems, mapM_carry he (fun i y _ hy => one i y (List.mem_append.2 (.inl hy))), rest, ?_, rfl⟩
        by_cases hcap : cap - len = 0
        · have h0 : rest = [] := List.eq_nil_of_length_eq_zero (by omega)
          subst h0
          split
          · rw [hcap]; rfl
          · rfl
        · have hsp : sp a.block = true := by
            refine hp (.cell a.block (a.off + 0)) (List.mem_append.2 (.inl (MemPlace.mem_row.2 ⟨0, ?_, rfl⟩)))
            exact Nat.mul_pos (by omega) hc0
          rw [if_pos hsp]
          exact mapM_carry hrest (fun j y _ hy => one (len + j) y (List.mem_append.2 (.inr hy)))
      · cases h
    case h_9 fs heq =>
      have hf' : (fs.toList.all fun f => flatB P k f.type) = true := by
        unfold flatB at hf
        simpa [heq] using hf
      rw [List.all_eq_true] at hf'
      split at h
      · rename_i hc
        rw [if_pos hc]
        simp only [Option.map_eq_some_iff] at h ⊢
        obtain ⟨xs, hx, rfl⟩ := h
        exact ⟨xs, mapM_carry hx (fun f y hm hy hv => trod_sp k (hf' f hm) hv (fun p hpp => hp p (List.mem_flatMap.2 ⟨y, hy, hpp⟩))), rfl⟩
      · cases h
    all_goals first | exact h | (exfalso; unfold flatB at hf; simp_all; done)
/-- Arguments read as they were. -/
theorem trodAll_kept {W W' : World} {sp : Nat → Bool} (hb : Below W.heap.size W W') (k : Nat) : ∀ {ts : List TypeId} {vs : List Value} {ds : List (DataW H)} {ps : List MemPlace}, ts.all (flatB P k) = true →
    DataW.TrodAll enc P W 0 (fun _ => true) true ts vs ds ps → (∀ p ∈ ps, sp p.block = true) → DataW.TrodAll enc P W' 0 sp true ts vs ds ps
  | [], vs, ds, ps, _, h, _ => by
    obtain ⟨rfl, rfl, rfl⟩ := trodAll_nil h
    rfl
  | t :: ts, vs, ds, ps, hf, h, hp => by
    obtain ⟨v, vs', d, ds', p, q, rfl, rfl, rfl, ⟨n, hd⟩, h2⟩ := trodAll_cons h
    rw [List.all_cons, Bool.and_eq_true] at hf
    refine ⟨p, q, ⟨n, ?_⟩, trodAll_kept hb k hf.2 h2 (fun x hx => hp x (by simp [hx])), rfl⟩
    have h3 := trod_sp k hf.1 hd (sp := sp) (fun x hx => hp x (by simp [show x ∈ p from hx]))
    exact DataW.trod_carry n t _ _ h3 (fun x hx => hb.same (DataW.trod_lt n t _ _ hd x hx))
/-- A law that answers true and leaves what was there as it was. -/
theorem post_true {f : Func} {s : ChangeSpec} {W W' : World} {args : Array Value} {ds gs : List (DataW H)} {before : List MemPlace}
    (hW : DataW.Whole enc P f.params.toList s.vars false W args.toList ds gs before) (hv : s.vars = []) (hfn : s.fn H ds = { results := [.lit (.bool true)], args := ds }) (k : Nat) (hf : f.params.toList.all (flatB P k) = true)
    (tb : TypeId) (hr : f.resultTypes = #[tb]) (htb : P.underlying tb = some .bool) (hb : Below W.heap.size W W') : s.post enc P f false true false false W args (.bool true) W' := by
  have hW' := hW
  obtain ⟨p, q, hA, hV, rfl, hz, hn⟩ := hW'
  rw [hv] at hV
  obtain ⟨rfl, rfl⟩ := trodVars_none hV
  have hfn' : s.fn H (ds ++ []) = { results := [.lit (.bool true)], args := ds } := by rw [List.append_nil]; exact hfn
  refine ⟨ds, [], _, [], p, [], hW, ?_, ?_, ?_, hb.frame _, fun h => by cases h⟩
  · rw [hfn', hr]
    exact trodAll_mk1 (shut_bool htb true)
  · rw [hfn']
    refine trodAll_kept hb k hf hA (fun x hx => ?_)
    simpa using hW.lt x (by simpa using hx)
  · rw [hfn', hv]
    rfl
end Go.Proofs.YtenjkplijblcoaaGreatDoor

/- Arguments opened: slices of parts, of variables; how long their texts are. -/
namespace Go.Proofs.YtenjkplijblcoaaGreatDoor
open Go.RowKit Go.ChangeShapes Go.WideShapes Cap
variable {H : Type} {enc : TypeId × Value → H}

/-- A slice opened to a list, each element with its datum. -/
theorem open_slD {P : Program} {W : World} {sp : Nat → Bool} {held : Bool} {α : Type} [Inhabited α] {enc' : α → List Value} {kk : Nat} {Good : α → DataW H → Prop} (hk0 : 0 < kk) (hlen : ∀ y, (enc' y).length = kk) {t e : TypeId} (ht : P.underlying t = some (.slice e)) (hc : P.cellsOf e = kk)
    (dec : ∀ n cs x, DataW.trod enc P W 0 sp held n e cs = some x → ∃ y, cs = enc' y ∧ Good y x.1) {fuel : Nat} {v : Value} {x : DataW H × List MemPlace} (h : DataW.trod enc P W 0 sp held fuel t [v] = some x) :
    ∃ xs : List α, Sl enc' kk W v xs ∧ (x.1 = .nil ∧ xs = [] ∨ ∃ elems spare, x.1 = .slice elems spare ∧ elems.length = xs.length ∧ ∀ y ∈ xs, ∃ d ∈ elems, Good y d) := by
  rcases Go.Deep.open_slice ht h with ⟨hv, rfl⟩ | ⟨a, len, cap, m, n, D, Pl, hv, hb, hl, hm, hmm, rfl, hel⟩
  · injection hv with hv _
    subst hv
    exact ⟨[], Sl.nil _ _ _, .inl ⟨rfl, rfl⟩⟩
  · injection hv with hv _
    subst hv
    have hlm : len ≤ m := by rw [hmm]; split <;> omega
    have hex : ∀ i, i < len → ∃ y : α, W.cells? 0 (a.add (i * kk)) kk = some (enc' y) ∧ Good y (D i) := by
      intro i hi
      obtain ⟨cs', h1, h2⟩ := hel i (by omega)
      rw [hc] at h1
      obtain ⟨y, rfl, hg⟩ := dec _ _ _ h2
      exact ⟨y, h1, hg⟩
    obtain ⟨F, hF⟩ := Go.Deep.choose_lt hex
    refine ⟨(List.range len).map F, ⟨some a, cap, by simp, by simpa using hl, by unfold maxLen at hm; omega, ?_⟩, .inr ⟨_, _, rfl, by simp, ?_⟩⟩
    · intro i y hy
      rw [List.getElem?_map, Option.map_eq_some_iff] at hy
      obtain ⟨i', hi', rfl⟩ := hy
      obtain ⟨hi, rfl⟩ : i < len ∧ i = i' := by
        have h1 := List.getElem?_eq_some_iff.1 hi'
        obtain ⟨h2, h3⟩ := h1
        simp at h2 h3
        exact ⟨h2, h3⟩
      obtain ⟨h1, _⟩ := hF i hi
      obtain ⟨_, _, h2⟩ := World.cells?_some h1
      have h0 := h2 0 hk0
      rw [List.getElem?_eq_getElem (by rw [hlen]; exact hk0)] at h0
      obtain ⟨b, off, spot⟩ := a
      have hspot : spot = none := by
        obtain ⟨g1, _⟩ := hF 0 (by omega)
        obtain ⟨_, _, g2⟩ := World.cells?_some g1
        have g0 := g2 0 hk0
        rw [List.getElem?_eq_getElem (by rw [hlen]; exact hk0)] at g0
        have := World.cell?_spot g0
        simpa [Addr.add] using this
      subst hspot
      refine ⟨b, off, rfl, ?_, fun j u hu => ?_⟩
      · have := World.block_lt_of_cell? _ _ h0
        simpa [Addr.add_lit] using this
      · have hj : j < kk := by rw [← hlen (F i)]; exact (List.getElem?_eq_some_iff.1 hu).1
        have h3 := h2 j hj
        rw [hu, Addr.add_lit, Addr.add_lit] at h3
        exact h3
    · intro y hy
      obtain ⟨i, hi, rfl⟩ := List.mem_map.1 hy
      exact ⟨D i, List.mem_map.2 ⟨i, hi, rfl⟩, (hF i (by simpa using hi)).2⟩
instance : Inhabited Prt := ⟨⟨0, 0, 0, ⟨#[]⟩, ⟨#[]⟩⟩⟩
theorem weightsAll_mem {P : Program} {e : TypeId} {d : DataW H} {n : Nat} (hn : n ∈ d.weights P e) : ∀ {l : List (DataW H)}, d ∈ l → n ∈ DataW.weightsAll P e l
  | x :: r, h => by
    rw [DataW.weightsAll, List.mem_append]
    rcases List.mem_cons.1 h with rfl | h
    · exact .inl hn
    · exact .inr (weightsAll_mem hn h)
theorem fldF {P : Program} {W : World} {sp : Nat → Bool} {held : Bool} {m : Nat} {fs : Array Field} {cs : List Value} {xs : List (DataW H × List MemPlace)} (hf : ∀ (i : Nat) (f : Field), fs[i]? = some f → DataW.trod enc P W 0 sp held m f.type ((cs.drop f.offset).take (P.cellsOf f.type)) = xs[i]?)
    (hone : Go.Deep.oneCellFields P fs = true) (i : Nat) (t : TypeId) (c : Value) (ht : (fs[i]?).map (·.type) = some t) (hc : cs[i]? = some c) : DataW.trod enc P W 0 sp held m t [c] = xs[i]? := by
  obtain ⟨f, h1, rfl⟩ := Option.map_eq_some_iff.1 ht
  obtain ⟨h2, h3⟩ := Go.Deep.hone_of hone i f h1
  have h4 := hf i f h1
  obtain ⟨hi, rfl⟩ := List.getElem?_eq_some_iff.1 hc
  rw [h2, h3, Go.Deep.take1_drop _ _ cs[i] hi, List.getD_eq_getElem?_getD, List.getElem?_eq_getElem hi] at h4
  exact h4
theorem list5 {α : Type} {l : List α} (h : l.length = 5) : ∃ a b c d e, l = [a, b, c, d, e] := by
  match l, h with
  | [a, b, c, d, e], _ => exact ⟨a, b, c, d, e, rfl⟩
theorem dec_i {W : World} {sp : Nat → Bool} {held : Bool} {t : TypeId} (ht : Tryz.prog.underlying t = some (.int .i64)) {n : Nat} {c : Value} {x : DataW H × List MemPlace} (h : DataW.trod enc Tryz.prog W 0 sp held n t [c] = some x) : ∃ y, c = .int .i64 y := by
  obtain ⟨y, e, _, _⟩ := DataW.trod_int ht h
  injection e with e
  exact ⟨y, e⟩
def PrtD (p : Prt) (d : DataW H) : Prop := ∃ a b c, d = .agg [a, b, c, .lit (.string p.s.data.toList), .lit (.string p.f.data.toList)]
theorem dec_prt {W : World} {sp : Nat → Bool} {held : Bool} : ∀ n cs (x : DataW H × List MemPlace), DataW.trod enc Tryz.prog W 0 sp held n 38 cs = some x → ∃ y, cs = encPrt y ∧ PrtD y x.1 := by
  intro n cs x h
  obtain ⟨xs, m, _, rfl, hl, hxl, hf⟩ := DataW.trod_struct Tryz.underlying38 h
  have hl5 : cs.length = 5 := hl.trans (by kernel_rfl)
  obtain ⟨c0, c1, c2, c3, c4, rfl⟩ := list5 hl5
  obtain ⟨x0, x1, x2, x3, x4, rfl⟩ := list5 (show xs.length = 5 from hxl)
  have h0 := fldF hf (by kernel_rfl) 0 3 c0 rfl rfl
  have h1 := fldF hf (by kernel_rfl) 1 2 c1 rfl rfl
  have h2 := fldF hf (by kernel_rfl) 2 3 c2 rfl rfl
  have h3 := fldF hf (by kernel_rfl) 3 9 c3 rfl rfl
  have h4 := fldF hf (by kernel_rfl) 4 9 c4 rfl rfl
  obtain ⟨y0, rfl⟩ := dec_i Tryz.underlying3 h0
  obtain ⟨y1, rfl⟩ := dec_i Tryz.underlying2 h1
  obtain ⟨y2, rfl⟩ := dec_i Tryz.underlying3 h2
  obtain ⟨s, e3, ex3, _⟩ := DataW.trod_string Tryz.underlying9 h3
  obtain ⟨f, e4, ex4, _⟩ := DataW.trod_string Tryz.underlying9 h4
  simp at e3 e4
  subst e3 e4
  exact ⟨⟨y0, y1, y2, s, f⟩, rfl, x0.1, x1.1, x2.1, by simp [ex3, ex4]⟩
/-- A slice of parts; its texts are in reach. -/
theorem open_prtl {W : World} {sp : Nat → Bool} {held : Bool} {v : Value} {d : DataW H} {ps : List MemPlace} (h : DataW.Trod enc Tryz.prog W 0 sp held 23 v d ps) (hv : v.cells.toList = [v]) (hw : ∀ n ∈ d.weights Tryz.prog 23, n ≤ reachBytes) : ∃ l : List Prt, Sl encPrt 5 W v l ∧ (∀ p ∈ l, PrtOk p) := by
  obtain ⟨n, h⟩ := h
  rw [hv] at h
  obtain ⟨xs, h1, h2⟩ := open_slD (by decide) encPrt_len Tryz.underlying23 (by kernel_rfl) dec_prt h
  refine ⟨xs, h1, fun p hp => ?_⟩
  rcases h2 with ⟨_, rfl⟩ | ⟨elems, spare, hd, _, hg⟩
  · cases hp
  · obtain ⟨dd, hm, a, b, c, rfl⟩ := hg p hp
    have hd : d = .slice elems spare := hd
    subst hd
    have key : ∀ n ∈ DataW.weights Tryz.prog 38 (.agg [a, b, c, .lit (.string p.s.data.toList), .lit (.string p.f.data.toList)] : DataW H), n ≤ reachBytes := fun n hn => hw n (by
      rw [DataW.weights, Tryz.underlying23]
      simp only [List.mem_cons, List.mem_append]
      exact .inr (.inl (weightsAll_mem hn hm)))
    have hs : p.s.data.toList.length ≤ reachBytes := key _ (by
      rw [DataW.weights, Tryz.underlying38]
      simp only [DataW.weightsEach, List.map_cons, List.map_nil, List.mem_append, DataW.weights]
      simp)
    have hf : p.f.data.toList.length ≤ reachBytes := key _ (by
      rw [DataW.weights, Tryz.underlying38]
      simp only [DataW.weightsEach, List.map_cons, List.map_nil, List.mem_append, DataW.weights]
      simp)
    rw [Array.length_toList] at hs hf
    exact ⟨hs, hf⟩
end Go.Proofs.YtenjkplijblcoaaGreatDoor

/- Arguments opened: slices of variables. -/
namespace Go.Proofs.YtenjkplijblcoaaGreatDoor
open Go.RowKit Go.ChangeShapes Go.WideShapes Cap
variable {H : Type} {enc : TypeId × Value → H}

instance : Inhabited Vr := ⟨⟨⟨#[]⟩, 0, 0, 0, 0⟩⟩
def VrD (p : Vr) (d : DataW H) : Prop := ∃ a b c e, d = .agg [.lit (.string p.name.data.toList), a, b, c, e]
theorem dec_vr {W : World} {sp : Nat → Bool} {held : Bool} : ∀ n cs (x : DataW H × List MemPlace), DataW.trod enc Tryz.prog W 0 sp held n 59 cs = some x → ∃ y, cs = encVr y ∧ VrD y x.1 := by
  intro n cs x h
  obtain ⟨xs, m, _, rfl, hl, hxl, hf⟩ := DataW.trod_struct Tryz.underlying59 h
  have hl5 : cs.length = 5 := hl.trans (by kernel_rfl)
  obtain ⟨c0, c1, c2, c3, c4, rfl⟩ := list5 hl5
  obtain ⟨x0, x1, x2, x3, x4, rfl⟩ := list5 (show xs.length = 5 from hxl)
  have h0 := fldF hf (by kernel_rfl) 0 9 c0 rfl rfl
  have h1 := fldF hf (by kernel_rfl) 1 3 c1 rfl rfl
  have h2 := fldF hf (by kernel_rfl) 2 3 c2 rfl rfl
  have h3 := fldF hf (by kernel_rfl) 3 2 c3 rfl rfl
  have h4 := fldF hf (by kernel_rfl) 4 3 c4 rfl rfl
  obtain ⟨s, e0, ex0, _⟩ := DataW.trod_string Tryz.underlying9 h0
  obtain ⟨y1, rfl⟩ := dec_i Tryz.underlying3 h1
  obtain ⟨y2, rfl⟩ := dec_i Tryz.underlying3 h2
  obtain ⟨y3, rfl⟩ := dec_i Tryz.underlying2 h3
  obtain ⟨y4, rfl⟩ := dec_i Tryz.underlying3 h4
  simp at e0
  subst e0
  exact ⟨⟨s, y1, y2, y3, y4⟩, rfl, x1.1, x2.1, x3.1, x4.1, by simp [ex0]⟩
/-- A slice of variables; their names are in reach. -/
theorem open_vrl {W : World} {sp : Nat → Bool} {held : Bool} {v : Value} {d : DataW H} {ps : List MemPlace} (h : DataW.Trod enc Tryz.prog W 0 sp held 22 v d ps) (hv : v.cells.toList = [v]) (hw : ∀ n ∈ d.weights Tryz.prog 22, n ≤ reachBytes) : ∃ l : List Vr, Sl encVr 5 W v l ∧ (∀ p ∈ l, VrOk p) := by
  obtain ⟨n, h⟩ := h
  rw [hv] at h
  obtain ⟨xs, h1, h2⟩ := open_slD (by decide) encVr_len Tryz.underlying22 (by kernel_rfl) dec_vr h
  refine ⟨xs, h1, fun p hp => ?_⟩
  rcases h2 with ⟨_, rfl⟩ | ⟨elems, spare, hd, _, hg⟩
  · cases hp
  · obtain ⟨dd, hm, a, b, c, e, rfl⟩ := hg p hp
    have hd : d = .slice elems spare := hd
    subst hd
    have key : ∀ n ∈ DataW.weights Tryz.prog 59 (.agg [.lit (.string p.name.data.toList), a, b, c, e] : DataW H), n ≤ reachBytes := fun n hn => hw n (by
      rw [DataW.weights, Tryz.underlying22]
      simp only [List.mem_cons, List.mem_append]
      exact .inr (.inl (weightsAll_mem hn hm)))
    have hs : p.name.data.toList.length ≤ reachBytes := key _ (by
      rw [DataW.weights, Tryz.underlying59]
      simp only [DataW.weightsEach, List.map_cons, List.map_nil, List.mem_append, DataW.weights]
      simp)
    rw [Array.length_toList] at hs
    exact hs
end Go.Proofs.YtenjkplijblcoaaGreatDoor

/- How long slices of parts and of variables are, that are read. -/
namespace Go.Proofs.YtenjkplijblcoaaGreatDoor
open Go.RowKit Go.ChangeShapes Go.WideShapes Cap
variable {H : Type} {enc : TypeId × Value → H}

theorem open_prt_len {W : World} {sp : Nat → Bool} {held : Bool} {v : Value} {d : DataW H} {ps : List MemPlace} (h : DataW.Trod enc Tryz.prog W 0 sp held 23 v d ps) (hv : v.cells.toList = [v]) (hw : ∀ n ∈ d.weights Tryz.prog 23, n ≤ reachBytes) {l : List Prt} (hl : Sl encPrt 5 W v l) : l.length * 56 ≤ 140737488351232 := by
  obtain ⟨n, h⟩ := h
  rw [hv] at h
  obtain ⟨xs, h1, h2⟩ := open_slD (by decide) encPrt_len Tryz.underlying23 (by kernel_rfl) dec_prt h
  have he : xs.length = l.length := by
    obtain ⟨A, c, rfl, -⟩ := hl
    obtain ⟨A', c', e, -⟩ := h1
    injection e with _ e _
    exact e.symm
  rw [← he]
  rcases h2 with ⟨_, rfl⟩ | ⟨elems, spare, hd, hlen, _⟩
  · simp
  · have hd : d = .slice elems spare := hd
    subst hd
    have hb : Tryz.prog.bytesOf 38 = 56 := by kernel_rfl
    have hq : (elems.length + spare.length) * 56 ≤ reachBytes := hw _ (by
      rw [DataW.weights, Tryz.underlying23]
      simp only [List.mem_cons, hb]
      exact .inl trivial)
    have hr : reachBytes = 140737488351232 := by decide
    omega
theorem open_vr_len {W : World} {sp : Nat → Bool} {held : Bool} {v : Value} {d : DataW H} {ps : List MemPlace} (h : DataW.Trod enc Tryz.prog W 0 sp held 22 v d ps) (hv : v.cells.toList = [v]) (hw : ∀ n ∈ d.weights Tryz.prog 22, n ≤ reachBytes) {l : List Vr} (hl : Sl encVr 5 W v l) : l.length * 48 ≤ 140737488351232 := by
  obtain ⟨n, h⟩ := h
  rw [hv] at h
  obtain ⟨xs, h1, h2⟩ := open_slD (by decide) encVr_len Tryz.underlying22 (by kernel_rfl) dec_vr h
  have he : xs.length = l.length := by
    obtain ⟨A, c, rfl, -⟩ := hl
    obtain ⟨A', c', e, -⟩ := h1
    injection e with _ e _
    exact e.symm
  rw [← he]
  rcases h2 with ⟨_, rfl⟩ | ⟨elems, spare, hd, hlen, _⟩
  · simp
  · have hd : d = .slice elems spare := hd
    subst hd
    have hb : Tryz.prog.bytesOf 59 = 48 := by kernel_rfl
    have hq : (elems.length + spare.length) * 48 ≤ reachBytes := hw _ (by
      rw [DataW.weights, Tryz.underlying22]
      simp only [List.mem_cons, hb]
      exact .inl trivial)
    have hr : reachBytes = 140737488351232 := by decide
    omega
end Go.Proofs.YtenjkplijblcoaaGreatDoor
