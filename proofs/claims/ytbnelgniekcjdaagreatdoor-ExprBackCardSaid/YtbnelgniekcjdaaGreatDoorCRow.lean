/- A row that lists variables, the world's shape kept. Over any program. -/
import Derived.LaidLaws
import Derived.LaidHandle
import Derived.Handed
import Derived.HandedShaped
import Derived.Lay
import Derived.Deep.Fields
import Derived.ChangeSame
import Derived.ProofKit
import Derived.OpenShut
set_option linter.unusedSimpArgs false
set_option linter.unusedVariables false
namespace Go.Proofs.YtbnelgniekcjdaaGreatDoor
open Go
variable {H : Type} {enc : TypeId × Value → H}
theorem handed_and_shaped {a : Assume} {C : Checked} {os : Os} {f : FuncId} {fn : Func} {s : ChangeSpec} {conds : List PathCond} {apart fresh handsOn again : Bool} {X : World → Array Value → Prop}
    (hX : ∀ (w w' : World) (args : Array Value), w.heap = w'.heap → X w args → X w' args)
    (own : ownKnob C.prog.godebug = none) (started : os.Started) (noInit : C.prog.inits.idxOf? f = none) (hfn : C.prog.funcs[f]? = some fn)
    (witness : ∃ (w : World) (tape : Tape) (i : Input), w.os = os ∧ (w.forCall tape i).Shaped C.prog ∧ i.vars = [] ∧ Input.okWide C.prog (w.forCall tape i) .any w.heap.size f i ∧
      ((s.pre enc C.prog fn conds apart (w.forCall tape i).memory i.args ∧ X (w.forCall tape i).memory i.args) ∧ sizedMet enc C.prog fn (OpenSpec.ofChange s) apart (w.forCall tape i).memory i.args) ∧ a.holds C.prog (lone (Frame.enter C.prog f i.args .normal) [] (w.forCall tape i)))
    (contract : ∀ (W : World) (base : Nat) (args : Array Value) (ds gs : List (DataW H)) (before : List MemPlace),
      (∀ (j : Nat) t v, fn.params[j]? = some t → args[j]? = some v → Value.okWide C.prog W .any base t v) →
      DataW.Whole enc C.prog fn.params.toList s.vars apart W args.toList ds gs before →
      conds.all (PathCond.test C.prog ⟨fn.params.toList, ds, s.plain.varTypes C.prog, gs⟩) = true →
      (DataW.weightsEach C.prog (fn.params.toList ++ s.plain.varTypes C.prog) (ds ++ gs)).all (· ≤ reachBytes) = true → X W args → W.ShapedOpen C.prog →
      Calls C.prog f args W fun e W' => ∃ v, e = .returned v ∧ s.post enc C.prog fn apart fresh handsOn again W args v W') :
    ReturnsInHanded a C os f .any (fun w args => (s.pre enc C.prog fn conds apart w args ∧ X w args) ∧ sizedMet enc C.prog fn (OpenSpec.ofChange s) apart w args) (s.post enc C.prog fn apart fresh handsOn again) := by
  refine returnsInHanded_of_calls own started noInit witness ?_
  intro w tape i _ hsh _ hok hpre _
  obtain ⟨_, _, _, fn', hfn', _, _, _, _, hval⟩ := hok
  have e : fn' = fn := Option.some.inj (hfn'.symm.trans hfn)
  subst e
  obtain ⟨⟨⟨ds, gs, before, hw, hc⟩, hx⟩, hz⟩ := hpre
  have hw' := DataW.Whole.of_heap (w' := w.forCall tape i) (by rfl) hw
  refine (contract (w.forCall tape i) w.heap.size i.args ds gs before hval hw' hc (hz.weights hw) (hX _ _ _ (by rfl) hx) hsh).mono fun e W' ⟨v, he, hp⟩ => ?_
  subst he
  exact ChangeSpec.post_blind hp
end Go.Proofs.YtbnelgniekcjdaaGreatDoor

/- Arguments of numbers, texts, slices and structs: read again as they were, where nothing that was there has turned. Over any program. -/
namespace Go.Proofs.YtbnelgniekcjdaaGreatDoor
open Go.RowKit Go.ChangeShapes Go.WideShapes
variable {H : Type} {enc : TypeId × Value → H} {P : Program}

/-- A type of bools, numbers, texts, slices of such and structs of such. -/
def flatB (P : Program) : Nat → TypeId → Bool
  | 0, _ => false
  | k + 1, t => match P.underlying t with
    | some .bool => true
    | some (.int _) => true
    | some .string => true
    | some (.slice e) => decide (0 < P.cellsOf e) && flatB P k e
    | some (.struct fs) => fs.toList.all fun f => flatB P k f.type
    | _ => false
theorem trod_sp {w : World} {base : Nat} {held : Bool} {sp : Nat → Bool} : ∀ (k : Nat) {n : Nat} {t : TypeId} {cs : List Value} {x : DataW H × List MemPlace}, flatB P k t = true →
    DataW.trod enc P w base (fun _ => true) held n t cs = some x → (∀ p ∈ x.2, sp p.block = true) → DataW.trod enc P w base sp held n t cs = some x
  | 0, _, _, _, _, hf, _, _ => by cases hf
  | k + 1, 0, _, _, _, _, h, _ => by simp [DataW.trod] at h
  | k + 1, n + 1, t, cs, x, hf, h, hp => by
    rw [DataW.trod_step] at h ⊢
    unfold DataW.trodStep at h ⊢
    split at h
    case h_8 e a len cap heq =>
      have hf' : (decide (0 < P.cellsOf e) && flatB P k e) = true := by
        unfold flatB at hf
        simpa [heq] using hf
      rw [Bool.and_eq_true, decide_eq_true_eq] at hf'
      obtain ⟨hc0, hfe⟩ := hf'
      simp only at h ⊢
      split at h
      · rename_i hc
        rw [if_pos hc]
        simp only [Option.map_eq_some_iff, Option.bind_eq_some_iff, if_true] at h ⊢
        obtain ⟨elems, he, rest, hrest, rfl⟩ := h
        have hlen : elems.length = len := by simpa using mapM_some_length he
        have hrl : rest.length = cap - len := by simpa using mapM_some_length hrest
        have one : ∀ (i : Nat) (y : DataW H × List MemPlace), y ∈ elems ++ rest →
            (w.cells? base (a.add (i * P.cellsOf e)) (P.cellsOf e)).bind (DataW.trod enc P w base (fun _ => true) held n e) = some y → (w.cells? base (a.add (i * P.cellsOf e)) (P.cellsOf e)).bind (DataW.trod enc P w base sp held n e) = some y := by
          intro i y hy hv
          simp only [Option.bind_eq_some_iff] at hv ⊢
          obtain ⟨cs', hc', hy'⟩ := hv
          exact ⟨cs', hc', trod_sp k hfe hy' (fun p hpp => hp p (List.mem_append.2 (.inr (List.mem_flatMap.2 ⟨y, hy, hpp⟩))))⟩
        refine ⟨elems, mapM_carry he (fun i y _ hy => one i y (List.mem_append.2 (.inl hy))), rest, ?_, rfl⟩
        by_cases hcap : cap - len = 0
        · have h0 : rest = [] := List.eq_nil_of_length_eq_zero (by omega)
          subst h0
          split
          · rw [hcap]; rfl
          · rfl
        · have hsp : sp a.block = true := by
            refine hp (.cell a.block (a.off + 0)) (List.mem_append.2 (.inl (MemPlace.mem_row.2 ⟨0, ?_, rfl⟩)))
            exact Nat.mul_pos (by omega) hc0
          rw [if_pos hsp]
          exact mapM_carry hrest (fun j y _ hy => one (len + j) y (List.mem_append.2 (.inr hy)))
      · cases h
    case h_9 fs heq =>
      have hf' : (fs.toList.all fun f => flatB P k f.type) = true := by
        unfold flatB at hf
        simpa [heq] using hf
      rw [List.all_eq_true] at hf'
      split at h
      · rename_i hc
        rw [if_pos hc]
        simp only [Option.map_eq_some_iff] at h ⊢
        obtain ⟨xs, hx, rfl⟩ := h
        exact ⟨xs, mapM_carry hx (fun f y hm hy hv => trod_sp k (hf' f hm) hv (fun p hpp => hp p (List.mem_flatMap.2 ⟨y, hy, hpp⟩))), rfl⟩
      · cases h
    all_goals first | exact h | (exfalso; unfold flatB at hf; simp_all; done)
/-- Arguments read as they were. -/
theorem trodAll_kept {W W' : World} {sp : Nat → Bool} (hb : Below W.heap.size W W') (k : Nat) : ∀ {ts : List TypeId} {vs : List Value} {ds : List (DataW H)} {ps : List MemPlace}, ts.all (flatB P k) = true →
    DataW.TrodAll enc P W 0 (fun _ => true) true ts vs ds ps → (∀ p ∈ ps, sp p.block = true) → DataW.TrodAll enc P W' 0 sp true ts vs ds ps
  | [], vs, ds, ps, _, h, _ => by
    obtain ⟨rfl, rfl, rfl⟩ := trodAll_nil h
    rfl
  | t :: ts, vs, ds, ps, hf, h, hp => by
    obtain ⟨v, vs', d, ds', p, q, rfl, rfl, rfl, ⟨n, hd⟩, h2⟩ := trodAll_cons h
    rw [List.all_cons, Bool.and_eq_true] at hf
    refine ⟨p, q, ⟨n, ?_⟩, trodAll_kept hb k hf.2 h2 (fun x hx => hp x (by simp [hx])), rfl⟩
    have h3 := trod_sp k hf.1 hd (sp := sp) (fun x hx => hp x (by simp [show x ∈ p from hx]))
    exact DataW.trod_carry n t _ _ h3 (fun x hx => hb.same (DataW.trod_lt n t _ _ hd x hx))
/-- A law that answers true and leaves what was there as it was. -/
theorem post_true {f : Func} {s : ChangeSpec} {W W' : World} {args : Array Value} {ds gs : List (DataW H)} {before : List MemPlace}
    (hW : DataW.Whole enc P f.params.toList s.vars false W args.toList ds gs before) (hv : s.vars = []) (hfn : s.fn H ds = { results := [.lit (.bool true)], args := ds }) (k : Nat) (hf : f.params.toList.all (flatB P k) = true)
    (tb : TypeId) (hr : f.resultTypes = #[tb]) (htb : P.underlying tb = some .bool) (hb : Below W.heap.size W W') : s.post enc P f false true false false W args (.bool true) W' := by
  have hW' := hW
  obtain ⟨p, q, hA, hV, rfl, hz, hn⟩ := hW'
  rw [hv] at hV
  obtain ⟨rfl, rfl⟩ := trodVars_none hV
  have hfn' : s.fn H (ds ++ []) = { results := [.lit (.bool true)], args := ds } := by rw [List.append_nil]; exact hfn
  refine ⟨ds, [], _, [], p, [], hW, ?_, ?_, ?_, hb.frame _, fun h => by cases h⟩
  · rw [hfn', hr]
    exact trodAll_mk1 (shut_bool htb true)
  · rw [hfn']
    refine trodAll_kept hb k hf hA (fun x hx => ?_)
    simpa using hW.lt x (by simpa using hx)
  · rw [hfn', hv]
    rfl
end Go.Proofs.YtbnelgniekcjdaaGreatDoor
