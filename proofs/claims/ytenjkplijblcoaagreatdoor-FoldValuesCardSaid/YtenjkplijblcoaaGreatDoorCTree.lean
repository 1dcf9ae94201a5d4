/- Expressions as trees, plainly. -/
import Derived.Test.YtenjkplijblcoaaGreatDoorCFExpr
import Derived.Test.YtenjkplijblcoaaGreatDoorCBase
set_option linter.unusedSimpArgs false
set_option linter.unusedVariables false
namespace Cap
open Go Go.RowKit

inductive Ex where
  | leaf (p : Prt)
  | un (p : Prt) (a : Ex)
  | bin (p : Prt) (a b : Ex)
def Ex.flat : Ex → List Prt
  | .leaf p => [p]
  | .un p a => a.flat ++ [p]
  | .bin p a b => a.flat ++ b.flat ++ [p]
/-- Has each part as many values as it takes? -/
def Ex.Ok : Ex → Prop
  | .leaf p => takesT p = 0
  | .un p a => takesT p = 1 ∧ a.Ok
  | .bin p a b => takesT p = 2 ∧ a.Ok ∧ b.Ok
/-- An expression asked for a type (fold's ask). -/
def askX (vars : List Vr) : Int → Ex → Ex
  | t, .leaf p => if p.k = 1 ∧ p.t = 0 then .leaf ⟨p.k, p.n, t, p.s, p.f⟩ else .leaf p
  | t, .un p a => .un p (askX vars (if p.k = 3 then (if fitsX vars a.flat 2 = 0 then 2 else 3) else if p.k = 6 then 3 else t) a)
  | t, .bin p a b =>
    let k := max (reckV vars a.flat).1.t (reckV vars b.flat).1.t
    let k := if k = 0 then (if 9 ≤ p.n then 3 else t) else k
    .bin p (askX vars k a) (askX vars k b)
/-- fold.folded, of a tree. -/
def foldX : Ex → List Prt
  | .leaf p => [p]
  | .un p a =>
    match foldX a with
    | [q] => if q.k = 1 ∧ (reckP p [q]).2 = true then [(reckP p [q]).1] else [q, p]
    | l => l ++ [p]
  | .bin p a b =>
    match foldX a, foldX b with
    | [q], [q'] => if q.k = 1 ∧ q'.k = 1 ∧ (reckP p [q, q']).2 = true then [(reckP p [q, q']).1] else [q, q', p]
    | l, l' => l ++ l' ++ [p]
end Cap
namespace Go.Proofs.YtenjkplijblcoaaGreatDoor
open Go.RowKit Cap
/-- What depth lets by is a tree. -/
theorem tree_of : ∀ (x : List Prt) (dst : List Int) (fs : List Ex) (d : Int), depthGo x dst = some [d] → fs.length = dst.length → (∀ T ∈ fs, T.Ok) → (∀ p ∈ x, takesT p = takesE p) → ∃ T : Ex, T.Ok ∧ T.flat = fs.flatMap Ex.flat ++ x
  | [], dst, fs, d, h, hl, hok, _ => by
    rw [depthGo] at h
    injection h with h
    subst h
    obtain ⟨T, rfl⟩ := List.length_eq_one_iff.1 (show fs.length = 1 from hl)
    exact ⟨T, hok T (by simp), by simp⟩
  | p :: r, dst, fs, d, h, hl, hok, ht => by
    rw [depthGo] at h
    split at h
    · cases h
    · rename_i hn
      have hp := ht p (by simp)
      have hle := takesE_le p
      obtain ⟨m, hm⟩ : ∃ m, fs.length = m + takesE p := ⟨fs.length - takesE p, by omega⟩
      have hdrop : (fs.drop m).length = takesE p := by rw [List.length_drop]; omega
      have hfs : fs.flatMap Ex.flat = (fs.take m).flatMap Ex.flat ++ (fs.drop m).flatMap Ex.flat := by rw [← List.flatMap_append, List.take_append_drop]
      have hokd : ∀ T ∈ fs.drop m, T.Ok := fun T hT => hok T (List.mem_of_mem_drop hT)
      have hnew : ∃ T : Ex, T.Ok ∧ T.flat = (fs.drop m).flatMap Ex.flat ++ [p] := by
        generalize fs.drop m = l at hdrop hokd
        match l, hdrop with
        | [], h0 => exact ⟨.leaf p, by rw [Ex.Ok, hp]; simpa using h0.symm, rfl⟩
        | [a], h1 => exact ⟨.un p a, ⟨by rw [hp]; simpa using h1.symm, hokd a (by simp)⟩, by simp [Ex.flat]⟩
        | [a, b], h2 => exact ⟨.bin p a b, ⟨by rw [hp]; simpa using h2.symm, hokd a (by simp), hokd b (by simp)⟩, by simp [Ex.flat]⟩
        | _ :: _ :: _ :: _, h3 => simp at h3; omega
      obtain ⟨T, hT1, hT2⟩ := hnew
      obtain ⟨T', h1, h2⟩ := tree_of r (depthStep p dst) (fs.take m ++ [T]) d h
        (by rw [depthStep_len, List.length_append, List.length_take]; simp; omega)
        (fun U hU => by
          rcases List.mem_append.1 hU with hU | hU
          · exact hok U (List.mem_of_mem_take hU)
          · rw [List.mem_singleton.1 hU]; exact hT1)
        (fun q hq => ht q (by simp [hq]))
      refine ⟨T', h1, ?_⟩
      rw [h2, List.flatMap_append, hfs]
      simp [hT2]
end Go.Proofs.YtenjkplijblcoaaGreatDoor

/- What an expression that is a tree is worth, by types. -/
namespace Cap
open Go Go.RowKit

/-- What comes of a part and the values ahead of it. -/
def stepX (vars : List Vr) (p : Prt) (l : List Va) : Except Int Va := if (partV vars p l).2 ≠ 0 then .error (partV vars p l).2 else .ok (partV vars p l).1
def valX (vars : List Vr) : Ex → Except Int Va
  | .leaf p => stepX vars p []
  | .un p a => match valX vars a with
    | .error e => .error e
    | .ok v => stepX vars p [v]
  | .bin p a b => match valX vars a with
    | .error e => .error e
    | .ok v => match valX vars b with
      | .error e => .error e
      | .ok v' => stepX vars p [v, v']
theorem reckGo_step {vars : List Vr} {p : Prt} {r : List Prt} {st l : List Va} (h : l.length = takesT p) : reckGo vars (p :: r) (st ++ l) = match stepX vars p l with
    | .error e => .error e
    | .ok v => reckGo vars r (st ++ [v]) := by
  have hm : (st ++ l).length - takesT p = st.length := by rw [List.length_append]; omega
  rw [reckGo, hm, List.drop_left, List.take_left]
  unfold stepX
  by_cases hq : (partV vars p l).2 ≠ 0
  · rw [if_pos hq, if_pos hq]
  · rw [if_neg hq, if_neg hq]
theorem reckGo_flat {vars : List Vr} : ∀ (T : Ex) (r : List Prt) (st : List Va), T.Ok → reckGo vars (T.flat ++ r) st = match valX vars T with
    | .error e => .error e
    | .ok v => reckGo vars r (st ++ [v])
  | .leaf p, r, st, hT => by
    have h := reckGo_step (vars := vars) (p := p) (r := r) (st := st) (l := []) (by rw [Ex.Ok] at hT; simp [hT])
    rw [List.append_nil] at h
    exact h
  | .un p a, r, st, hT => by
    obtain ⟨h1, h2⟩ := hT
    rw [Ex.flat, List.append_assoc, reckGo_flat a _ _ h2, valX]
    cases valX vars a with
    | error e => rfl
    | ok v => exact reckGo_step (by rw [h1]; rfl)
  | .bin p a b, r, st, hT => by
    obtain ⟨h1, h2, h3⟩ := hT
    rw [Ex.flat, List.append_assoc, List.append_assoc, reckGo_flat a _ _ h2, valX]
    cases valX vars a with
    | error e => rfl
    | ok v =>
      simp only
      rw [reckGo_flat b _ _ h3]
      cases valX vars b with
      | error e => rfl
      | ok v' =>
        have h := reckGo_step (vars := vars) (p := p) (r := r) (st := st) (l := [v, v']) (by rw [h1]; rfl)
        have e : st ++ [v] ++ [v'] = st ++ [v, v'] := by simp
        exact (congrArg (reckGo vars (p :: r)) e).trans h
/-- typed.reckon of a tree. -/
theorem reckGo_tree {vars : List Vr} (T : Ex) (hT : T.Ok) : reckGo vars T.flat [] = match valX vars T with
    | .error e => .error e
    | .ok v => .ok [v] := by
  have h := reckGo_flat (vars := vars) T [] [] hT
  rw [List.append_nil] at h
  rw [h]
  cases valX vars T <;> rfl
end Cap

/- Folding part by part, and folding a tree, are one. -/
namespace Cap
open Go Go.RowKit

/-- One part's step of fold.folded. -/
def foldStep (p : Prt) (out : List Prt) : List Prt :=
  if takesT p ≠ 0 ∧ (out.drop (out.length - takesT p)).all (fun q => q.k == 1) = true ∧ (reckP p (out.drop (out.length - takesT p))).2 = true then out.take (out.length - takesT p) ++ [(reckP p (out.drop (out.length - takesT p))).1] else out ++ [p]
def foldGo : List Prt → List Prt → List Prt
  | [], out => out
  | p :: r, out => foldGo r (foldStep p out)
theorem takes_k {p : Prt} (h : takesT p ≠ 0) : p.k ≠ 1 := by
  intro hk
  apply h
  unfold takesT
  rw [if_neg (by omega), if_neg (by omega)]
/-- A folded tree ends in a part that is no number, unless it is one. -/
theorem foldX_last : ∀ T : Ex, T.Ok → ∃ l q, foldX T = l ++ [q] ∧ (q.k = 1 → l = [])
  | .leaf p, _ => ⟨[], p, rfl, fun _ => rfl⟩
  | .un p a, hT => by
    obtain ⟨h1, h2⟩ := hT
    have hk := takes_k (p := p) (by omega)
    rw [foldX]
    split
    · split
      · exact ⟨[], _, rfl, fun _ => rfl⟩
      · exact ⟨[_], p, rfl, fun h => absurd h hk⟩
    · exact ⟨_, p, rfl, fun h => absurd h hk⟩
  | .bin p a b, hT => by
    obtain ⟨h1, h2, h3⟩ := hT
    have hk := takes_k (p := p) (by omega)
    rw [foldX]
    split
    · split
      · exact ⟨[], _, rfl, fun _ => rfl⟩
      · exact ⟨[_, _], p, rfl, fun h => absurd h hk⟩
    · exact ⟨_, p, rfl, fun h => absurd h hk⟩
theorem foldStep_un {p : Prt} {out l : List Prt} {q : Prt} (h1 : takesT p = 1) (hl : q.k = 1 → l = []) : foldStep p (out ++ (l ++ [q])) = out ++ (match l ++ [q] with
    | [q'] => if q'.k = 1 ∧ (reckP p [q']).2 = true then [(reckP p [q']).1] else [q', p]
    | l' => l' ++ [p]) := by
  have hlen : (out ++ (l ++ [q])).length - takesT p = (out ++ l).length := by rw [h1]; simp
  have hd : (out ++ (l ++ [q])).drop ((out ++ l).length) = [q] := by rw [← List.append_assoc, List.drop_left]
  have ht : (out ++ (l ++ [q])).take ((out ++ l).length) = out ++ l := by rw [← List.append_assoc, List.take_left]
  unfold foldStep
  rw [hlen, hd, ht]
  by_cases hq : q.k = 1
  · obtain rfl := hl hq
    by_cases hr : (reckP p [q]).2 = true
    · rw [if_pos ⟨by omega, by simp [hq], hr⟩]
      simp [hq, hr]
    · rw [if_neg (fun h => hr h.2.2)]
      simp [hq, hr]
  · rw [if_neg (fun h => hq (by simpa using h.2.1))]
    match l with
    | [] => simp [hq]
    | x :: r => cases r <;> simp
theorem foldStep_bin {p : Prt} {out l l' : List Prt} {q q' : Prt} (h1 : takesT p = 2) (hl : q.k = 1 → l = []) (hl' : q'.k = 1 → l' = []) : foldStep p (out ++ (l ++ [q]) ++ (l' ++ [q'])) = out ++ (match l ++ [q], l' ++ [q'] with
    | [q], [q'] => if q.k = 1 ∧ q'.k = 1 ∧ (reckP p [q, q']).2 = true then [(reckP p [q, q']).1] else [q, q', p]
    | l, l' => l ++ l' ++ [p]) := by
  by_cases hq' : q'.k = 1
  · obtain rfl := hl' hq'
    have hlen : (out ++ (l ++ [q]) ++ ([] ++ [q'])).length - takesT p = (out ++ l).length := by rw [h1]; simp; omega
    have hd : (out ++ (l ++ [q]) ++ ([] ++ [q'])).drop ((out ++ l).length) = [q, q'] := by
      rw [show out ++ (l ++ [q]) ++ ([] ++ [q']) = (out ++ l) ++ [q, q'] by simp, List.drop_left]
    have ht : (out ++ (l ++ [q]) ++ ([] ++ [q'])).take ((out ++ l).length) = out ++ l := by
      rw [show out ++ (l ++ [q]) ++ ([] ++ [q']) = (out ++ l) ++ [q, q'] by simp, List.take_left]
    unfold foldStep
    rw [hlen, hd, ht]
    by_cases hq : q.k = 1
    · obtain rfl := hl hq
      by_cases hr : (reckP p [q, q']).2 = true
      · rw [if_pos ⟨by omega, by simp [hq, hq'], hr⟩]
        simp [hq, hq', hr]
      · rw [if_neg (fun h => hr h.2.2)]
        simp [hq, hq', hr]
    · rw [if_neg (fun h => hq (by have := h.2.1; simp at this; exact this.1))]
      match l with
      | [] => simp [hq]
      | x :: r => cases r <;> simp
  · have hlen : (out ++ (l ++ [q]) ++ (l' ++ [q'])).length - takesT p ≤ (out ++ (l ++ [q]) ++ l').length := by rw [h1]; simp; omega
    have hn : ((out ++ (l ++ [q]) ++ (l' ++ [q'])).drop ((out ++ (l ++ [q]) ++ (l' ++ [q'])).length - takesT p)).all (fun q => q.k == 1) ≠ true := by
      intro h
      rw [List.all_eq_true] at h
      have hm : q' ∈ (out ++ (l ++ [q]) ++ (l' ++ [q'])).drop ((out ++ (l ++ [q]) ++ (l' ++ [q'])).length - takesT p) := by
        rw [← List.append_assoc, List.drop_append_of_le_length (by rw [List.append_assoc]; exact hlen)]
        exact List.mem_append.2 (.inr (List.mem_singleton.2 rfl))
      have := h q' hm
      simp at this
      exact hq' this
    unfold foldStep
    rw [if_neg (fun h => hn h.2.1)]
    match l, l' with
    | [], [] => simp [hq']
    | [], x :: r => cases r <;> simp
    | y :: t, [] => cases t <;> simp
    | y :: t, x :: r => cases t <;> cases r <;> simp
/-- fold.folded of a tree. -/
theorem foldGo_flat : ∀ (T : Ex) (r out : List Prt), T.Ok → foldGo (T.flat ++ r) out = foldGo r (out ++ foldX T)
  | .leaf p, r, out, hT => by
    show foldGo r (foldStep p out) = _
    rw [Ex.Ok] at hT
    unfold foldStep
    rw [if_neg (fun h => h.1 hT)]
    rfl
  | .un p a, r, out, hT => by
    obtain ⟨h1, h2⟩ := hT
    rw [Ex.flat, List.append_assoc, foldGo_flat a _ _ h2]
    obtain ⟨l, q, he, hl⟩ := foldX_last a h2
    show foldGo r (foldStep p _) = _
    rw [he, foldStep_un h1 hl, foldX, he]
    try (rcases l with _ | ⟨x, _ | ⟨y, t⟩⟩ <;> rfl)
  | .bin p a b, r, out, hT => by
    obtain ⟨h1, h2, h3⟩ := hT
    rw [Ex.flat, List.append_assoc, List.append_assoc, foldGo_flat a _ _ h2, foldGo_flat b _ _ h3]
    obtain ⟨l, q, he, hl⟩ := foldX_last a h2
    obtain ⟨l', q', he', hl'⟩ := foldX_last b h3
    show foldGo r (foldStep p _) = _
    rw [he, he', foldStep_bin h1 hl hl', foldX, he, he']
    try (rcases l with _ | ⟨x, _ | ⟨y, t⟩⟩ <;> rcases l' with _ | ⟨x', _ | ⟨y', t'⟩⟩ <;> rfl)
end Cap

/- The types of folded trees without names. -/
namespace Cap
open Go Go.RowKit

/-- The type of a tree in which all numbers have types. -/
def tyX : Ex → Int
  | .leaf p => p.t
  | .un p a => if p.k = 6 then p.t else tyX a
  | .bin p a _ => (result p.n (tyX a)).1
/-- No names. -/
def Ex.Plain : Ex → Prop
  | .leaf p => p.k = 1
  | .un p a => p.k ≠ 3 ∧ a.Plain
  | .bin _ a b => a.Plain ∧ b.Plain
theorem takes1 {p : Prt} (h : takesT p = 1) (h3 : p.k ≠ 3) : p.k = 6 ∨ p.k = 5 := by
  unfold takesT at h
  by_cases h6 : p.k = 6
  · exact .inl h6
  · by_cases h5 : p.k = 5
    · exact .inr h5
    · rw [if_neg (by omega), if_neg h5] at h
      omega
theorem takes2 {p : Prt} (h : takesT p = 2) : p.k = 5 := by
  unfold takesT at h
  by_cases h5 : p.k = 5
  · exact h5
  · split at h
    · omega
    · omega
theorem foldX_ne {U : Ex} (h : U.Ok) : foldX U ≠ [] := by
  obtain ⟨l, q, he, _⟩ := foldX_last U h
  rw [he]
  simp
theorem foldX_one : ∀ (U : Ex) (q : Prt), U.Ok → U.Plain → foldX U = [q] → q.k = 1 ∧ q.t = tyX U
  | .leaf p, q, _, hp, h => by
    rw [foldX] at h
    injection h with h
    subst h
    exact ⟨hp, rfl⟩
  | .un p a, q, ho, hp, h => by
    obtain ⟨h1, h2⟩ := ho
    obtain ⟨h3, h4⟩ := hp
    rw [foldX] at h
    split at h
    · rename_i q0 hq0
      split at h
      · obtain ⟨i1, i2⟩ := foldX_one a q0 h2 h4 hq0
        injection h with h
        subst h
        rcases takes1 h1 h3 with h6 | h5
        · unfold reckP tyX
          rw [if_pos h6, if_pos h6]
          exact ⟨rfl, rfl⟩
        · unfold reckP tyX
          rw [if_neg (by omega), if_pos ⟨h5, rfl⟩, if_neg (by omega)]
          exact ⟨rfl, i2⟩
      · simp at h
    · have := congrArg List.length h
      rw [List.length_append] at this
      simp at this
      exact absurd this (foldX_ne h2)
  | .bin p a b, q, ho, hp, h => by
    obtain ⟨h1, h2, h3⟩ := ho
    obtain ⟨h4, h5⟩ := hp
    rw [foldX] at h
    split at h
    · rename_i q0 q1 hq0 hq1
      split at h
      · obtain ⟨i1, i2⟩ := foldX_one a q0 h2 h4 hq0
        injection h with h
        subst h
        have hk := takes2 h1
        unfold reckP tyX
        rw [if_neg (by omega), if_neg (by simp), if_pos hk]
        exact ⟨rfl, by show (result p.n q0.t).1 = _; rw [i2]⟩
      · simp at h
    · have := congrArg List.length h
      rw [List.length_append] at this
      simp at this
      exact absurd this.1 (foldX_ne h2)
end Cap
