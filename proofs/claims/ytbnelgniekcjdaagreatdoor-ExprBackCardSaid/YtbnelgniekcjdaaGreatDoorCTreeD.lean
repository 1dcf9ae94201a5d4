/- What expressions are (package typed), plainly. -/
import Derived.Test.YtbnelgniekcjdaaGreatDoorCFSpec
import Derived.Test.YtbnelgniekcjdaaGreatDoorCFExpr
set_option linter.unusedSimpArgs false
set_option linter.unusedVariables false
namespace Cap
open Go Go.RowKit

/-- What an expression is: its type (0: none yet), the least and the greatest of its numbers of no type. -/
structure Va where
  t : Int
  lo : Int
  hi : Int
def plainV (t : Int) : Va := ⟨t, 0, 0⟩
def vaFits (v : Va) (t : Int) : Bool := fits t v.lo && fits t v.hi
def whole (t : Int) : Bool := t == 2 || t == 3
def countsV (v : Va) (time : Bool) : Int :=
  if v.t = 0 ∧ vaFits v 3 = false then 1 else if v.t = 0 ∨ whole v.t = true ∨ (time = true ∧ v.t = 4) then 0 else 40
def twoV (op : Int) (a b : Va) : Va × Int :=
  if max a.t b.t ≠ 0 ∧ a.t ≠ b.t ∧ ((a.t ≠ 0 ∧ b.t ≠ 0) ∨ whole (max a.t b.t) = false) then (plainV 0, 40)
  else if (result op (if max a.t b.t = 0 then 3 else max a.t b.t)).2 ≠ 0 ∨ (two op (if max a.t b.t = 0 then 3 else max a.t b.t) 1 1).2 ≠ 0 then (plainV 0, 40)
  else if max a.t b.t = 0 ∧ (result op (if max a.t b.t = 0 then 3 else max a.t b.t)).1 ≠ 1 then (⟨0, min a.lo b.lo, max a.hi b.hi⟩, 0)
  else if (a.t = 0 ∧ vaFits a (if max a.t b.t = 0 then 3 else max a.t b.t) = false) ∨ (b.t = 0 ∧ vaFits b (if max a.t b.t = 0 then 3 else max a.t b.t) = false) then (plainV 0, 1)
  else (plainV (result op (if max a.t b.t = 0 then 3 else max a.t b.t)).1, 0)
def oneV (op : Int) (a : Va) : Va × Int := if (one op (if a.t = 0 then 3 else a.t) 1).2 ≠ 0 then (plainV 0, 40) else (a, 0)
def findV : List Vr → ByteArray → Option Vr
  | [], _ => none
  | v :: r, s => if (v.name.toList == s.toList) = true then some v else findV r s
def findF : List Fld → ByteArray → Option Fld
  | [], _ => none
  | v :: r, s => if (v.name.toList == s.toList) = true then some v else findF r s
/-- What a part with a name is (top: the value ahead, if it takes one). -/
def namedV (vars : List Vr) (p : Prt) (top : Va) : Va × Int :=
  match findV vars p.s with
  | none => (plainV 0, 90)
  | some v => if p.k = 2 ∧ v.len = 0 ∧ v.ty < 100 then (plainV v.ty, 0)
    else if p.k = 3 ∧ 0 < v.len then (plainV v.ty, countsV top false)
    else if p.k = 4 ∧ 100 < v.ty then match findF (fieldsOf (v.ty - 100)) p.f with
      | some f => (plainV f.ty, 0)
      | none => (plainV 0, 91)
    else (plainV 0, 91)
/-- What a part makes of the values ahead of it. -/
def partV (vars : List Vr) (p : Prt) (top : List Va) : Va × Int :=
  if p.k = 1 ∧ p.t = 0 then (⟨0, p.n, p.n⟩, 0) else if p.k = 1 then (plainV p.t, 0)
  else if p.k = 6 then (plainV p.t, countsV (top.getD 0 (plainV 0)) true)
  else if p.k = 5 ∧ top.length = 1 then oneV p.n (top.getD 0 (plainV 0))
  else if p.k = 5 then twoV p.n (top.getD 0 (plainV 0)) (top.getD 1 (plainV 0))
  else namedV vars p (top.getD 0 (plainV 0))
def reckGo (vars : List Vr) : List Prt → List Va → Except Int (List Va)
  | [], st => .ok st
  | p :: r, st => if (partV vars p (st.drop (st.length - takesT p))).2 ≠ 0 then .error (partV vars p (st.drop (st.length - takesT p))).2
    else reckGo vars r (st.take (st.length - takesT p) ++ [(partV vars p (st.drop (st.length - takesT p))).1])
/-- typed.reckon. -/
def reckV (vars : List Vr) (x : List Prt) : Va × Int :=
  if wrongV vars ≠ 0 then (plainV 0, wrongV vars) else if checkX x ≠ 0 then (plainV 0, checkX x)
  else match reckGo vars x [] with
    | .error e => (plainV 0, e)
    | .ok st => if (st.getD 0 (plainV 0)).t ≠ 0 ∨ vaFits (st.getD 0 (plainV 0)) 3 = true then (st.getD 0 (plainV 0), 0) else (plainV 0, 1)
/-- typed.Fits. -/
def fitsX (vars : List Vr) (x : List Prt) (t : Int) : Int :=
  if (reckV vars x).2 ≠ 0 then (reckV vars x).2
  else if (reckV vars x).1.t = t ∧ (reckV vars x).1.lo = 0 ∧ (reckV vars x).1.hi = 0 ∧ t ≠ 0 then 0
  else if (reckV vars x).1.t ≠ 0 ∨ whole t = false then 40
  else if vaFits (reckV vars x).1 t = false then 1 else 0
end Cap
namespace Go.Proofs.YtbnelgniekcjdaaGreatDoor
open Go.RowKit Cap
def encVa (v : Va) : List Value := [.int .i64 v.t, .int .i64 v.lo, .int .i64 v.hi]
def vaV (v : Va) : Value := .agg #[.int .i64 v.t, .int .i64 v.lo, .int .i64 v.hi]
theorem encVa_len (v : Va) : (encVa v).length = 3 := rfl
end Go.Proofs.YtbnelgniekcjdaaGreatDoor

/- Folding, plainly. -/
namespace Cap
open Go Go.RowKit

/-- fold.reckon. -/
def reckP (p : Prt) (l : List Prt) : Prt × Bool :=
  if p.k = 6 then (numP (numConvert (l.getD 0 (numP 0 0)).t p.t (l.getD 0 (numP 0 0)).n).1 p.t, (numConvert (l.getD 0 (numP 0 0)).t p.t (l.getD 0 (numP 0 0)).n).2 == 0)
  else if p.k = 5 ∧ l.length = 1 then (numP (one p.n (l.getD 0 (numP 0 0)).t (l.getD 0 (numP 0 0)).n).1 (l.getD 0 (numP 0 0)).t, (one p.n (l.getD 0 (numP 0 0)).t (l.getD 0 (numP 0 0)).n).2 == 0)
  else if p.k = 5 then (numP (two p.n (l.getD 0 (numP 0 0)).t (l.getD 0 (numP 0 0)).n (l.getD 1 (numP 0 0)).n).1 (result p.n (l.getD 0 (numP 0 0)).t).1, (two p.n (l.getD 0 (numP 0 0)).t (l.getD 0 (numP 0 0)).n (l.getD 1 (numP 0 0)).n).2 == 0)
  else (numP 0 p.t, false)
end Cap

/- Expressions as trees, plainly. -/
namespace Cap
open Go Go.RowKit

inductive Ex where
  | leaf (p : Prt)
  | un (p : Prt) (a : Ex)
  | bin (p : Prt) (a b : Ex)
def Ex.flat : Ex → List Prt
  | .leaf p => [p]
  | .un p a => a.flat ++ [p]
  | .bin p a b => a.flat ++ b.flat ++ [p]
/-- Has each part as many values as it takes? -/
def Ex.Ok : Ex → Prop
  | .leaf p => takesT p = 0
  | .un p a => takesT p = 1 ∧ a.Ok
  | .bin p a b => takesT p = 2 ∧ a.Ok ∧ b.Ok
/-- An expression asked for a type (fold's ask). -/
def askX (vars : List Vr) : Int → Ex → Ex
  | t, .leaf p => if p.k = 1 ∧ p.t = 0 then .leaf ⟨p.k, p.n, t, p.s, p.f⟩ else .leaf p
  | t, .un p a => .un p (askX vars (if p.k = 3 then (if fitsX vars a.flat 2 = 0 then 2 else 3) else if p.k = 6 then 3 else t) a)
  | t, .bin p a b =>
    let k := max (reckV vars a.flat).1.t (reckV vars b.flat).1.t
    let k := if k = 0 then (if 9 ≤ p.n then 3 else t) else k
    .bin p (askX vars k a) (askX vars k b)
/-- fold.folded, of a tree. -/
def foldX : Ex → List Prt
  | .leaf p => [p]
  | .un p a =>
    match foldX a with
    | [q] => if q.k = 1 ∧ (reckP p [q]).2 = true then [(reckP p [q]).1] else [q, p]
    | l => l ++ [p]
  | .bin p a b =>
    match foldX a, foldX b with
    | [q], [q'] => if q.k = 1 ∧ q'.k = 1 ∧ (reckP p [q, q']).2 = true then [(reckP p [q, q']).1] else [q, q', p]
    | l, l' => l ++ l' ++ [p]
end Cap
namespace Go.Proofs.YtbnelgniekcjdaaGreatDoor
open Go.RowKit Cap
/-- What depth lets by is a tree. -/
theorem tree_of : ∀ (x : List Prt) (dst : List Int) (fs : List Ex) (d : Int), depthGo x dst = some [d] → fs.length = dst.length → (∀ T ∈ fs, T.Ok) → (∀ p ∈ x, takesT p = takesE p) → ∃ T : Ex, T.Ok ∧ T.flat = fs.flatMap Ex.flat ++ x
  | [], dst, fs, d, h, hl, hok, _ => by
    rw [depthGo] at h
    injection h with h
    subst h
    obtain ⟨T, rfl⟩ := List.length_eq_one_iff.1 (show fs.length = 1 from hl)
    exact ⟨T, hok T (by simp), by simp⟩
  | p :: r, dst, fs, d, h, hl, hok, ht => by
    rw [depthGo] at h
    split at h
    · cases h
    · rename_i hn
      have hp := ht p (by simp)
      have hle := takesE_le p
      obtain ⟨m, hm⟩ : ∃ m, fs.length = m + takesE p := ⟨fs.length - takesE p, by omega⟩
      have hdrop : (fs.drop m).length = takesE p := by rw [List.length_drop]; omega
      have hfs : fs.flatMap Ex.flat = (fs.take m).flatMap Ex.flat ++ (fs.drop m).flatMap Ex.flat := by rw [← List.flatMap_append, List.take_append_drop]
      have hokd : ∀ T ∈ fs.drop m, T.Ok := fun T hT => hok T (List.mem_of_mem_drop hT)
      have hnew : ∃ T : Ex, T.Ok ∧ T.flat = (fs.drop m).flatMap Ex.flat ++ [p] := by
        generalize fs.drop m = l at hdrop hokd
        match l, hdrop with
        | [], h0 => exact ⟨.leaf p, by rw [Ex.Ok, hp]; simpa using h0.symm, rfl⟩
        | [a], h1 => exact ⟨.un p a, ⟨by rw [hp]; simpa using h1.symm, hokd a (by simp)⟩, by simp [Ex.flat]⟩
        | [a, b], h2 => exact ⟨.bin p a b, ⟨by rw [hp]; simpa using h2.symm, hokd a (by simp), hokd b (by simp)⟩, by simp [Ex.flat]⟩
        | _ :: _ :: _ :: _, h3 => simp at h3; omega
      obtain ⟨T, hT1, hT2⟩ := hnew
      obtain ⟨T', h1, h2⟩ := tree_of r (depthStep p dst) (fs.take m ++ [T]) d h
        (by rw [depthStep_len, List.length_append, List.length_take]; simp; omega)
        (fun U hU => by
          rcases List.mem_append.1 hU with hU | hU
          · exact hok U (List.mem_of_mem_take hU)
          · rw [List.mem_singleton.1 hU]; exact hT1)
        (fun q hq => ht q (by simp [hq]))
      refine ⟨T', h1, ?_⟩
      rw [h2, List.flatMap_append, hfs]
      simp [hT2]
end Go.Proofs.YtbnelgniekcjdaaGreatDoor

/- How deep a tree is; what may be is a tree (package expr). -/
namespace Go.Proofs.YtbnelgniekcjdaaGreatDoor
open Go.RowKit Cap
theorem takesT_E {p : Prt} (h : mayP p = true) : takesT p = takesE p := by
  have h16 : p.k = 5 → p.n ≤ 16 := by
    intro h5
    unfold mayP at h
    rw [if_neg (by omega), if_neg (by omega), if_neg (by omega), if_pos h5] at h
    simp only [Bool.and_eq_true, decide_eq_true_eq] at h
    exact h.1.2
  unfold takesT takesE
  repeat' split
  all_goals omega
end Go.Proofs.YtbnelgniekcjdaaGreatDoor
namespace Cap
open Go Go.RowKit

def depX : Ex → Int
  | .leaf _ => 1
  | .un _ a => 1 + depX a
  | .bin _ a b => 1 + max (depX a) (depX b)
theorem depX_pos : ∀ T : Ex, 1 ≤ depX T
  | .leaf _ => Int.le_refl _
  | .un _ a => by have := depX_pos a; rw [depX]; omega
  | .bin _ a b => by have := depX_pos a; rw [depX]; omega
theorem depthStep_at {p : Prt} {st l : List Int} (h : l.length = takesE p) : depthStep p (st ++ l) = st ++ [1 + if takesE p = 0 then 0 else maxL l] := by
  unfold depthStep
  have hm : (st ++ l).length - takesE p = st.length := by rw [List.length_append]; omega
  rw [hm, List.drop_left, List.take_left]
theorem depthGo_flat : ∀ (T : Ex) (r : List Prt) (st : List Int), T.Ok → (∀ p ∈ T.flat, takesT p = takesE p) → depthGo (T.flat ++ r) st = depthGo r (st ++ [depX T])
  | .leaf p, r, st, hT, he => by
    have h0 : takesE p = 0 := by rw [← he p (by simp [Ex.flat])]; exact hT
    have h := depthStep_at (p := p) (st := st) (l := []) (by rw [h0]; rfl)
    rw [List.append_nil, if_pos h0] at h
    show depthGo (p :: r) st = _
    rw [depthGo, if_neg (by omega), h]
    rfl
  | .un p a, r, st, hT, he => by
    obtain ⟨h1, h2⟩ := hT
    have h0 : takesE p = 1 := by rw [← he p (by simp [Ex.flat])]; exact h1
    rw [Ex.flat, List.append_assoc, depthGo_flat a _ _ h2 (fun q hq => he q (by simp [Ex.flat, hq]))]
    have h := depthStep_at (p := p) (st := st) (l := [depX a]) (by rw [h0]; rfl)
    rw [if_neg (by omega)] at h
    show depthGo (p :: r) _ = _
    rw [depthGo, if_neg (by rw [h0]; simp), h]
    rfl
  | .bin p a b, r, st, hT, he => by
    obtain ⟨h1, h2, h3⟩ := hT
    have h0 : takesE p = 2 := by rw [← he p (by simp [Ex.flat])]; exact h1
    rw [Ex.flat, List.append_assoc, List.append_assoc, depthGo_flat a _ _ h2 (fun q hq => he q (by simp [Ex.flat, hq])), depthGo_flat b _ _ h3 (fun q hq => he q (by simp [Ex.flat, hq]))]
    have h := depthStep_at (p := p) (st := st) (l := [depX a, depX b]) (by rw [h0]; rfl)
    rw [if_neg (by omega)] at h
    have e : st ++ [depX a] ++ [depX b] = st ++ [depX a, depX b] := by simp
    show depthGo (p :: r) _ = _
    rw [e, depthGo, if_neg (by rw [h0]; simp), h]
    rfl
theorem depthL_tree {T : Ex} (hT : T.Ok) (he : ∀ p ∈ T.flat, takesT p = takesE p) : depthL T.flat = depX T := by
  have h := depthGo_flat T [] [] hT he
  rw [List.append_nil] at h
  rw [depthL, h]
  rfl
/-- A tree may be: its parts may, it is neither too long nor too deep. -/
theorem checkX_tree {T : Ex} (hT : T.Ok) : checkX T.flat = 0 ↔ T.flat.length ≤ 500 ∧ depX T ≤ 24 ∧ ∀ p ∈ T.flat, mayP p = true := by
  constructor
  · intro h
    obtain ⟨h1, _, h3⟩ := Go.Proofs.YtbnelgniekcjdaaGreatDoor.checkX_ok h
    have hd := depthL_tree hT (fun p hp => Go.Proofs.YtbnelgniekcjdaaGreatDoor.takesT_E (h3 p hp))
    refine ⟨h1, ?_, h3⟩
    rw [checkX, if_neg (by omega)] at h
    rw [← hd]
    by_cases hc : depthL T.flat = 0 ∨ 24 < depthL T.flat ∨ T.flat.any (fun p => !mayP p) = true
    · rw [if_pos hc] at h
      omega
    · omega
  · rintro ⟨h1, h2, h3⟩
    have hd := depthL_tree hT (fun p hp => Go.Proofs.YtbnelgniekcjdaaGreatDoor.takesT_E (h3 p hp))
    have hp := depX_pos T
    rw [checkX, if_neg (by omega), if_neg]
    rw [hd]
    rintro (h | h | h)
    · omega
    · omega
    · rw [List.any_eq_true] at h
      obtain ⟨p, hp1, hp2⟩ := h
      rw [h3 p hp1] at hp2
      cases hp2
/-- The tree of parts, one behind the other. -/
def treeTop (p : Prt) : List Ex → Ex
  | [a] => .un p a
  | [a, b] => .bin p a b
  | _ => .leaf p
def treeStep (p : Prt) (st : List Ex) : List Ex := st.take (st.length - takesT p) ++ [treeTop p (st.drop (st.length - takesT p))]
def treeGo : List Prt → List Ex → List Ex
  | [], st => st
  | p :: r, st => treeGo r (treeStep p st)
def treeL (x : List Prt) : Ex := (treeGo x []).headD (.leaf (numP 0 0))
theorem treeStep_at {p : Prt} {st l : List Ex} (h : l.length = takesT p) : treeStep p (st ++ l) = st ++ [treeTop p l] := by
  unfold treeStep
  have hm : (st ++ l).length - takesT p = st.length := by rw [List.length_append]; omega
  rw [hm, List.drop_left, List.take_left]
theorem treeGo_flat : ∀ (T : Ex) (r : List Prt) (st : List Ex), T.Ok → treeGo (T.flat ++ r) st = treeGo r (st ++ [T])
  | .leaf p, r, st, hT => by
    have h := treeStep_at (p := p) (st := st) (l := []) (by rw [hT]; rfl)
    rw [List.append_nil] at h
    show treeGo r (treeStep p st) = _
    rw [h]
    rfl
  | .un p a, r, st, hT => by
    obtain ⟨h1, h2⟩ := hT
    rw [Ex.flat, List.append_assoc, treeGo_flat a _ _ h2]
    show treeGo r (treeStep p _) = _
    rw [treeStep_at (l := [a]) (by rw [h1]; rfl)]
    rfl
  | .bin p a b, r, st, hT => by
    obtain ⟨h1, h2, h3⟩ := hT
    rw [Ex.flat, List.append_assoc, List.append_assoc, treeGo_flat a _ _ h2, treeGo_flat b _ _ h3]
    have e : st ++ [a] ++ [b] = st ++ [a, b] := by simp
    show treeGo r (treeStep p _) = _
    rw [e, treeStep_at (l := [a, b]) (by rw [h1]; rfl)]
    rfl
theorem treeL_flat {T : Ex} (h : T.Ok) : treeL T.flat = T := by
  have h' := treeGo_flat T [] [] h
  rw [List.append_nil] at h'
  unfold treeL
  rw [h']
  rfl
/-- What may be is a tree. -/
theorem tree_in {x : List Prt} (h : checkX x = 0) : (treeL x).Ok ∧ (treeL x).flat = x := by
  obtain ⟨h1, h2, h3⟩ := Go.Proofs.YtbnelgniekcjdaaGreatDoor.checkX_ok h
  have hd : ∃ d, depthGo x [] = some [d] := by
    have hn : depthL x ≠ 0 := by
      intro h0
      rw [checkX, if_neg (by omega), if_pos (.inl h0)] at h
      omega
    unfold depthL at hn
    split at hn
    · rename_i d hd
      exact ⟨d, hd⟩
    · exact absurd rfl hn
  obtain ⟨d, hd⟩ := hd
  obtain ⟨T, hT1, hT2⟩ := Go.Proofs.YtbnelgniekcjdaaGreatDoor.tree_of x [] [] d hd rfl (fun T hT => by simp at hT) (fun p hp => Go.Proofs.YtbnelgniekcjdaaGreatDoor.takesT_E (h3 p hp))
  rw [List.flatMap_nil, List.nil_append] at hT2
  rw [← hT2, treeL_flat hT1]
  exact ⟨hT1, rfl⟩
end Cap
