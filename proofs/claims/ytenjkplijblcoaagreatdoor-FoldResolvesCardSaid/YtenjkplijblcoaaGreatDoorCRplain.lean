/- The document's answer for types of expressions (package capstanref09): plain functions, and that they are the program's. No program in sight. -/
import Derived.Test.YtenjkplijblcoaaGreatDoorCTyp
import Derived.Test.YtenjkplijblcoaaGreatDoorCRfour
set_option linter.unusedSimpArgs false
set_option linter.unusedVariables false
namespace Cap
open Go Go.RowKit
set_option maxRecDepth 100000

/-- What an expression is, by the document: its type (0: none yet), and its numbers of no type. -/
structure Rv where
  t : Int
  nums : List Int
def fitR (l : List Int) (t : Int) : Bool := l.all (fun n => fits t n)
def none2R (op : Int) (a b : Rv) : Rv × Int :=
  if hasR op 3 2 = false then (⟨0, []⟩, 40) else if op < 9 then (⟨0, a.nums ++ b.nums⟩, 0)
  else if fitR (a.nums ++ b.nums) 3 = false then (⟨0, []⟩, 1) else (⟨1, []⟩, 0)
def twoRv (op : Int) (a b : Rv) : Rv × Int :=
  if a.t = 0 ∧ b.t = 0 then none2R op a b
  else if ((a.t ≠ 0 ∧ b.t ≠ 0) ∧ a.t ≠ b.t) ∨ ((a.t = 0 ∨ b.t = 0) ∧ whole (max a.t b.t) = false) ∨ hasR op (max a.t b.t) 2 = false then (⟨0, []⟩, 40)
  else if (a.t = 0 ∧ fitR a.nums (max a.t b.t) = false) ∨ (b.t = 0 ∧ fitR b.nums (max a.t b.t) = false) then (⟨0, []⟩, 1)
  else (⟨(result op (max a.t b.t)).1, []⟩, 0)
def oneRv (op : Int) (a : Rv) : Rv × Int := if hasR op (if a.t = 0 then 3 else a.t) 1 = false then (⟨0, []⟩, 40) else (a, 0)
def countsR (a : Rv) (time : Bool) : Int := if a.t = 0 then (if fitR a.nums 3 = false then 1 else 0) else if whole a.t = true ∨ (time = true ∧ a.t = 4) then 0 else 40
def namedR (vars : List Vr) (p : Prt) (a : Rv) : Rv × Int :=
  match findV vars p.s with
  | none => (⟨0, []⟩, 90)
  | some v => if p.k = 2 then (if 0 < v.len ∨ 100 < v.ty then (⟨0, []⟩, 91) else (⟨v.ty, []⟩, 0))
    else if p.k = 3 then (if v.len = 0 then (⟨0, []⟩, 91) else (⟨v.ty, []⟩, countsR a false))
    else match findF (fieldsOf (v.ty - 100)) p.f with
      | some f => (⟨f.ty, []⟩, 0)
      | none => (⟨0, []⟩, 91)
def partR (vars : List Vr) (p : Prt) (top : List Rv) : Rv × Int :=
  if p.k = 1 then (if p.t = 0 then (⟨0, [p.n]⟩, 0) else (⟨p.t, []⟩, 0))
  else if p.k = 6 then (⟨p.t, []⟩, countsR (top.getD 0 ⟨0, []⟩) true)
  else if p.k = 5 then (if top.length = 1 then oneRv p.n (top.getD 0 ⟨0, []⟩) else twoRv p.n (top.getD 0 ⟨0, []⟩) (top.getD 1 ⟨0, []⟩))
  else if p.k = 3 then namedR vars p (top.getD 0 ⟨0, []⟩)
  else namedR vars p ⟨0, []⟩
def rGo (vars : List Vr) : List Prt → List Rv → Except Int (List Rv)
  | [], st => .ok st
  | p :: r, st => if (partR vars p (st.drop (st.length - takesE p))).2 ≠ 0 then .error (partR vars p (st.drop (st.length - takesE p))).2
    else rGo vars r (st.take (st.length - takesE p) ++ [(partR vars p (st.drop (st.length - takesE p))).1])
/-- capstanref09.reckon. -/
def rReck (vars : List Vr) (x : List Prt) : Rv × Int :=
  if wrongV vars ≠ 0 then (⟨0, []⟩, wrongV vars) else if checkX x ≠ 0 then (⟨0, []⟩, checkX x)
  else match rGo vars x [] with
    | .error e => (⟨0, []⟩, e)
    | .ok st => if (st.getD 0 ⟨0, []⟩).t = 0 ∧ fitR (st.getD 0 ⟨0, []⟩).nums 3 = false then (⟨0, []⟩, 1) else (st.getD 0 ⟨0, []⟩, 0)
/-- capstanref09.Fits. -/
def rFits (vars : List Vr) (x : List Prt) (t : Int) : Int :=
  if (rReck vars x).2 ≠ 0 then (rReck vars x).2
  else if (rReck vars x).1.t = t ∧ t ≠ 0 then 0
  else if (rReck vars x).1.t ≠ 0 ∨ whole t = false then 40
  else if fitR (rReck vars x).1.nums t = false then 1 else 0

/-! ### The program's and the document's are one -/
structure ValR (v : Va) (r : Rv) : Prop where
  t : v.t = r.t
  pos : 0 ≤ v.t
  plain : v.t ≠ 0 → v = plainV v.t
  le : v.lo ≤ v.hi
  fit : v.t = 0 → ∀ t, vaFits v t = fitR r.nums t
inductive ValsR : List Va → List Rv → Prop
  | nil : ValsR [] []
  | cons {a : Va} {b : Rv} {l : List Va} {l' : List Rv} : ValR a b → ValsR l l' → ValsR (a :: l) (b :: l')
theorem ValsR.length_eq : ∀ {l : List Va} {l' : List Rv}, ValsR l l' → l.length = l'.length
  | _, _, .nil => rfl
  | _, _, .cons _ h => by rw [List.length_cons, List.length_cons, h.length_eq]
theorem ValsR.drop : ∀ {l : List Va} {l' : List Rv} (n : Nat), ValsR l l' → ValsR (l.drop n) (l'.drop n)
  | _, _, 0, h => h
  | _, _, _ + 1, .nil => .nil
  | _, _, n + 1, .cons _ h => h.drop n
theorem ValsR.take : ∀ {l : List Va} {l' : List Rv} (n : Nat), ValsR l l' → ValsR (l.take n) (l'.take n)
  | _, _, 0, h => .nil
  | _, _, _ + 1, .nil => .nil
  | _, _, n + 1, .cons h k => .cons h (k.take n)
theorem ValsR.snoc {a : Va} {b : Rv} (h : ValR a b) : ∀ {l : List Va} {l' : List Rv}, ValsR l l' → ValsR (l ++ [a]) (l' ++ [b])
  | _, _, .nil => .cons h .nil
  | _, _, .cons k r => .cons k (r.snoc h)
theorem valR_plain {t : Int} (h : 1 ≤ t) (l : List Int) : ValR (plainV t) ⟨t, l⟩ := ⟨rfl, (by show 0 ≤ t; omega), fun _ => rfl, Int.le_refl _, fun h0 => by have : t = 0 := h0; omega⟩
theorem res_of {op t : Int} (h : hasR op t 2 = true) : result op t = (if truthOf op then 1 else t, 0) := by
  have ho : opHas op t = true := by rw [opHas_has, h, Bool.or_true]
  unfold result
  rw [ho]
  simp only [Bool.true_eq_false, if_false]
  split <;> rfl
theorem has_op {op t : Int} (h : hasR op t 2 = true) : op ≤ 14 := by
  unfold hasR at h
  by_cases hk : known t = false
  · rw [if_pos hk] at h
    cases h
  rw [if_neg hk, if_neg (by decide)] at h
  by_cases h1 : op = 1 ∨ op = 2 ∨ op = 11 ∨ op = 12 ∨ op = 13 ∨ op = 14
  · omega
  rw [if_neg h1] at h
  by_cases h2 : op = 3 ∨ op = 4 ∨ op = 5
  · omega
  rw [if_neg h2] at h
  by_cases h3 : op = 6 ∨ op = 7 ∨ op = 8
  · omega
  rw [if_neg h3] at h
  simp only [Bool.or_eq_true, beq_iff_eq] at h
  omega
theorem has_two (op t : Int) : ((result op t).2 ≠ 0 ∨ (two op t 1 1).2 ≠ 0) ↔ hasR op t 2 = false := by
  have h2 := two_has op t
  cases hh : hasR op t 2 with
  | true =>
    rw [hh] at h2
    rw [res_of hh]
    simp only [beq_iff_eq] at h2
    simp [h2]
  | false =>
    rw [hh] at h2
    simp only [beq_eq_false_iff_ne] at h2
    exact ⟨fun _ => rfl, fun _ => .inr h2⟩
theorem fitR_app (a b : List Int) (t : Int) : fitR (a ++ b) t = (fitR a t && fitR b t) := List.all_append
theorem vaFits_join {a b : Va} (ha : a.lo ≤ a.hi) (hb : b.lo ≤ b.hi) (t : Int) : vaFits ⟨0, min a.lo b.lo, max a.hi b.hi⟩ t = (vaFits a t && vaFits b t) := by
  unfold vaFits
  simp only
  rw [Bool.eq_iff_iff]
  simp only [Bool.and_eq_true]
  constructor
  · rintro ⟨h1, h2⟩
    exact ⟨⟨fits_mid h1 h2 (by omega) (by omega), fits_mid h1 h2 (by omega) (by omega)⟩, fits_mid h1 h2 (by omega) (by omega), fits_mid h1 h2 (by omega) (by omega)⟩
  · rintro ⟨⟨h1, h2⟩, h3, h4⟩
    constructor
    · by_cases h : a.lo ≤ b.lo
      · rw [Int.min_eq_left h]; exact h1
      · rw [Int.min_eq_right (by omega)]; exact h3
    · by_cases h : a.hi ≤ b.hi
      · rw [Int.max_eq_right h]; exact h4
      · rw [Int.max_eq_left (by omega)]; exact h2
theorem two_eq {op : Int} {a b : Va} {a' b' : Rv} (ha : ValR a a') (hb : ValR b b') : (twoV op a b).2 = (twoRv op a' b').2 ∧ ((twoV op a b).2 = 0 → ValR (twoV op a b).1 (twoRv op a' b').1) := by
  have pa := ha.pos
  have pb := hb.pos
  have key : ∀ (x : Va × Int) (y : Rv × Int), twoV op a b = x → twoRv op a' b' = y → (x.2 = y.2 ∧ (x.2 = 0 → ValR x.1 y.1)) → (twoV op a b).2 = (twoRv op a' b').2 ∧ ((twoV op a b).2 = 0 → ValR (twoV op a b).1 (twoRv op a' b').1) := by
    intro x y h1 h2 h
    rw [h1, h2]
    exact h
  by_cases h0 : a.t = 0 ∧ b.t = 0
  · obtain ⟨ha0, hb0⟩ := h0
    have ha0' : a'.t = 0 := by rw [← ha.t]; exact ha0
    have hb0' : b'.t = 0 := by rw [← hb.t]; exact hb0
    have hm : max a.t b.t = 0 := by omega
    by_cases hh : hasR op 3 2 = false
    · refine key (plainV 0, 40) (⟨0, []⟩, 40) ?_ ?_ ⟨rfl, fun h => absurd (show (40 : Int) = 0 from h) (by decide)⟩
      · unfold twoV
        rw [if_neg (fun h => h.1 hm), if_pos]
        rw [if_pos hm]
        exact (has_two op 3).2 hh
      · unfold twoRv none2R
        rw [if_pos ⟨ha0', hb0'⟩, if_pos hh]
    · have ht : hasR op 3 2 = true := by simpa using hh
      have hno : ¬ ((result op 3).2 ≠ 0 ∨ (two op 3 1 1).2 ≠ 0) := fun h => hh ((has_two op 3).1 h)
      by_cases h9 : op < 9
      · have htr : truthOf op = false := by unfold truthOf; simp; omega
        refine key (⟨0, min a.lo b.lo, max a.hi b.hi⟩, 0) (⟨0, a'.nums ++ b'.nums⟩, 0) ?_ ?_ ⟨rfl, fun _ => ⟨rfl, Int.le_refl _, fun h => absurd rfl h, ?_, fun _ t => ?_⟩⟩
        · unfold twoV
          rw [if_neg (fun h => h.1 hm), if_pos hm, if_neg hno, if_pos]
          refine ⟨hm, ?_⟩
          rw [res_of ht, htr]
          decide
        · unfold twoRv none2R
          rw [if_pos ⟨ha0', hb0'⟩, if_neg hh, if_pos h9]
        · show min a.lo b.lo ≤ max a.hi b.hi
          have := ha.le
          omega
        · rw [vaFits_join ha.le hb.le, fitR_app, ha.fit ha0, hb.fit hb0]
      · have htr : truthOf op = true := by have := has_op ht; unfold truthOf; simp; omega
        have e3 : ¬ (max a.t b.t = 0 ∧ (result op 3).1 ≠ 1) := by
          rw [res_of ht, htr]
          exact fun h => h.2 rfl
        by_cases hf : (fitR a'.nums 3 && fitR b'.nums 3) = false
        · refine key (plainV 0, 1) (⟨0, []⟩, 1) ?_ ?_ ⟨rfl, fun h => absurd (show (1 : Int) = 0 from h) (by decide)⟩
          · unfold twoV
            rw [if_neg (fun h => h.1 hm), if_pos hm, if_neg hno, if_neg e3, if_pos]
            rw [ha.fit ha0, hb.fit hb0]
            rw [Bool.and_eq_false_iff] at hf
            exact hf.imp (fun h => ⟨ha0, h⟩) (fun h => ⟨hb0, h⟩)
          · unfold twoRv none2R
            rw [if_pos ⟨ha0', hb0'⟩, if_neg hh, if_neg h9, if_pos (by rw [fitR_app]; exact hf)]
        · refine key (plainV 1, 0) (⟨1, []⟩, 0) ?_ ?_ ⟨rfl, fun _ => valR_plain (by decide) _⟩
          · unfold twoV
            rw [if_neg (fun h => h.1 hm), if_pos hm, if_neg hno, if_neg e3, if_neg, res_of ht, htr]
            · rfl
            · rw [ha.fit ha0, hb.fit hb0]
              rw [Bool.and_eq_false_iff] at hf
              rintro (h | h)
              · exact hf (.inl h.2)
              · exact hf (.inr h.2)
          · unfold twoRv none2R
            rw [if_pos ⟨ha0', hb0'⟩, if_neg hh, if_neg h9, if_neg (by rw [fitR_app]; exact hf)]
  · have hm : max a.t b.t ≠ 0 := by omega
    have h0' : ¬ (a'.t = 0 ∧ b'.t = 0) := by rw [← ha.t, ← hb.t]; exact h0
    by_cases h1 : max a.t b.t ≠ 0 ∧ a.t ≠ b.t ∧ ((a.t ≠ 0 ∧ b.t ≠ 0) ∨ whole (max a.t b.t) = false)
    · refine key (plainV 0, 40) (⟨0, []⟩, 40) ?_ ?_ ⟨rfl, fun h => absurd (show (40 : Int) = 0 from h) (by decide)⟩
      · unfold twoV
        rw [if_pos h1]
      · unfold twoRv
        rw [if_neg h0', if_pos]
        rw [← ha.t, ← hb.t]
        rcases h1.2.2 with h | h
        · exact .inl ⟨h, h1.2.1⟩
        · by_cases hz : a.t = 0 ∨ b.t = 0
          · exact .inr (.inl ⟨hz, h⟩)
          · exact .inl ⟨by omega, h1.2.1⟩
    · by_cases hh : hasR op (max a.t b.t) 2 = false
      · refine key (plainV 0, 40) (⟨0, []⟩, 40) ?_ ?_ ⟨rfl, fun h => absurd (show (40 : Int) = 0 from h) (by decide)⟩
        · unfold twoV
          rw [if_neg h1, if_neg hm, if_pos ((has_two _ _).2 hh)]
        · unfold twoRv
          rw [if_neg h0', if_pos]
          rw [← ha.t, ← hb.t]
          exact .inr (.inr hh)
      · have ht : hasR op (max a.t b.t) 2 = true := by simpa using hh
        have hno : ¬ ((result op (max a.t b.t)).2 ≠ 0 ∨ (two op (max a.t b.t) 1 1).2 ≠ 0) := fun h => hh ((has_two _ _).1 h)
        have h1' : ¬ (((a'.t ≠ 0 ∧ b'.t ≠ 0) ∧ a'.t ≠ b'.t) ∨ ((a'.t = 0 ∨ b'.t = 0) ∧ whole (max a'.t b'.t) = false) ∨ hasR op (max a'.t b'.t) 2 = false) := by
          rw [← ha.t, ← hb.t]
          rintro (h | h | h)
          · exact h1 ⟨hm, h.2, .inl h.1⟩
          · refine h1 ⟨hm, ?_, .inr h.2⟩
            intro e
            have := h.1
            omega
          · exact hh h
        by_cases hf : (a.t = 0 ∧ vaFits a (max a.t b.t) = false) ∨ (b.t = 0 ∧ vaFits b (max a.t b.t) = false)
        · refine key (plainV 0, 1) (⟨0, []⟩, 1) ?_ ?_ ⟨rfl, fun h => absurd (show (1 : Int) = 0 from h) (by decide)⟩
          · unfold twoV
            rw [if_neg h1, if_neg hm, if_neg hno, if_neg (fun h => hm h.1), if_pos hf]
          · unfold twoRv
            rw [if_neg h0', if_neg h1', if_pos]
            rw [← ha.t, ← hb.t]
            exact hf.imp (fun h => ⟨h.1, by rw [← ha.fit h.1]; exact h.2⟩) (fun h => ⟨h.1, by rw [← hb.fit h.1]; exact h.2⟩)
        · refine key (plainV (result op (max a.t b.t)).1, 0) (⟨(result op (max a'.t b'.t)).1, []⟩, 0) ?_ ?_ ⟨rfl, fun _ => ?_⟩
          · unfold twoV
            rw [if_neg h1, if_neg hm, if_neg hno, if_neg (fun h => hm h.1), if_neg hf]
          · unfold twoRv
            rw [if_neg h0', if_neg h1', if_neg]
            rw [← ha.t, ← hb.t]
            exact fun hf' => hf (hf'.imp (fun h => ⟨h.1, by rw [ha.fit h.1]; exact h.2⟩) (fun h => ⟨h.1, by rw [hb.fit h.1]; exact h.2⟩))
          · rw [← ha.t, ← hb.t]
            refine valR_plain ?_ _
            rw [res_of ht]
            show 1 ≤ if truthOf op = true then 1 else max a.t b.t
            split
            · exact Int.le_refl _
            · omega
theorem one_eq {op : Int} {a : Va} {a' : Rv} (ha : ValR a a') : (oneV op a).2 = (oneRv op a').2 ∧ ((oneV op a).2 = 0 → ValR (oneV op a).1 (oneRv op a').1) := by
  unfold oneV oneRv
  rw [← ha.t]
  have h1 := one_has op (if a.t = 0 then 3 else a.t)
  by_cases hh : hasR op (if a.t = 0 then 3 else a.t) 1 = false
  · rw [hh] at h1
    rw [if_pos hh, if_pos (by simpa using h1)]
    exact ⟨rfl, fun h => absurd (show (40 : Int) = 0 from h) (by decide)⟩
  · rw [if_neg hh, if_neg (by rw [show hasR op (if a.t = 0 then 3 else a.t) 1 = true by simpa using hh] at h1; simpa using h1)]
    exact ⟨rfl, fun _ => ha⟩
theorem counts_eq {a : Va} {a' : Rv} (ha : ValR a a') (b : Bool) : countsV a b = countsR a' b := by
  unfold countsV countsR
  rw [← ha.t]
  by_cases h0 : a.t = 0
  · rw [if_pos h0, ha.fit h0]
    by_cases hf : fitR a'.nums 3 = false
    · rw [if_pos ⟨h0, hf⟩, if_pos hf]
    · rw [if_neg (fun h => hf h.2), if_neg hf, if_pos (.inl h0)]
  · rw [if_neg h0, if_neg (fun h => h0 h.1)]
    by_cases hw : whole a.t = true ∨ (b = true ∧ a.t = 4)
    · rw [if_pos hw, if_pos (.inr hw)]
    · rw [if_neg hw, if_neg (fun h => h.elim h0 hw)]
theorem may_more {v : Vr} (hm : mayV v = true) : 0 ≤ v.len ∧ v.ty ≠ 100 := by
  unfold mayV at hm
  by_cases c1 : isName v.name = false ∨ v.dir < 0 ∨ 2 < v.dir
  · rw [if_pos c1] at hm
    cases hm
  rw [if_neg c1] at hm
  by_cases c2 : 100 < v.ty
  · rw [if_pos c2] at hm
    simp only [Bool.and_eq_true, decide_eq_true_eq, beq_iff_eq] at hm
    omega
  rw [if_neg c2] at hm
  by_cases c3 : fits v.ty 0 = false
  · rw [if_pos c3] at hm
    cases hm
  have c4 : fits v.ty 0 = true := by simpa using c3
  rw [fits_iff] at c4
  rw [if_neg c3] at hm
  by_cases c5 : v.len ≠ 0
  · rw [if_pos c5] at hm
    simp only [Bool.and_eq_true, decide_eq_true_eq, beq_iff_eq] at hm
    omega
  · omega
theorem may_110 {v : Vr} (hm : mayV v = true) : v.ty ≤ 110 := by
  unfold mayV at hm
  by_cases c1 : isName v.name = false ∨ v.dir < 0 ∨ 2 < v.dir
  · rw [if_pos c1] at hm
    cases hm
  rw [if_neg c1] at hm
  by_cases c2 : 100 < v.ty
  · rw [if_pos c2] at hm
    simp only [Bool.and_eq_true, decide_eq_true_eq, beq_iff_eq] at hm
    omega
  · omega
theorem fieldsOf_no {k : Int} (h : k < 1) : fieldsOf k = [] := by
  unfold fieldsOf
  repeat' (first | rfl | (rw [if_neg (by omega)]))
theorem named_eq {vars : List Vr} (hw : wrongV vars = 0) {p : Prt} (hk : p.k = 2 ∨ p.k = 3 ∨ p.k = 4) {a : Va} {a' : Rv} (ha : p.k = 3 → ValR a a') :
    (namedV vars p a).2 = (namedR vars p a').2 ∧ ((namedV vars p a).2 = 0 → ValR (namedV vars p a).1 (namedR vars p a').1) := by
  have key : ∀ (x : Va × Int) (y : Rv × Int), namedV vars p a = x → namedR vars p a' = y → (x.2 = y.2 ∧ (x.2 = 0 → ValR x.1 y.1)) → (namedV vars p a).2 = (namedR vars p a').2 ∧ ((namedV vars p a).2 = 0 → ValR (namedV vars p a).1 (namedR vars p a').1) := by
    intro x y h1 h2 h
    rw [h1, h2]
    exact h
  cases hf : findV vars p.s with
  | none =>
    refine key (plainV 0, 90) (⟨0, []⟩, 90) ?_ ?_ ⟨rfl, fun h => absurd (show (90 : Int) = 0 from h) (by decide)⟩
    · unfold namedV; rw [hf]
    · unfold namedR; rw [hf]
  | some v =>
    have hm := wrong_may hw v (findV_in hf)
    obtain ⟨m1, m2⟩ := may_ty hm
    obtain ⟨m3, m4⟩ := may_more hm
    rcases hk with h | h | h
    · by_cases h1 : 0 < v.len ∨ 100 < v.ty
      · refine key (plainV 0, 91) (⟨0, []⟩, 91) ?_ ?_ ⟨rfl, fun h => absurd (show (91 : Int) = 0 from h) (by decide)⟩
        · unfold namedV; rw [hf]; simp only
          rw [if_neg (by omega), if_neg (by omega), if_neg (by omega)]
        · unfold namedR; rw [hf]; simp only
          rw [if_pos h, if_pos h1]
      · refine key (plainV v.ty, 0) (⟨v.ty, []⟩, 0) ?_ ?_ ⟨rfl, fun _ => valR_plain (m1 (by omega)) _⟩
        · unfold namedV; rw [hf]; simp only
          rw [if_pos ⟨h, by omega, by omega⟩]
        · unfold namedR; rw [hf]; simp only
          rw [if_pos h, if_neg h1]
    · by_cases h1 : v.len = 0
      · refine key (plainV 0, 91) (⟨0, []⟩, 91) ?_ ?_ ⟨rfl, fun h => absurd (show (91 : Int) = 0 from h) (by decide)⟩
        · unfold namedV; rw [hf]; simp only
          rw [if_neg (by omega), if_neg (by omega), if_neg (by omega)]
        · unfold namedR; rw [hf]; simp only
          rw [if_neg (by omega), if_pos h, if_pos h1]
      · refine key (plainV v.ty, countsV a false) (⟨v.ty, []⟩, countsR a' false) ?_ ?_ ⟨counts_eq (ha h) false, fun _ => valR_plain (m1 ?_) _⟩
        · unfold namedV; rw [hf]; simp only
          rw [if_neg (by omega), if_pos ⟨h, by omega⟩]
        · unfold namedR; rw [hf]; simp only
          rw [if_neg (by omega), if_pos h, if_neg h1]
        · by_cases h100 : 100 < v.ty
          · exact absurd (m2 h100) h1
          · omega
    · by_cases h1 : 100 < v.ty
      · cases hg : findF (fieldsOf (v.ty - 100)) p.f with
        | none =>
          refine key (plainV 0, 91) (⟨0, []⟩, 91) ?_ ?_ ⟨rfl, fun h => absurd (show (91 : Int) = 0 from h) (by decide)⟩
          · unfold namedV; rw [hf]; simp only
            rw [if_neg (by omega), if_neg (by omega), if_pos ⟨h, h1⟩, hg]
          · unfold namedR; rw [hf]; simp only
            rw [if_neg (by omega), if_neg (by omega), hg]
        | some f =>
          refine key (plainV f.ty, 0) (⟨f.ty, []⟩, 0) ?_ ?_ ⟨rfl, fun _ => valR_plain (fields_ty _ f (findF_in hg)) _⟩
          · unfold namedV; rw [hf]; simp only
            rw [if_neg (by omega), if_neg (by omega), if_pos ⟨h, h1⟩, hg]
          · unfold namedR; rw [hf]; simp only
            rw [if_neg (by omega), if_neg (by omega), hg]
      · refine key (plainV 0, 91) (⟨0, []⟩, 91) ?_ ?_ ⟨rfl, fun h => absurd (show (91 : Int) = 0 from h) (by decide)⟩
        · unfold namedV; rw [hf]; simp only
          rw [if_neg (by omega), if_neg (by omega), if_neg (by omega)]
        · unfold namedR; rw [hf]; simp only
          rw [if_neg (by omega), if_neg (by omega), fieldsOf_no (by omega)]
          rfl
theorem may_kind {p : Prt} (h : mayP p = true) : p.k = 1 ∨ p.k = 2 ∨ p.k = 3 ∨ p.k = 4 ∨ p.k = 5 ∨ p.k = 6 := by
  unfold mayP at h
  by_cases h1 : p.k = 1
  · exact .inl h1
  rw [if_neg h1] at h
  by_cases h2 : p.k = 2 ∨ p.k = 3
  · omega
  rw [if_neg h2] at h
  by_cases h4 : p.k = 4
  · omega
  rw [if_neg h4] at h
  by_cases h5 : p.k = 5
  · omega
  rw [if_neg h5] at h
  simp only [Bool.and_eq_true, beq_iff_eq] at h
  omega
theorem part_eq {vars : List Vr} (hw : wrongV vars = 0) {p : Prt} (hm : mayP p = true) {l : List Va} {l' : List Rv} (hl : l.length = takesT p) (hr : ValsR l l') :
    (partV vars p l).2 = (partR vars p l').2 ∧ ((partV vars p l).2 = 0 → ValR (partV vars p l).1 (partR vars p l').1) := by
  have hn := hr.length_eq
  unfold partV partR
  by_cases h1 : p.k = 1
  · by_cases h0 : p.t = 0
    · rw [if_pos ⟨h1, h0⟩, if_pos h1, if_pos h0]
      refine ⟨rfl, fun _ => ⟨rfl, Int.le_refl _, fun h => absurd rfl h, Int.le_refl _, fun _ t => ?_⟩⟩
      show (fits t p.n && fits t p.n) = [p.n].all (fun n => fits t n)
      simp
    · rw [if_neg (fun h => h0 h.2), if_pos h1, if_pos h1, if_neg h0]
      have := may_num hm h1
      exact ⟨rfl, fun _ => valR_plain (by omega) _⟩
  rw [if_neg (fun h => h1 h.1), if_neg h1, if_neg h1]
  by_cases h6 : p.k = 6
  · rw [if_pos h6, if_pos h6]
    have ht : takesT p = 1 := by rw [takesT, if_pos (.inr (.inl h6))]
    rw [ht] at hl
    match l, l', hl, hr with
    | [a], [a'], _, .cons ha _ => exact ⟨counts_eq ha true, fun _ => valR_plain (by have := may_to hm h6; omega) _⟩
  rw [if_neg h6, if_neg h6]
  by_cases h5 : p.k = 5
  · by_cases hl1 : l.length = 1
    · rw [if_pos ⟨h5, hl1⟩, if_pos h5, if_pos (by rw [← hn]; exact hl1)]
      match l, l', hl1, hr with
      | [a], [a'], _, .cons ha _ => exact one_eq ha
    · rw [if_neg (fun h => hl1 h.2), if_pos h5, if_pos h5, if_neg (by rw [← hn]; exact hl1)]
      have hl2 : l.length = 2 := by
        rw [hl] at hl1 ⊢
        unfold takesT at hl1 ⊢
        split at hl1
        · exact absurd rfl hl1
        · rename_i hn
          rw [if_neg hn, if_pos h5]
      match l, l', hl2, hr with
      | [a, b], [a', b'], _, .cons ha (.cons hb _) => exact two_eq ha hb
  rw [if_neg (fun h => h5 h.1), if_neg h5, if_neg h5]
  have hk := may_kind hm
  by_cases h3 : p.k = 3
  · rw [if_pos h3]
    have ht : takesT p = 1 := by rw [takesT, if_pos (.inl h3)]
    rw [ht] at hl
    match l, l', hl, hr with
    | [a], [a'], _, .cons ha _ => exact named_eq hw (by omega) (fun _ => ha)
  · rw [if_neg h3]
    exact named_eq hw (by omega) (fun h => absurd h h3)
theorem mayT_E {p : Prt} (h : mayP p = true) : takesT p = takesE p := by
  have h16 : p.k = 5 → p.n ≤ 16 := by
    intro h5
    unfold mayP at h
    rw [if_neg (by omega), if_neg (by omega), if_neg (by omega), if_pos h5] at h
    simp only [Bool.and_eq_true, decide_eq_true_eq] at h
    exact h.1.2
  unfold takesT takesE
  repeat' split
  all_goals omega
theorem depthStep_len' (p : Prt) (st : List Int) (h : takesE p ≤ st.length) : (depthStep p st).length = st.length - takesE p + 1 := by
  unfold depthStep
  rw [List.length_append, List.length_take, Nat.min_eq_left (by omega)]
  rfl
theorem rGo_eq {vars : List Vr} (hw : wrongV vars = 0) : ∀ (x : List Prt) (st : List Va) (st' : List Rv) (dst : List Int) (d : List Int), (∀ p ∈ x, mayP p = true) → ValsR st st' → dst.length = st.length → depthGo x dst = some d →
    (∃ e, e ≠ 0 ∧ reckGo vars x st = .error e ∧ rGo vars x st' = .error e) ∨ ∃ s s', reckGo vars x st = .ok s ∧ rGo vars x st' = .ok s' ∧ ValsR s s'
  | [], st, st', _, _, _, h, _, _ => .inr ⟨st, st', rfl, rfl, h⟩
  | p :: r, st, st', dst, d, hm, h, hl, hd => by
    have hmp := hm p (by simp)
    have hT := mayT_E hmp
    have hn := h.length_eq
    rw [depthGo] at hd
    by_cases hlt : dst.length < takesE p
    · rw [if_pos hlt] at hd
      cases hd
    rw [if_neg hlt] at hd
    have hk := part_eq hw hmp (l := st.drop (st.length - takesT p)) (l' := st'.drop (st.length - takesT p)) (by rw [List.length_drop]; omega) (h.drop _)
    rw [reckGo, rGo, ← hn, ← hT]
    by_cases he : (partV vars p (st.drop (st.length - takesT p))).2 ≠ 0
    · refine .inl ⟨_, he, by rw [if_pos he], ?_⟩
      rw [hk.1] at he
      rw [if_pos he, hk.1]
    · have he0 : (partV vars p (st.drop (st.length - takesT p))).2 = 0 := by omega
      have hv := hk.2 he0
      have he' : ¬ (partR vars p (st'.drop (st.length - takesT p))).2 ≠ 0 := by rw [← hk.1]; exact he
      rw [if_neg he, if_neg he']
      refine rGo_eq hw r _ _ (depthStep p dst) d (fun q hq => hm q (by simp [hq])) ((h.take _).snoc hv) ?_ hd
      rw [depthStep_len' p dst (by omega), List.length_append, List.length_take, List.length_singleton, Nat.min_eq_left (by omega)]
      omega
theorem check_in {x : List Prt} (h : checkX x = 0) : x.length ≤ 500 ∧ (∃ d, depthGo x [] = some [d]) ∧ ∀ p ∈ x, mayP p = true := by
  unfold checkX at h
  by_cases h500 : 500 < x.length
  · rw [if_pos h500] at h
    omega
  · rw [if_neg h500] at h
    by_cases hc : depthL x = 0 ∨ 24 < depthL x ∨ x.any (fun p => !mayP p) = true
    · rw [if_pos hc] at h
      omega
    · refine ⟨by omega, ?_, fun p hp => ?_⟩
      · have hd : depthL x ≠ 0 := fun h' => hc (.inl h')
        unfold depthL at hd
        split at hd
        · rename_i d hq
          exact ⟨d, hq⟩
        · exact absurd rfl hd
      · cases hm : mayP p with
        | true => rfl
        | false =>
          exfalso
          apply hc
          right
          right
          rw [List.any_eq_true]
          exact ⟨p, hp, by rw [hm]; rfl⟩
/-- Both reckon the same; where they do, the values are alike. -/
theorem reck_eq (vars : List Vr) (x : List Prt) : (reckV vars x).2 = (rReck vars x).2 ∧ (reckV vars x).1.t = (rReck vars x).1.t ∧ ((reckV vars x).2 = 0 → ValR (reckV vars x).1 (rReck vars x).1) := by
  unfold reckV rReck
  by_cases hw : wrongV vars ≠ 0
  · rw [if_pos hw, if_pos hw]
    exact ⟨rfl, rfl, fun h => absurd h hw⟩
  rw [if_neg hw, if_neg hw]
  by_cases hc : checkX x ≠ 0
  · rw [if_pos hc, if_pos hc]
    exact ⟨rfl, rfl, fun h => absurd h hc⟩
  rw [if_neg hc, if_neg hc]
  have hw0 : wrongV vars = 0 := by omega
  have hc0 : checkX x = 0 := by omega
  obtain ⟨_, ⟨d, hd⟩, hm⟩ := check_in hc0
  rcases rGo_eq hw0 x [] [] [] [d] hm .nil rfl hd with ⟨e, he, h1, h2⟩ | ⟨s, s', h1, h2, hv⟩
  · rw [h1, h2]
    exact ⟨rfl, rfl, fun h => absurd h he⟩
  · rw [h1, h2]
    simp only
    have hl : s.length ≠ 0 := by
      intro h0
      have hk : ∀ (x : List Prt) (st : List Va) (s : List Va), reckGo vars x st = .ok s → x ≠ [] ∨ st ≠ [] → s ≠ [] := by
        intro x
        induction x with
        | nil =>
          intro st s h hne
          rw [reckGo] at h
          injection h with h
          subst h
          exact hne.elim (fun h => absurd rfl h) id
        | cons p r ih =>
          intro st s h _
          rw [reckGo] at h
          split at h
          · cases h
          · exact ih _ _ h (.inr (by simp))
      refine hk x [] s h1 (.inl ?_) (List.eq_nil_of_length_eq_zero h0)
      rintro rfl
      rw [depthGo] at hd
      injection hd with hd
      cases hd
    match s, s', hv, hl with
    | v :: _, v' :: _, .cons h _, _ =>
      simp only [List.getD_cons_zero]
      by_cases h0 : v.t ≠ 0 ∨ vaFits v 3 = true
      · rw [if_pos h0, if_neg]
        · exact ⟨rfl, h.t, fun _ => h⟩
        · rintro ⟨h1, h2⟩
          rw [← h.t] at h1
          rcases h0 with h0 | h0
          · exact h0 h1
          · rw [h.fit h1, h2] at h0
            cases h0
      · have hv0 : v.t = 0 := by
          by_cases hz : v.t = 0
          · exact hz
          · exact absurd (.inl hz) h0
        rw [if_neg h0, if_pos]
        · exact ⟨rfl, rfl, fun h => absurd (show (1 : Int) = 0 from h) (by decide)⟩
        · refine ⟨by rw [← h.t]; exact hv0, ?_⟩
          rw [← h.fit hv0]
          cases hq : vaFits v 3 with
          | false => rfl
          | true => exact absurd (.inr hq) h0
theorem fits_eq (vars : List Vr) (x : List Prt) (t : Int) : fitsX vars x t = rFits vars x t := by
  obtain ⟨h1, h2, h3⟩ := reck_eq vars x
  unfold fitsX rFits
  rw [← h1, ← h2]
  by_cases he : (reckV vars x).2 ≠ 0
  · rw [if_pos he, if_pos he]
  rw [if_neg he, if_neg he]
  have h := h3 (by omega)
  by_cases hb : (reckV vars x).1.t = t ∧ t ≠ 0
  · rw [if_pos hb]
    have hp := h.plain (by rw [hb.1]; exact hb.2)
    rw [if_pos ⟨hb.1, by rw [hp]; rfl, by rw [hp]; rfl, hb.2⟩]
  · rw [if_neg hb, if_neg (fun h => hb ⟨h.1, h.2.2.2⟩)]
    by_cases h4 : (reckV vars x).1.t ≠ 0 ∨ whole t = false
    · rw [if_pos h4, if_pos h4]
    · rw [if_neg h4, if_neg h4, h.fit (by by_cases hz : (reckV vars x).1.t = 0; exact hz; exact absurd (.inl hz) h4)]
end Cap

/- The document's answer for folding (package capstanref10): where an expression begins. No program in sight. -/
namespace Cap
open Go Go.RowKit
set_option maxRecDepth 100000

/-- capstanref10.from: where the expression that ends ahead of a place begins. -/
def fromL (x : List Prt) : Nat → Int → Nat
  | 0, _ => 0
  | i + 1, n => match x[i]? with
    | none => 0
    | some p => if n + (takesE p : Int) - 1 = 0 then i else fromL x i (n + (takesE p : Int) - 1)
theorem fromL_at {x : List Prt} {i : Nat} {p : Prt} (h : x[i]? = some p) (n : Int) : fromL x (i + 1) n = if n + (takesE p : Int) - 1 = 0 then i else fromL x i (n + (takesE p : Int) - 1) := by
  rw [fromL, h]
theorem at_pre (pre suf : List Prt) (p : Prt) : (pre ++ p :: suf)[pre.length]? = some p := by simp
theorem from_tree : ∀ (T : Ex) (pre suf : List Prt) (n : Int), T.Ok → (∀ p ∈ T.flat, takesT p = takesE p) → 1 ≤ n →
    fromL (pre ++ T.flat ++ suf) (pre.length + T.flat.length) n = if n = 1 then pre.length else fromL (pre ++ T.flat ++ suf) pre.length (n - 1)
  | .leaf p, pre, suf, n, hT, he, hn => by
    have h0 : takesE p = 0 := by rw [← he p (by simp [Ex.flat])]; exact hT
    have hx : (pre ++ (Ex.leaf p).flat ++ suf)[pre.length]? = some p := by simp [Ex.flat]
    rw [show pre.length + (Ex.leaf p).flat.length = pre.length + 1 from rfl, fromL_at hx, h0]
    by_cases h1 : n = 1
    · rw [if_pos h1, if_pos (by simp; omega)]
    · rw [if_neg h1, if_neg (by simp; omega)]
      congr 1
      simp
  | .un p a, pre, suf, n, hT, he, hn => by
    obtain ⟨h1, h2⟩ := hT
    have h0 : takesE p = 1 := by rw [← he p (by simp [Ex.flat])]; exact h1
    have hx : (pre ++ (Ex.un p a).flat ++ suf)[pre.length + a.flat.length]? = some p := by
      rw [Ex.flat, show pre ++ (a.flat ++ [p]) ++ suf = (pre ++ a.flat) ++ p :: suf by simp, ← List.length_append]
      exact at_pre _ _ _
    have ih := from_tree a pre (p :: suf) n h2 (fun q hq => he q (by simp [Ex.flat, hq])) hn
    rw [show pre ++ a.flat ++ p :: suf = pre ++ (Ex.un p a).flat ++ suf by simp [Ex.flat]] at ih
    rw [show pre.length + (Ex.un p a).flat.length = pre.length + a.flat.length + 1 by simp [Ex.flat]; omega, fromL_at hx, h0, if_neg (by simp; omega), ← ih]
    congr 1
    simp
  | .bin p a b, pre, suf, n, hT, he, hn => by
    obtain ⟨h1, h2, h3⟩ := hT
    have h0 : takesE p = 2 := by rw [← he p (by simp [Ex.flat])]; exact h1
    have hx : (pre ++ (Ex.bin p a b).flat ++ suf)[pre.length + a.flat.length + b.flat.length]? = some p := by
      rw [Ex.flat, show pre ++ (a.flat ++ b.flat ++ [p]) ++ suf = (pre ++ a.flat ++ b.flat) ++ p :: suf by simp, ← List.length_append, ← List.length_append]
      exact at_pre _ _ _
    have iha := from_tree a pre (b.flat ++ p :: suf) n h2 (fun q hq => he q (by simp [Ex.flat, hq])) hn
    have ihb := from_tree b (pre ++ a.flat) (p :: suf) (n + 1) h3 (fun q hq => he q (by simp [Ex.flat, hq])) (by omega)
    rw [show pre ++ a.flat ++ (b.flat ++ p :: suf) = pre ++ (Ex.bin p a b).flat ++ suf by simp [Ex.flat]] at iha
    rw [show pre ++ a.flat ++ b.flat ++ p :: suf = pre ++ (Ex.bin p a b).flat ++ suf by simp [Ex.flat], List.length_append, if_neg (by omega), show n + 1 - 1 = n by omega, iha] at ihb
    rw [show pre.length + (Ex.bin p a b).flat.length = pre.length + a.flat.length + b.flat.length + 1 by simp [Ex.flat]; omega, fromL_at hx, h0, if_neg (by simp; omega), ← ihb]
    congr 1
    simp
    omega
/-- Where the second operand begins. -/
theorem from_bin {a b : Ex} {p : Prt} (hb : b.Ok) (he : ∀ q ∈ b.flat, takesT q = takesE q) : fromL (a.flat ++ b.flat ++ [p]) (a.flat.length + b.flat.length) 1 = a.flat.length := by
  rw [from_tree b a.flat [p] 1 hb he (by decide), if_pos rfl]
end Cap
