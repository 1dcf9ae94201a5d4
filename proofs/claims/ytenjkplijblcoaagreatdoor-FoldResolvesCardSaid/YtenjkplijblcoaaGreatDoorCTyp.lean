/- What is resolved for a type that it fits has that type, and numbers that fit: any variables. -/
import Derived.Test.YtenjkplijblcoaaGreatDoorCTree5
import Derived.Test.YtenjkplijblcoaaGreatDoorCNames
set_option linter.unusedSimpArgs false
set_option linter.unusedVariables false
namespace Cap
open Go Go.RowKit
set_option maxRecDepth 100000

/-- Each number fits its type. -/
def FitN : Ex → Prop
  | .leaf p => p.k = 1 → fits p.t p.n = true
  | .un _ a => FitN a
  | .bin _ a b => FitN a ∧ FitN b
theorem fields_ty (k : Int) : ∀ f ∈ fieldsOf k, 1 ≤ f.ty := by
  unfold fieldsOf
  repeat' split
  all_goals (intro f hf; simp only [List.mem_cons, List.not_mem_nil, or_false] at hf)
  all_goals (first | (rcases hf with rfl | rfl | rfl | rfl | rfl | rfl <;> simp) | (rcases hf with rfl | rfl | rfl <;> simp))
theorem findV_in {vars : List Vr} {s : ByteArray} {x : Vr} (h : findV vars s = some x) : x ∈ vars := by
  induction vars with
  | nil => cases h
  | cons v r ih =>
    rw [findV] at h
    split at h
    · injection h with h
      subst h
      exact List.mem_cons_self
    · exact List.mem_cons_of_mem _ (ih h)
theorem findF_in {vars : List Fld} {s : ByteArray} {x : Fld} (h : findF vars s = some x) : x ∈ vars := by
  induction vars with
  | nil => cases h
  | cons v r ih =>
    rw [findF] at h
    split at h
    · injection h with h
      subst h
      exact List.mem_cons_self
    · exact List.mem_cons_of_mem _ (ih h)
theorem wrong_may {vars : List Vr} (h : wrongV vars = 0) : ∀ v ∈ vars, mayV v = true := by
  unfold wrongV at h
  by_cases h6 : 64 < vars.length
  · rw [if_pos h6] at h
    omega
  rw [if_neg h6] at h
  by_cases ha : vars.any (fun v => !mayV v) = true
  · rw [if_pos ha] at h
    omega
  intro v hv
  cases hm : mayV v with
  | true => rfl
  | false => exact absurd (List.any_eq_true.2 ⟨v, hv, by rw [hm]; rfl⟩) ha
theorem may_ty {v : Vr} (hm : mayV v = true) : (v.ty ≤ 100 → 1 ≤ v.ty) ∧ (100 < v.ty → v.len = 0) := by
  unfold mayV at hm
  by_cases c1 : isName v.name = false ∨ v.dir < 0 ∨ 2 < v.dir
  · rw [if_pos c1] at hm
    cases hm
  rw [if_neg c1] at hm
  by_cases c2 : 100 < v.ty
  · rw [if_pos c2] at hm
    simp only [Bool.and_eq_true, decide_eq_true_eq, beq_iff_eq] at hm
    exact ⟨fun h => by omega, fun _ => hm.2⟩
  rw [if_neg c2] at hm
  by_cases c3 : fits v.ty 0 = false
  · rw [if_pos c3] at hm
    cases hm
  have c4 : fits v.ty 0 = true := by simpa using c3
  rw [fits_iff] at c4
  exact ⟨fun _ => by omega, fun h => absurd h c2⟩
theorem named_ty {vars : List Vr} (hw : wrongV vars = 0) {p : Prt} {top v : Va} (h : namedV vars p top = (v, 0)) : 1 ≤ v.t ∧ v = plainV v.t ∧ (p.k = 3 → countsV top false = 0) ∧ (∀ top', (p.k = 3 → countsV top' false = 0) → namedV vars p top' = (v, 0)) := by
  unfold namedV at *
  cases hf : findV vars p.s with
  | none =>
    rw [hf] at h
    simp only at h
    injection h with _ h
    omega
  | some x =>
    rw [hf] at h
    simp only at h
    obtain ⟨m1, m2⟩ := may_ty (wrong_may hw x (findV_in hf))
    by_cases c1 : p.k = 2 ∧ x.len = 0 ∧ x.ty < 100
    · rw [if_pos c1] at h
      injection h with h _
      subst h
      refine ⟨m1 (by omega), rfl, fun h3 => by omega, fun top' _ => ?_⟩
      simp only
      rw [if_pos c1]
    rw [if_neg c1] at h
    by_cases c2 : p.k = 3 ∧ 0 < x.len
    · rw [if_pos c2] at h
      injection h with h hc
      subst h
      refine ⟨m1 ?_, rfl, fun _ => hc, fun top' ht => ?_⟩
      · by_cases h100 : 100 < x.ty
        · have := m2 h100
          omega
        · omega
      · simp only
        rw [if_neg c1, if_pos c2, ht c2.1]
    rw [if_neg c2] at h
    by_cases c3 : p.k = 4 ∧ 100 < x.ty
    · rw [if_pos c3] at h
      cases hg : findF (fieldsOf (x.ty - 100)) p.f with
      | none =>
        rw [hg] at h
        simp only at h
        injection h with _ h
        omega
      | some f =>
        rw [hg] at h
        simp only at h
        injection h with h _
        subst h
        refine ⟨fields_ty _ f (findF_in hg), rfl, fun h3 => by omega, fun top' _ => ?_⟩
        simp only
        rw [if_neg c1, if_neg c2, if_pos c3, hg]
    · rw [if_neg c3] at h
      injection h with _ h
      omega
theorem counts_fit {v : Va} {b : Bool} (h : countsV v b = 0) : v.t = 0 → vaFits v 3 = true := by
  intro h0
  unfold countsV at h
  by_cases hh : vaFits v 3 = true
  · exact hh
  · rw [if_pos ⟨h0, by simpa using hh⟩] at h
    omega
theorem counts_typed {v : Va} {b : Bool} {q : Int} (h : countsV v b = 0) (h0 : v.t = 0 → q = 2 ∨ q = 3) : countsV (plainV (if v.t = 0 then q else v.t)) b = 0 := by
  unfold countsV at *
  by_cases hv : v.t = 0
  · rw [if_pos hv]
    have hq := h0 hv
    rw [if_neg (fun h' => by have h1 : q = 0 := h'.1; omega)]
    rw [if_pos]
    right; left
    show whole q = true
    unfold whole
    rcases hq with rfl | rfl <;> rfl
  · rw [if_neg hv]
    rw [if_neg (fun h' => hv h'.1)] at h
    rw [if_neg (fun h' => hv h'.1)]
    by_cases hc : v.t = 0 ∨ whole v.t = true ∨ (b = true ∧ v.t = 4)
    · exact if_pos hc
    · rw [if_neg hc] at h
      omega
theorem op16 {n : Int} (h : isOp n = true) : n = 1 ∨ n = 2 ∨ n = 3 ∨ n = 4 ∨ n = 5 ∨ n = 6 ∨ n = 7 ∨ n = 8 ∨ n = 9 ∨ n = 10 ∨ n = 11 ∨ n = 12 ∨ n = 13 ∨ n = 14 ∨ n = 15 ∨ n = 16 := by
  have hr : 1 ≤ n ∧ n ≤ 16 := by simpa [isOp] using h
  omega
theorem does_op {n t : Int} {o : Bool} {a b : Int} (h : (does n t o a b).2 = 0) : isOp n = true := by
  unfold does at h
  by_cases h1 : isOp n = false
  · rw [if_pos h1] at h
    simp at h
  · simpa using h1
theorem one32 {n : Int} (h : (one n 3 1).2 = 0) : (one n 2 1).2 = 0 := by
  rcases op16 (does_op h) with rfl | rfl | rfl | rfl | rfl | rfl | rfl | rfl | rfl | rfl | rfl | rfl | rfl | rfl | rfl | rfl <;> first | rfl | (exfalso; revert h; decide) | decide
theorem two32 {n : Int} (h : (two n 3 1 1).2 = 0) : (two n 2 1 1).2 = 0 := by
  rcases op16 (does_op h) with rfl | rfl | rfl | rfl | rfl | rfl | rfl | rfl | rfl | rfl | rfl | rfl | rfl | rfl | rfl | rfl <;> first | rfl | (exfalso; revert h; decide) | decide
/-- What two values put together have. -/
theorem two_all {op : Int} {a b v : Va} (h : twoV op a b = (v, 0)) : (result op (if max a.t b.t = 0 then 3 else max a.t b.t)).2 = 0 ∧ (two op (if max a.t b.t = 0 then 3 else max a.t b.t) 1 1).2 = 0 ∧ (v.t ≠ 0 → v = plainV v.t) ∧ (a.t ≠ 0 → b.t ≠ 0 → a.t = b.t) := by
  unfold twoV at h
  by_cases hc1 : max a.t b.t ≠ 0 ∧ a.t ≠ b.t ∧ ((a.t ≠ 0 ∧ b.t ≠ 0) ∨ whole (max a.t b.t) = false)
  · rw [if_pos hc1] at h
    injection h with _ h
    omega
  rw [if_neg hc1] at h
  have hab : a.t ≠ 0 → b.t ≠ 0 → a.t = b.t := fun h1 h2 => by
    by_cases he : a.t = b.t
    · exact he
    · exact absurd ⟨by omega, he, .inl ⟨h1, h2⟩⟩ hc1
  obtain ⟨m, hm⟩ : ∃ m, max a.t b.t = m := ⟨_, rfl⟩
  rw [hm] at h ⊢
  obtain ⟨o, ho⟩ : ∃ o, (if m = 0 then (3 : Int) else m) = o := ⟨_, rfl⟩
  rw [ho] at h ⊢
  by_cases hc2 : (result op o).2 ≠ 0 ∨ (two op o 1 1).2 ≠ 0
  · rw [if_pos hc2] at h
    injection h with _ h
    omega
  rw [if_neg hc2] at h
  refine ⟨?_, ?_, ?_, hab⟩
  · by_cases h0 : (result op o).2 = 0
    · exact h0
    · exact absurd (Or.inl h0) hc2
  · by_cases h0 : (two op o 1 1).2 = 0
    · exact h0
    · exact absurd (Or.inr h0) hc2
  · intro hv
    by_cases hc3 : m = 0 ∧ (result op o).1 ≠ 1
    · rw [if_pos hc3] at h
      injection h with h _
      subst h
      exact absurd rfl hv
    · rw [if_neg hc3] at h
      split at h
      · injection h with _ h
        omega
      · injection h with h _
        subst h
        rfl
theorem two_plainV {op q : Int} (hq : q ≠ 0) (h1 : (result op q).2 = 0) (h2 : (two op q 1 1).2 = 0) : twoV op (plainV q) (plainV q) = (plainV (result op q).1, 0) := by
  unfold twoV
  have hm : max (plainV q).t (plainV q).t = q := by show max q q = q; omega
  rw [hm, if_neg (fun h => h.2.1 rfl), if_neg hq, if_neg (by simp [h1, h2]), if_neg (fun h => hq h.1), if_neg]
  rintro (⟨h, -⟩ | ⟨h, -⟩) <;> exact hq h
theorem one_ok {op : Int} {a v : Va} (h : oneV op a = (v, 0)) : v = a ∧ (one op (if a.t = 0 then 3 else a.t) 1).2 = 0 := by
  unfold oneV at h
  by_cases hc : (one op (if a.t = 0 then 3 else a.t) 1).2 ≠ 0
  · rw [if_pos hc] at h
    injection h with _ h
    omega
  · rw [if_neg hc] at h
    injection h with h _
    exact ⟨h.symm, by simpa using hc⟩
theorem step_of {vars : List Vr} {p : Prt} {l : List Va} {v : Va} (h : partV vars p l = (v, 0)) : stepX vars p l = .ok v := by
  unfold stepX
  rw [h]
  rfl
theorem fits_top {vars : List Vr} (hw : wrongV vars = 0) {T : Ex} {t : Int} {v : Va} (hT : T.Ok) (hc : checkX T.flat = 0) (hv : valX vars T = .ok v) (h : fitsX vars T.flat t = 0) : (v.t = 0 → (t = 2 ∨ t = 3) ∧ vaFits v t = true) ∧ (v.t ≠ 0 → v.t = t) := by
  have hr : reckV vars T.flat = if v.t ≠ 0 ∨ vaFits v 3 = true then (v, 0) else (plainV 0, 1) := by
    rw [reckV, if_neg (by simp [hw]), if_neg (by simp [hc]), reckGo_tree T hT, hv]
    rfl
  unfold fitsX at h
  by_cases h1 : v.t ≠ 0 ∨ vaFits v 3 = true
  · rw [if_pos h1] at hr
    rw [hr, if_neg (by simp)] at h
    by_cases h2 : v.t = t ∧ v.lo = 0 ∧ v.hi = 0 ∧ t ≠ 0
    · exact ⟨fun h0 => absurd (h2.1.symm.trans h0) h2.2.2.2, fun _ => h2.1⟩
    · rw [if_neg h2] at h
      by_cases h3 : v.t ≠ 0 ∨ whole t = false
      · rw [if_pos h3] at h
        omega
      · rw [if_neg h3] at h
        by_cases h4 : vaFits v t = false
        · rw [if_pos h4] at h
          omega
        · refine ⟨fun _ => ⟨?_, by simpa using h4⟩, fun h0 => absurd (.inl h0) h3⟩
          have hwt : whole t = true := by
            cases hh : whole t with
            | true => rfl
            | false => exact absurd (.inr hh) h3
          simpa [whole] using hwt
  · rw [if_neg h1] at hr
    rw [hr, if_pos (by decide)] at h
    exact absurd h (by decide)
/-- What is resolved: its type, its numbers. -/
def TypR (vars : List Vr) (T : Ex) (t : Int) (v : Va) : Prop :=
  0 ≤ v.t ∧ v.lo ≤ v.hi ∧ (v.t ≠ 0 → v = plainV v.t) ∧ ((v.t = 0 → (t = 2 ∨ t = 3) ∧ vaFits v t = true) → FitN (askX vars t T) ∧ valX vars (askX vars t T) = .ok (plainV (if v.t = 0 then t else v.t)))
theorem typ_leaf {vars : List Vr} (hw : wrongV vars = 0) (p : Prt) (t : Int) (v : Va) (ho : takesT p = 0) (hm : mayP p = true) (hv : valX vars (.leaf p) = .ok v) : TypR vars (.leaf p) t v := by
  have hv0 := hv
  rw [valX] at hv
  have h := step_ok hv
  unfold TypR
  rw [askX]
  by_cases hk : p.k = 1
  · rw [Go.Proofs.YtenjkplijblcoaaGreatDoor.partV_1 _ _ _ hk] at h
    have h0 := may_num hm hk
    by_cases ht : p.t = 0
    · rw [if_pos ht] at h
      injection h with h _
      subst h
      rw [if_pos ⟨hk, ht⟩]
      refine ⟨Int.le_refl _, Int.le_refl _, fun h => absurd rfl h, fun h => ?_⟩
      obtain ⟨h1, h2⟩ := h rfl
      have h3 : fits t p.n = true := by
        unfold vaFits at h2
        rw [Bool.and_eq_true] at h2
        exact h2.1
      refine ⟨fun _ => h3, ?_⟩
      rw [if_pos rfl, valX]
      refine step_of ?_
      rw [Go.Proofs.YtenjkplijblcoaaGreatDoor.partV_1 _ _ _ (show (⟨p.k, p.n, t, p.s, p.f⟩ : Prt).k = 1 from hk), if_neg (by show t ≠ 0; omega)]
    · rw [if_neg ht] at h
      injection h with h _
      subst h
      rw [if_neg (fun h' => ht h'.2)]
      refine ⟨h0, Int.le_refl _, fun _ => rfl, fun _ => ⟨fun _ => ?_, ?_⟩⟩
      · unfold mayP at hm
        rw [if_pos hk] at hm
        simp only [Bool.and_eq_true, Bool.or_eq_true] at hm
        rcases hm.1 with h | h
        · exact h
        · have := h.1.1
          simp at this
          exact absurd this ht
      · rw [if_neg (show ¬ (plainV p.t).t = 0 from ht)]
        exact hv0
  · have h5 : ¬ p.k = 5 := fun h5 => by
      unfold takesT at ho
      by_cases h15 : 15 ≤ p.n
      · rw [if_pos (.inr (.inr ⟨h5, h15⟩))] at ho
        omega
      · rw [if_neg (by rintro (h | h | h) <;> omega), if_pos h5] at ho
        omega
    have h6 : ¬ p.k = 6 := fun h6 => by unfold takesT at ho; rw [if_pos (.inr (.inl h6))] at ho; omega
    rw [Go.Proofs.YtenjkplijblcoaaGreatDoor.partV_n _ _ _ hk h6 h5] at h
    obtain ⟨n1, n2, -, -⟩ := named_ty hw h
    rw [if_neg (fun h' => hk h'.1), if_neg (by omega)]
    exact ⟨by omega, by rw [n2]; exact Int.le_refl _, fun _ => n2, fun _ => ⟨fun h' => absurd h' hk, by rw [hv0, ← n2]⟩⟩
theorem typ {vars : List Vr} (hw : wrongV vars = 0) : ∀ (T : Ex) (t : Int) (v : Va), T.Ok → (∀ p ∈ T.flat, mayP p = true) → T.flat.length ≤ 500 → depX T ≤ 24 → valX vars T = .ok v → TypR vars T t v
  | .leaf p, t, v, ho, hm, _, _, hv => typ_leaf hw p t v ho (hm p (by simp [Ex.flat])) hv
  | .un p a, t, v, ho, hm, hl, hd, hv => by
    obtain ⟨h1, h2⟩ := ho
    have hpm := hm p (by simp [Ex.flat])
    have hd' : depX a ≤ 24 := by rw [depX] at hd; omega
    have hl' : a.flat.length ≤ 500 := by rw [Ex.flat, List.length_append] at hl; omega
    have hm' : ∀ q ∈ a.flat, mayP q = true := fun q hq => hm q (by simp [Ex.flat, hq])
    rw [valX] at hv
    cases hva : valX vars a with
    | error e => rw [hva] at hv; cases hv
    | ok va =>
      rw [hva] at hv
      have h := step_ok hv
      unfold TypR
      rw [askX]
      by_cases h3 : p.k = 3
      · rw [Go.Proofs.YtenjkplijblcoaaGreatDoor.partV_n _ _ _ (by omega) (by omega) (by omega)] at h
        obtain ⟨n1, n2, n3, n4⟩ := named_ty hw h
        have hcv := n3 h3
        simp only [List.getD_cons_zero] at hcv
        rw [if_pos h3]
        obtain ⟨q, hq⟩ : ∃ q, (if fitsX vars a.flat 2 = 0 then (2 : Int) else 3) = q := ⟨_, rfl⟩
        rw [hq]
        have hq23 : va.t = 0 → (q = 2 ∨ q = 3) ∧ vaFits va q = true := fun h0 => by
          by_cases hf : fitsX vars a.flat 2 = 0
          · rw [if_pos hf] at hq
            subst hq
            exact (fits_top hw h2 ((checkX_tree h2).2 ⟨hl', hd', hm'⟩) hva hf).1 h0
          · rw [if_neg hf] at hq
            subst hq
            exact ⟨.inr rfl, counts_fit hcv h0⟩
        obtain ⟨-, -, -, i4⟩ := typ hw a q va h2 hm' hl' hd' hva
        obtain ⟨i5, i6⟩ := i4 hq23
        refine ⟨by omega, by rw [n2]; exact Int.le_refl _, fun _ => n2, fun _ => ⟨i5, ?_⟩⟩
        rw [valX, i6]
        simp only
        rw [if_neg (show ¬ v.t = 0 by omega), ← n2]
        refine step_of ?_
        rw [Go.Proofs.YtenjkplijblcoaaGreatDoor.partV_n _ _ _ (by omega) (by omega) (by omega)]
        refine n4 _ (fun _ => ?_)
        simp only [List.getD_cons_zero]
        exact counts_typed hcv (fun h0 => (hq23 h0).1)
      · rw [if_neg h3]
        rcases takes1 h1 h3 with h6 | h5
        · rw [Go.Proofs.YtenjkplijblcoaaGreatDoor.partV_6 _ _ _ h6] at h
          injection h with h hcv
          subst h
          simp only [List.getD_cons_zero] at hcv
          have h6t := may_to hpm h6
          have hq23 : va.t = 0 → ((3 : Int) = 2 ∨ (3 : Int) = 3) ∧ vaFits va 3 = true := fun h0 => ⟨.inr rfl, counts_fit hcv h0⟩
          rw [if_pos h6]
          obtain ⟨-, -, -, i4⟩ := typ hw a 3 va h2 hm' hl' hd' hva
          obtain ⟨i5, i6⟩ := i4 hq23
          refine ⟨by show 0 ≤ p.t; omega, Int.le_refl _, fun _ => rfl, fun _ => ⟨i5, ?_⟩⟩
          rw [valX, i6]
          simp only
          rw [if_neg (show ¬ (plainV p.t).t = 0 by show ¬ p.t = 0; omega)]
          refine step_of ?_
          rw [Go.Proofs.YtenjkplijblcoaaGreatDoor.partV_6 _ _ _ h6]
          simp only [List.getD_cons_zero]
          rw [counts_typed hcv (fun h0 => (hq23 h0).1)]
          rfl
        · rw [Go.Proofs.YtenjkplijblcoaaGreatDoor.partV_51 _ _ _ h5 rfl] at h
          simp only [List.getD_cons_zero] at h
          obtain ⟨hvv, ho⟩ := one_ok h
          subst hvv
          rw [if_neg (show ¬ p.k = 6 by omega)]
          obtain ⟨i1, i2, i3, i4⟩ := typ hw a t v h2 hm' hl' hd' hva
          refine ⟨i1, i2, i3, fun hf => ?_⟩
          obtain ⟨i5, i6⟩ := i4 hf
          refine ⟨i5, ?_⟩
          rw [valX, i6]
          simp only
          refine step_of ?_
          rw [Go.Proofs.YtenjkplijblcoaaGreatDoor.partV_51 _ _ _ h5 rfl]
          simp only [List.getD_cons_zero]
          unfold oneV
          have hne : ¬ (plainV (if v.t = 0 then t else v.t)).t = 0 := by
            show ¬ (if v.t = 0 then t else v.t) = 0
            by_cases h0 : v.t = 0
            · rw [if_pos h0]
              have := (hf h0).1
              omega
            · rw [if_neg h0]
              exact h0
          rw [if_neg hne, if_neg]
          rw [Decidable.not_not]
          show (one p.n (if v.t = 0 then t else v.t) 1).2 = 0
          by_cases h0 : v.t = 0
          · rw [if_pos h0] at ho ⊢
            rcases (hf h0).1 with rfl | rfl
            · exact one32 ho
            · exact ho
          · rw [if_neg h0] at ho ⊢
            exact ho
  | .bin p a b, t, v, ho, hm, hl, hd, hv => by
    obtain ⟨h1, h2, h3⟩ := ho
    have hk := takes2 h1
    have hda : depX a ≤ 24 := by rw [depX] at hd; omega
    have hdb : depX b ≤ 24 := by rw [depX] at hd; omega
    have hla : a.flat.length ≤ 500 := by rw [Ex.flat, List.length_append, List.length_append] at hl; omega
    have hlb : b.flat.length ≤ 500 := by rw [Ex.flat, List.length_append, List.length_append] at hl; omega
    have hma : ∀ q ∈ a.flat, mayP q = true := fun q hq => hm q (by simp [Ex.flat, hq])
    have hmb : ∀ q ∈ b.flat, mayP q = true := fun q hq => hm q (by simp [Ex.flat, hq])
    have hn15 : p.n < 15 := by
      unfold takesT at h1
      split at h1
      · omega
      · rename_i hh
        omega
    rw [valX] at hv
    cases hva : valX vars a with
    | error e => rw [hva] at hv; cases hv
    | ok va =>
      rw [hva] at hv
      simp only at hv
      cases hvb : valX vars b with
      | error e => rw [hvb] at hv; cases hv
      | ok vb =>
        rw [hvb] at hv
        have h := step_ok hv
        rw [Go.Proofs.YtenjkplijblcoaaGreatDoor.partV_52 _ _ _ hk (by simp)] at h
        simp only [List.getD_cons_zero, List.getD_cons_succ] at h
        have hka := kind_tree hw h2 ((checkX_tree h2).2 ⟨hla, hda, hma⟩) hva
        have hkb := kind_tree hw h3 ((checkX_tree h3).2 ⟨hlb, hdb, hmb⟩) hvb
        unfold TypR
        rw [askX, hka, hkb]
        obtain ⟨q, hq⟩ : ∃ q, (if max va.t vb.t = 0 then (if 9 ≤ p.n then (3 : Int) else t) else max va.t vb.t) = q := ⟨_, rfl⟩
        rw [hq]
        obtain ⟨ta, ra, pa, fa⟩ := typ hw a q va h2 hma hla hda hva
        obtain ⟨tb, rb, pb, fb⟩ := typ hw b q vb h3 hmb hlb hdb hvb
        obtain ⟨hr, hc⟩ := two_rng h ra rb
        obtain ⟨hrs, htw, hvp, hab⟩ := two_all h
        have hvt := two_ok h ta tb
        refine ⟨?_, hr, hvp, fun hf => ?_⟩
        · rcases hvt with ⟨_, _, h | h⟩ | ⟨hm0, hr0, hv0, _⟩
          · omega
          · omega
          · rw [hv0, result_val hr0]
            split <;> omega
        -- both get the type q
        have key : (va.t = 0 → (q = 2 ∨ q = 3) ∧ vaFits va q = true) ∧ (vb.t = 0 → (q = 2 ∨ q = 3) ∧ vaFits vb q = true) ∧ (va.t ≠ 0 → va.t = q) ∧ (vb.t ≠ 0 → vb.t = q) ∧ q ≠ 0 ∧ (result p.n q).2 = 0 ∧ (two p.n q 1 1).2 = 0 ∧ (result p.n q).1 = (if v.t = 0 then t else v.t) := by
          by_cases hm0 : max va.t vb.t = 0
          · rw [if_pos hm0] at hq hrs htw
            have hat : va.t = 0 := by omega
            have hbt : vb.t = 0 := by omega
            rcases hvt with ⟨_, _, hcase⟩ | ⟨hm1, _⟩
            · rcases hcase with ⟨hn9, hv0⟩ | ⟨h9, h14, hv1⟩
              · have h9' : ¬ 9 ≤ p.n := by omega
                rw [if_neg h9'] at hq
                subst hq
                obtain ⟨f1, f2⟩ := hf hv0
                have hrt : (result p.n t).2 = 0 := by
                  rcases f1 with rfl | rfl
                  · exact has32 hrs
                  · exact hrs
                have htt : (two p.n t 1 1).2 = 0 := by
                  rcases f1 with rfl | rfl
                  · exact two32 htw
                  · exact htw
                have hfit : vaFits va t = true ∧ vaFits vb t = true := by
                  rcases hc with ⟨h9 | h9, _, _⟩ | ⟨_, _, hv'⟩
                  · exact absurd hm0 h9
                  · exact absurd h9.1 h9'
                  · rw [hv'] at f2
                    exact ⟨vaFits_sub f2 (by show min va.lo vb.lo ≤ _; omega) ra (by show _ ≤ max va.hi vb.hi; omega), vaFits_sub f2 (by show min va.lo vb.lo ≤ _; omega) rb (by show _ ≤ max va.hi vb.hi; omega)⟩
                refine ⟨fun _ => ⟨f1, hfit.1⟩, fun _ => ⟨f1, hfit.2⟩, fun h => absurd hat h, fun h => absurd hbt h, by omega, hrt, htt, ?_⟩
                rw [result_val hrt, if_neg (fun h' => h9' ((truth_iff p.n).1 h').1), if_pos hv0]
              · rw [if_pos h9] at hq
                subst hq
                have hfit : vaFits va 3 = true ∧ vaFits vb 3 = true := by
                  rcases hc with ⟨_, ca, cb⟩ | ⟨hn, _, _⟩
                  · rw [if_pos hm0] at ca cb
                    exact ⟨ca hat, cb hbt⟩
                  · exact absurd ⟨h9, h14⟩ hn
                refine ⟨fun _ => ⟨.inr rfl, hfit.1⟩, fun _ => ⟨.inr rfl, hfit.2⟩, fun h => absurd hat h, fun h => absurd hbt h, by omega, hrs, htw, ?_⟩
                rw [result_val hrs, if_pos ((truth_iff p.n).2 ⟨h9, h14⟩), if_neg (by omega), hv1]
            · exact absurd hm0 hm1
          · rw [if_neg hm0] at hq hrs htw
            subst hq
            obtain ⟨w1, w2⟩ := two_whole h ta tb hm0
            rcases hc with ⟨_, ca, cb⟩ | ⟨_, h0, _⟩
            · rw [if_neg hm0] at ca cb
              refine ⟨fun h0 => ⟨w1 h0, ca h0⟩, fun h0 => ⟨w2 h0, cb h0⟩, fun h0 => ?_, fun h0 => ?_, hm0, hrs, htw, ?_⟩
              · by_cases hb0 : vb.t = 0
                · omega
                · have := hab h0 hb0
                  omega
              · by_cases ha0 : va.t = 0
                · omega
                · have := hab ha0 h0
                  omega
              · rcases hvt with ⟨h0, _⟩ | ⟨_, _, hv0, _⟩
                · exact absurd h0 hm0
                · have hne : v.t ≠ 0 := by
                    rw [hv0, result_val hrs]
                    split
                    · decide
                    · exact hm0
                  rw [if_neg hne, hv0]
            · exact absurd h0 hm0
        obtain ⟨k1, k2, k3, k4, k5, k6, k7, k8⟩ := key
        obtain ⟨fa1, fa2⟩ := fa k1
        obtain ⟨fb1, fb2⟩ := fb k2
        have ea : (if va.t = 0 then q else va.t) = q := by
          by_cases h0 : va.t = 0
          · rw [if_pos h0]
          · rw [if_neg h0, k3 h0]
        have eb : (if vb.t = 0 then q else vb.t) = q := by
          by_cases h0 : vb.t = 0
          · rw [if_pos h0]
          · rw [if_neg h0, k4 h0]
        rw [ea] at fa2
        rw [eb] at fb2
        refine ⟨⟨fa1, fb1⟩, ?_⟩
        rw [valX, fa2]
        simp only
        rw [fb2]
        simp only
        refine step_of ?_
        rw [Go.Proofs.YtenjkplijblcoaaGreatDoor.partV_52 _ _ _ hk (by simp)]
        simp only [List.getD_cons_zero, List.getD_cons_succ]
        rw [two_plainV k5 k6 k7, k8]
end Cap

/- What folding makes of a resolved tree: a tree of the same type and the same names, not greater, folded as it is. -/
namespace Cap
open Go Go.RowKit
set_option maxRecDepth 100000

def unT (p : Prt) : Ex → Ex
  | .leaf q => if q.k = 1 ∧ (reckP p [q]).2 = true then .leaf (reckP p [q]).1 else .un p (.leaf q)
  | a => .un p a
def binT (p : Prt) : Ex → Ex → Ex
  | .leaf q, .leaf q' => if q.k = 1 ∧ q'.k = 1 ∧ (reckP p [q, q']).2 = true then .leaf (reckP p [q, q']).1 else .bin p (.leaf q) (.leaf q')
  | a, b => .bin p a b
/-- fold.folded, from tree to tree. -/
def foldT : Ex → Ex
  | .leaf p => .leaf p
  | .un p a => unT p (foldT a)
  | .bin p a b => binT p (foldT a) (foldT b)
theorem flat_ne : ∀ T : Ex, T.flat ≠ []
  | .leaf _ => by simp [Ex.flat]
  | .un _ _ => by simp [Ex.flat]
  | .bin _ _ _ => by simp [Ex.flat]
theorem two_of {l : List Prt} {p : Prt} (h : l ≠ []) : ∃ x y r, l ++ [p] = x :: y :: r := by
  match l, h with
  | [a], _ => exact ⟨a, p, [], rfl⟩
  | a :: b :: r, _ => exact ⟨a, b, r ++ [p], rfl⟩
theorem flat_two : ∀ T : Ex, (∃ p, T = .leaf p) ∨ ∃ x y r, T.flat = x :: y :: r
  | .leaf p => .inl ⟨p, rfl⟩
  | .un p a => .inr (two_of (flat_ne a))
  | .bin p a b => .inr (two_of (by simp [flat_ne a]))
theorem unT_more {p : Prt} {a : Ex} {x y : Prt} {r : List Prt} (h : a.flat = x :: y :: r) : unT p a = .un p a := by
  cases a with
  | leaf q => simp [Ex.flat] at h
  | un _ _ => rfl
  | bin _ _ _ => rfl
theorem binT_more {p : Prt} {a b : Ex} (h : (∃ x y r, a.flat = x :: y :: r) ∨ ∃ x y r, b.flat = x :: y :: r) : binT p a b = .bin p a b := by
  cases a with
  | leaf q =>
    cases b with
    | leaf q' =>
      rcases h with ⟨x, y, r, h⟩ | ⟨x, y, r, h⟩ <;> simp [Ex.flat] at h
    | un _ _ => rfl
    | bin _ _ _ => rfl
  | un _ _ => rfl
  | bin _ _ _ => rfl
theorem foldX_T : ∀ T : Ex, foldX T = (foldT T).flat
  | .leaf p => rfl
  | .un p a => by
    rw [foldX, foldT, foldX_T a]
    rcases flat_two (foldT a) with ⟨q, hq⟩ | ⟨x, y, r, h⟩
    · rw [hq]
      show (if q.k = 1 ∧ (reckP p [q]).2 = true then [(reckP p [q]).1] else [q, p]) = (unT p (.leaf q)).flat
      rw [unT]
      split <;> rfl
    · rw [unT_more h, Ex.flat, h]
  | .bin p a b => by
    rw [foldX, foldT, foldX_T a, foldX_T b]
    rcases flat_two (foldT a) with ⟨q, hq⟩ | ⟨x, y, r, h⟩
    · rcases flat_two (foldT b) with ⟨q', hq'⟩ | ⟨x, y, r, h⟩
      · rw [hq, hq']
        show (if q.k = 1 ∧ q'.k = 1 ∧ (reckP p [q, q']).2 = true then [(reckP p [q, q']).1] else [q, q', p]) = (binT p (.leaf q) (.leaf q')).flat
        rw [binT]
        split <;> rfl
      · rw [binT_more (.inr ⟨x, y, r, h⟩), Ex.flat, h, hq]
        rfl
    · rw [binT_more (.inl ⟨x, y, r, h⟩), Ex.flat, h]
theorem fold_twice : ∀ T : Ex, foldT (foldT T) = foldT T
  | .leaf p => rfl
  | .un p a => by
    have ih := fold_twice a
    rw [foldT]
    obtain ⟨A, hA⟩ : ∃ A, foldT a = A := ⟨_, rfl⟩
    rw [hA] at ih ⊢
    cases A with
    | leaf q =>
      rw [unT]
      split
      · rfl
      · rename_i hc
        rw [foldT, foldT, unT, if_neg hc]
    | un _ _ => rw [unT, foldT, ih, unT] <;> simp
    | bin _ _ _ => rw [unT, foldT, ih, unT] <;> simp
  | .bin p a b => by
    have iha := fold_twice a
    have ihb := fold_twice b
    rw [foldT]
    obtain ⟨A, hA⟩ : ∃ A, foldT a = A := ⟨_, rfl⟩
    obtain ⟨B, hB⟩ : ∃ B, foldT b = B := ⟨_, rfl⟩
    rw [hA] at iha ⊢
    rw [hB] at ihb ⊢
    cases A with
    | leaf q =>
      cases B with
      | leaf q' =>
        rw [binT]
        split
        · rfl
        · rename_i hc
          rw [foldT, foldT, foldT, binT, if_neg hc]
      | un _ _ => rw [binT, foldT, iha, ihb, binT] <;> simp
      | bin _ _ _ => rw [binT, foldT, iha, ihb, binT] <;> simp
    | un _ _ => rw [binT, foldT, iha, ihb, binT] <;> simp
    | bin _ _ _ => rw [binT, foldT, iha, ihb, binT] <;> simp
/-- A part that is no name. -/
theorem may_noname {p : Prt} (h : mayP p = true) (hk : p.k = 1 ∨ p.k = 5 ∨ p.k = 6) : namedP p = false := by
  have hs : noS p.s = true := by
    unfold mayP at h
    by_cases h1 : p.k = 1
    · rw [if_pos h1] at h
      simp only [Bool.and_eq_true] at h
      exact h.2.1
    rw [if_neg h1, if_neg (by omega), if_neg (by omega)] at h
    by_cases h5 : p.k = 5
    · rw [if_pos h5] at h
      simp only [Bool.and_eq_true] at h
      exact h.2.1.2
    · rw [if_neg h5] at h
      simp only [Bool.and_eq_true] at h
      exact h.2.1.2
  unfold namedP
  unfold noS at hs
  rw [hs]
  rfl
theorem noS_nil : noS ⟨#[]⟩ = true := by kernel_rfl
theorem numP_may {n t : Int} (h : fits t n = true) : mayP (numP n t) = true := by
  unfold mayP numP
  rw [if_pos rfl]
  simp only
  rw [h, noS_nil]
  rfl
theorem numP_noname (n t : Int) : namedP (numP n t) = false := by
  have h := noS_nil
  unfold noS at h
  unfold namedP numP
  simp only
  rw [h]
  rfl
/-- What is of values that fit has a type. -/
theorem fit_plain {vars : List Vr} (hw : wrongV vars = 0) : ∀ (U : Ex) (v : Va), U.Ok → (∀ p ∈ U.flat, mayP p = true) → FitN U → valX vars U = .ok v → 1 ≤ v.t ∧ v = plainV v.t
  | .leaf p, v, ho, hm, hf, hv => by
    rw [valX] at hv
    have h := step_ok hv
    by_cases hk : p.k = 1
    · have hft := hf hk
      rw [fits_iff] at hft
      rw [Go.Proofs.YtenjkplijblcoaaGreatDoor.partV_1 _ _ _ hk, if_neg (by omega)] at h
      injection h with h _
      subst h
      exact ⟨by show 1 ≤ p.t; omega, rfl⟩
    · have h0 : takesT p = 0 := ho
      have h5 : ¬ p.k = 5 := fun h5 => by
        unfold takesT at h0
        by_cases h15 : 15 ≤ p.n
        · rw [if_pos (.inr (.inr ⟨h5, h15⟩))] at h0
          omega
        · rw [if_neg (by rintro (h | h | h) <;> omega), if_pos h5] at h0
          omega
      have h6 : ¬ p.k = 6 := fun h6 => by unfold takesT at h0; rw [if_pos (.inr (.inl h6))] at h0; omega
      rw [Go.Proofs.YtenjkplijblcoaaGreatDoor.partV_n _ _ _ hk h6 h5] at h
      obtain ⟨n1, n2, -, -⟩ := named_ty hw h
      exact ⟨n1, n2⟩
  | .un p a, v, ho, hm, hf, hv => by
    obtain ⟨h1, h2⟩ := ho
    have hpm := hm p (by simp [Ex.flat])
    have hm' : ∀ q ∈ a.flat, mayP q = true := fun q hq => hm q (by simp [Ex.flat, hq])
    rw [valX] at hv
    cases hva : valX vars a with
    | error e => rw [hva] at hv; cases hv
    | ok va =>
      rw [hva] at hv
      have h := step_ok hv
      by_cases h3 : p.k = 3
      · rw [Go.Proofs.YtenjkplijblcoaaGreatDoor.partV_n _ _ _ (by omega) (by omega) (by omega)] at h
        obtain ⟨n1, n2, -, -⟩ := named_ty hw h
        exact ⟨n1, n2⟩
      · rcases takes1 h1 h3 with h6 | h5
        · rw [Go.Proofs.YtenjkplijblcoaaGreatDoor.partV_6 _ _ _ h6] at h
          injection h with h _
          subst h
          have := may_to hpm h6
          exact ⟨by show 1 ≤ p.t; omega, rfl⟩
        · rw [Go.Proofs.YtenjkplijblcoaaGreatDoor.partV_51 _ _ _ h5 rfl] at h
          simp only [List.getD_cons_zero] at h
          obtain ⟨hvv, -⟩ := one_ok h
          subst hvv
          exact fit_plain hw a v h2 hm' hf hva
  | .bin p a b, v, ho, hm, hf, hv => by
    obtain ⟨h1, h2, h3⟩ := ho
    obtain ⟨fa, fb⟩ := hf
    have hk := takes2 h1
    have hma : ∀ q ∈ a.flat, mayP q = true := fun q hq => hm q (by simp [Ex.flat, hq])
    have hmb : ∀ q ∈ b.flat, mayP q = true := fun q hq => hm q (by simp [Ex.flat, hq])
    rw [valX] at hv
    cases hva : valX vars a with
    | error e => rw [hva] at hv; cases hv
    | ok va =>
      rw [hva] at hv
      simp only at hv
      cases hvb : valX vars b with
      | error e => rw [hvb] at hv; cases hv
      | ok vb =>
        rw [hvb] at hv
        have h := step_ok hv
        rw [Go.Proofs.YtenjkplijblcoaaGreatDoor.partV_52 _ _ _ hk (by simp)] at h
        simp only [List.getD_cons_zero, List.getD_cons_succ] at h
        obtain ⟨ta, pa⟩ := fit_plain hw a va h2 hma fa hva
        obtain ⟨tb, pb⟩ := fit_plain hw b vb h3 hmb fb hvb
        obtain ⟨hrs, -, hvp, hab⟩ := two_all h
        have hv1 : 1 ≤ v.t := by
          rcases two_ok h (by omega) (by omega) with ⟨h0, _⟩ | ⟨hm0, hr0, hv0, _⟩
          · omega
          · rw [hv0, result_val hr0]
            split <;> omega
        exact ⟨hv1, hvp (by omega)⟩
end Cap

/- What folding makes of a resolved tree, whole; what resolving makes of a tree. -/
namespace Cap
open Go Go.RowKit
set_option maxRecDepth 100000

structure FoldG (vars : List Vr) (U F : Ex) (v : Va) : Prop where
  ok : F.Ok
  may : ∀ p ∈ F.flat, mayP p = true
  fit : FitN F
  val : valX vars F = .ok v
  dep : depX F ≤ depX U
  len : F.flat.length ≤ U.flat.length
  names : F.flat.filter namedP = U.flat.filter namedP
theorem leaf_num {vars : List Vr} {q : Prt} {v : Va} (hk : q.k = 1) (hf : fits q.t q.n = true) (h : valX vars (.leaf q) = .ok v) : v = plainV q.t ∧ 1 ≤ q.t := by
  rw [valX] at h
  have h := step_ok h
  have hft := hf
  rw [fits_iff] at hft
  rw [Go.Proofs.YtenjkplijblcoaaGreatDoor.partV_1 _ _ _ hk, if_neg (by omega)] at h
  injection h with h _
  exact ⟨h.symm, by omega⟩
theorem num_val {vars : List Vr} {n t : Int} (h : 1 ≤ t) : valX vars (.leaf (numP n t)) = .ok (plainV t) := by
  rw [valX]
  refine step_of ?_
  rw [Go.Proofs.YtenjkplijblcoaaGreatDoor.partV_1 _ _ _ rfl, if_neg (by show ¬ t = 0; omega)]
  rfl
/-- A number in place of a tree that has no name. -/
theorem num_good {vars : List Vr} {U : Ex} {n t : Int} (hf : fits t n = true) (ht : 1 ≤ t) (hn : U.flat.filter namedP = []) : FoldG vars U (.leaf (numP n t)) (plainV t) where
  ok := by
    show takesT _ = 0
    rfl
  may := fun p hp => by
    rw [Ex.flat, List.mem_singleton] at hp
    subst hp
    exact numP_may hf
  fit := fun _ => hf
  val := num_val ht
  dep := depX_pos U
  len := by
    rcases List.length_pos_iff.2 (flat_ne U) with h
    show 1 ≤ _
    omega
  names := by
    rw [hn, Ex.flat, List.filter_cons_of_neg (by rw [numP_noname]; decide)]
    rfl
theorem fold_good {vars : List Vr} (hw : wrongV vars = 0) : ∀ (U : Ex) (v : Va), U.Ok → (∀ p ∈ U.flat, mayP p = true) → FitN U → valX vars U = .ok v → FoldG vars U (foldT U) v
  | .leaf p, v, ho, hm, hf, hv => ⟨ho, hm, hf, hv, Int.le_refl _, Nat.le_refl _, rfl⟩
  | .un p a, v, ho, hm, hf, hv => by
    obtain ⟨h1, h2⟩ := ho
    have hpm := hm p (by simp [Ex.flat])
    have hm' : ∀ q ∈ a.flat, mayP q = true := fun q hq => hm q (by simp [Ex.flat, hq])
    have hv0 := hv
    rw [valX] at hv
    cases hva : valX vars a with
    | error e => rw [hva] at hv; cases hv
    | ok va =>
      rw [hva] at hv
      simp only at hv
      have h := step_ok hv
      have ih := fold_good hw a va h2 hm' hf hva
      rw [foldT]
      obtain ⟨A, hA⟩ : ∃ A, foldT a = A := ⟨_, rfl⟩
      rw [hA] at ih ⊢
      have hkeep : FoldG vars (.un p a) (.un p A) v := ⟨⟨h1, ih.ok⟩, fun q hq => by
          rw [Ex.flat, List.mem_append, List.mem_singleton] at hq
          rcases hq with hq | rfl
          · exact ih.may q hq
          · exact hpm, ih.fit, by rw [valX, ih.val]; exact hv, by have := ih.dep; rw [depX, depX]; omega, by have := ih.len; rw [Ex.flat, Ex.flat, List.length_append, List.length_append]; omega, by rw [Ex.flat, Ex.flat, List.filter_append, List.filter_append, ih.names]⟩
      cases A with
      | un _ _ => exact hkeep
      | bin _ _ _ => exact hkeep
      | leaf q =>
        rw [unT]
        by_cases hc : q.k = 1 ∧ (reckP p [q]).2 = true
        · rw [if_pos hc]
          obtain ⟨hqk, hr⟩ := hc
          have hqf := ih.fit hqk
          obtain ⟨hvq, hqt⟩ := leaf_num hqk hqf ih.val
          have hqn := may_noname (ih.may q (by simp [Ex.flat])) (.inl hqk)
          have han : a.flat.filter namedP = [] := by
            rw [← ih.names, Ex.flat, List.filter_cons_of_neg (by rw [hqn]; decide)]
            rfl
          by_cases h3 : p.k = 3
          · exfalso
            unfold reckP at hr
            rw [if_neg (by omega), if_neg (by omega), if_neg (by omega)] at hr
            cases hr
          have hk56 : p.k = 6 ∨ p.k = 5 := takes1 h1 h3
          have hun : (Ex.un p a).flat.filter namedP = [] := by
            rw [Ex.flat, List.filter_append, han, List.filter_cons_of_neg (by rw [may_noname hpm (by omega)]; decide)]
            rfl
          rcases hk56 with h6 | h5
          · rw [Go.Proofs.YtenjkplijblcoaaGreatDoor.partV_6 _ _ _ h6] at h
            injection h with h _
            subst h
            unfold reckP at hr ⊢
            rw [if_pos h6] at hr ⊢
            simp only [beq_iff_eq] at hr
            have := may_to hpm h6
            exact num_good (conv_fit hr) (by omega) hun
          · rw [Go.Proofs.YtenjkplijblcoaaGreatDoor.partV_51 _ _ _ h5 rfl] at h
            simp only [List.getD_cons_zero] at h
            obtain ⟨hvv, -⟩ := one_ok h
            subst hvv
            unfold reckP at hr ⊢
            rw [if_neg (by omega), if_pos ⟨h5, rfl⟩] at hr ⊢
            simp only [beq_iff_eq] at hr
            have hd := does_fit hr
            have h15 : 15 ≤ p.n := by
              unfold takesT at h1
              by_cases hh : p.k = 3 ∨ p.k = 6 ∨ (p.k = 5 ∧ 15 ≤ p.n)
              · omega
              · rw [if_neg hh, if_pos h5] at h1
                omega
            have ht : truthOf p.n = false := by
              cases hh : truthOf p.n with
              | false => rfl
              | true => have := (truth_iff p.n).1 hh; omega
            rw [ht] at hd
            rw [hvq]
            exact num_good hd.2.2 hqt hun
        · rw [if_neg hc]
          exact hkeep
  | .bin p a b, v, ho, hm, hf, hv => by
    obtain ⟨h1, h2, h3⟩ := ho
    obtain ⟨fa, fb⟩ := hf
    have hk := takes2 h1
    have hpm := hm p (by simp [Ex.flat])
    have hma : ∀ q ∈ a.flat, mayP q = true := fun q hq => hm q (by simp [Ex.flat, hq])
    have hmb : ∀ q ∈ b.flat, mayP q = true := fun q hq => hm q (by simp [Ex.flat, hq])
    rw [valX] at hv
    cases hva : valX vars a with
    | error e => rw [hva] at hv; cases hv
    | ok va =>
      rw [hva] at hv
      simp only at hv
      cases hvb : valX vars b with
      | error e => rw [hvb] at hv; cases hv
      | ok vb =>
        rw [hvb] at hv
        simp only at hv
        have h := step_ok hv
        rw [Go.Proofs.YtenjkplijblcoaaGreatDoor.partV_52 _ _ _ hk (by simp)] at h
        simp only [List.getD_cons_zero, List.getD_cons_succ] at h
        have iha := fold_good hw a va h2 hma fa hva
        have ihb := fold_good hw b vb h3 hmb fb hvb
        rw [foldT]
        obtain ⟨A, hA⟩ : ∃ A, foldT a = A := ⟨_, rfl⟩
        obtain ⟨B, hB⟩ : ∃ B, foldT b = B := ⟨_, rfl⟩
        rw [hA] at iha ⊢
        rw [hB] at ihb ⊢
        have hkeep : FoldG vars (.bin p a b) (.bin p A B) v := ⟨⟨h1, iha.ok, ihb.ok⟩, fun q hq => by
            rw [Ex.flat, List.mem_append, List.mem_append, List.mem_singleton] at hq
            rcases hq with (hq | hq) | rfl
            · exact iha.may q hq
            · exact ihb.may q hq
            · exact hpm, ⟨iha.fit, ihb.fit⟩, by rw [valX, iha.val]; simp only; rw [ihb.val]; exact hv, by have := iha.dep; have := ihb.dep; rw [depX, depX]; omega, by have := iha.len; have := ihb.len; rw [Ex.flat, Ex.flat, List.length_append, List.length_append, List.length_append, List.length_append]; omega, by rw [Ex.flat, Ex.flat, List.filter_append, List.filter_append, List.filter_append, List.filter_append, iha.names, ihb.names]⟩
        cases A with
        | un _ _ => rw [binT] <;> first | exact hkeep | simp
        | bin _ _ _ => rw [binT] <;> first | exact hkeep | simp
        | leaf q =>
          cases B with
          | un _ _ => rw [binT] <;> first | exact hkeep | simp
          | bin _ _ _ => rw [binT] <;> first | exact hkeep | simp
          | leaf q' =>
            rw [binT]
            by_cases hc : q.k = 1 ∧ q'.k = 1 ∧ (reckP p [q, q']).2 = true
            · rw [if_pos hc]
              obtain ⟨hqk, hqk', hr⟩ := hc
              obtain ⟨hvq, hqt⟩ := leaf_num hqk (iha.fit hqk) iha.val
              obtain ⟨hvq', hqt'⟩ := leaf_num hqk' (ihb.fit hqk') ihb.val
              have hqn := may_noname (iha.may q (by simp [Ex.flat])) (.inl hqk)
              have hqn' := may_noname (ihb.may q' (by simp [Ex.flat])) (.inl hqk')
              have han : a.flat.filter namedP = [] := by
                rw [← iha.names, Ex.flat, List.filter_cons_of_neg (by rw [hqn]; decide)]
                rfl
              have hbn : b.flat.filter namedP = [] := by
                rw [← ihb.names, Ex.flat, List.filter_cons_of_neg (by rw [hqn']; decide)]
                rfl
              have hun : (Ex.bin p a b).flat.filter namedP = [] := by
                rw [Ex.flat, List.filter_append, List.filter_append, han, hbn, List.filter_cons_of_neg (by rw [may_noname hpm (by omega)]; decide)]
                rfl
              unfold reckP at hr ⊢
              rw [if_neg (by omega), if_neg (by simp), if_pos hk] at hr ⊢
              simp only [beq_iff_eq] at hr
              obtain ⟨g1, g2, g3⟩ := does_fit hr
              have hh : opHas p.n q.t = true := by
                unfold opHas
                rw [g2]
                exact g1
              have hres : (result p.n q.t).1 = if truthOf p.n then 1 else q.t := by
                unfold result
                rw [if_neg (by rw [hh]; simp)]
                split <;> rfl
              have heq : q.t = q'.t := by
                have := (two_all h).2.2.2
                rw [hvq, hvq'] at this
                exact this (by show q.t ≠ 0; omega) (by show q'.t ≠ 0; omega)
              have hvt : v = plainV (result p.n q.t).1 := by
                rw [hvq, hvq', ← heq] at h
                have hmx : max (plainV q.t).t (plainV q.t).t = q.t := by show max q.t q.t = q.t; omega
                obtain ⟨a1, a2, a3, -⟩ := two_all h
                rw [hmx, if_neg (by omega)] at a1 a2
                rw [two_plainV (by omega) a1 a2] at h
                injection h with h _
                exact h.symm
              rw [hvt]
              refine num_good ?_ ?_ hun
              · show fits (result p.n q.t).1 _ = true
                rw [hres]
                exact g3
              · show 1 ≤ (result p.n q.t).1
                rw [hres]
                split <;> omega
            · rw [if_neg hc]
              exact hkeep
/-! ### What resolving leaves -/
theorem ask_dep (vars : List Vr) : ∀ (T : Ex) (t : Int), depX (askX vars t T) = depX T
  | .leaf p, t => by rw [askX]; split <;> rfl
  | .un p a, t => by rw [askX, depX, depX, ask_dep vars a]
  | .bin p a b, t => by rw [askX, depX, depX, ask_dep vars a, ask_dep vars b]
theorem ask_length (vars : List Vr) : ∀ (T : Ex) (t : Int), (askX vars t T).flat.length = T.flat.length
  | .leaf p, t => by rw [askX]; split <;> rfl
  | .un p a, t => by rw [askX, Ex.flat, Ex.flat, List.length_append, List.length_append, ask_length vars a]
  | .bin p a b, t => by rw [askX, Ex.flat, Ex.flat, List.length_append, List.length_append, List.length_append, List.length_append, ask_length vars a, ask_length vars b]
theorem keysOf_append (x y : List Prt) : keysOf (x ++ y) = keysOf x ++ keysOf y := by
  unfold keysOf
  rw [List.filter_append, List.map_append]
theorem ask_keys (vars : List Vr) : ∀ (T : Ex) (t : Int), keysOf (askX vars t T).flat = keysOf T.flat
  | .leaf p, t => by
    rw [askX]
    split
    · unfold keysOf Ex.flat namedP
      rw [List.filter_cons, List.filter_cons]
      simp only
      split <;> rfl
    · rfl
  | .un p a, t => by rw [askX, Ex.flat, Ex.flat, keysOf_append, keysOf_append, ask_keys vars a]
  | .bin p a b, t => by rw [askX, Ex.flat, Ex.flat, keysOf_append, keysOf_append, keysOf_append, keysOf_append, ask_keys vars a, ask_keys vars b]
theorem ask_may (vars : List Vr) : ∀ (T : Ex) (t : Int), (∀ p ∈ T.flat, mayP p = true) → FitN (askX vars t T) → ∀ p ∈ (askX vars t T).flat, mayP p = true
  | .leaf p, t, hm, hf => by
    have hp := hm p (by simp [Ex.flat])
    rw [askX] at hf ⊢
    split at hf
    · rename_i hc
      rw [if_pos hc]
      intro q hq
      rw [Ex.flat, List.mem_singleton] at hq
      subst hq
      have h1 : fits t p.n = true := hf hc.1
      unfold mayP at hp ⊢
      rw [if_pos hc.1] at hp
      rw [if_pos (show (⟨p.k, p.n, t, p.s, p.f⟩ : Prt).k = 1 from hc.1)]
      simp only
      rw [h1, Bool.true_or, Bool.true_and]
      rw [Bool.and_eq_true] at hp
      exact hp.2
    · rename_i hc
      rw [if_neg hc]
      exact hm
  | .un p a, t, hm, hf => by
    rw [askX] at hf ⊢
    intro q hq
    rw [Ex.flat, List.mem_append, List.mem_singleton] at hq
    rcases hq with hq | rfl
    · exact ask_may vars a _ (fun q hq => hm q (by simp [Ex.flat, hq])) hf q hq
    · exact hm _ (by simp [Ex.flat])
  | .bin p a b, t, hm, hf => by
    rw [askX] at hf ⊢
    intro q hq
    rw [Ex.flat, List.mem_append, List.mem_append, List.mem_singleton] at hq
    rcases hq with (hq | hq) | rfl
    · exact ask_may vars a _ (fun q hq => hm q (by simp [Ex.flat, hq])) hf.1 q hq
    · exact ask_may vars b _ (fun q hq => hm q (by simp [Ex.flat, hq])) hf.2 q hq
    · exact hm _ (by simp [Ex.flat])
/-- What is resolved is resolved as it is. -/
theorem ask_same (vars : List Vr) : ∀ (U : Ex) (t : Int), FitN U → askX vars t U = U
  | .leaf p, t, hf => by
    rw [askX, if_neg]
    rintro ⟨h1, h2⟩
    have := hf h1
    rw [fits_iff] at this
    omega
  | .un p a, t, hf => by rw [askX, ask_same vars a _ hf]
  | .bin p a b, t, hf => by rw [askX, ask_same vars a _ hf.1, ask_same vars b _ hf.2]
theorem fits_wrong {vars : List Vr} {x : List Prt} {t : Int} (h : fitsX vars x t = 0) : wrongV vars = 0 ∧ checkX x = 0 := by
  unfold fitsX at h
  by_cases h0 : (reckV vars x).2 ≠ 0
  · rw [if_pos h0] at h
    exact absurd h h0
  · have h1 : (reckV vars x).2 = 0 := by simpa using h0
    unfold reckV at h1
    by_cases hw : wrongV vars ≠ 0
    · rw [if_pos hw] at h1
      exact absurd h1 hw
    · rw [if_neg hw] at h1
      by_cases hc : checkX x ≠ 0
      · rw [if_pos hc] at h1
        exact absurd h1 hc
      · exact ⟨by simpa using hw, by simpa using hc⟩
/-- A tree of a type, resolved: what it has. -/
structure ResG (vars : List Vr) (t : Int) (F : Ex) : Prop where
  ok : F.Ok
  may : ∀ p ∈ F.flat, mayP p = true
  fit : FitN F
  val : valX vars F = .ok (plainV t)
  chk : checkX F.flat = 0
  wrong : wrongV vars = 0
  ty : 1 ≤ t
theorem ResG.reck {vars : List Vr} {t : Int} {F : Ex} (h : ResG vars t F) : reckV vars F.flat = (plainV t, 0) := by
  have ht := h.ty
  rw [reckV, if_neg (by simp [h.wrong]), if_neg (by simp [h.chk]), reckGo_tree F h.ok, h.val]
  simp only [List.getD_cons_zero]
  rw [if_pos (.inl (by show t ≠ 0; omega))]
theorem ResG.fits {vars : List Vr} {t : Int} {F : Ex} (h : ResG vars t F) : fitsX vars F.flat t = 0 := by
  have ht := h.ty
  unfold fitsX
  rw [h.reck, if_neg (by simp), if_pos ⟨rfl, rfl, rfl, by omega⟩]
theorem res_good {vars : List Vr} {x : List Prt} {t : Int} (h : fitsX vars x t = 0) : ResG vars t (askX vars t (treeL x)) ∧ ResG vars t (foldT (askX vars t (treeL x))) ∧
    keysOf (askX vars t (treeL x)).flat = keysOf x ∧ keysOf (foldT (askX vars t (treeL x))).flat = keysOf x ∧ (askX vars t (treeL x)).flat.length = x.length ∧ (foldT (askX vars t (treeL x))).flat.length ≤ x.length := by
  obtain ⟨hw, hc⟩ := fits_wrong h
  obtain ⟨ho, hfl⟩ := tree_in hc
  obtain ⟨T, hT⟩ : ∃ T, treeL x = T := ⟨_, rfl⟩
  rw [hT] at ho hfl ⊢
  subst hfl
  obtain ⟨c1, c2, c3⟩ := (checkX_tree ho).1 hc
  cases hv : valX vars T with
  | error e =>
    exfalso
    unfold fitsX at h
    have he := val_err T e hv
    have hr : (reckV vars T.flat).2 = e := by
      rw [reckV, if_neg (by simp [hw]), if_neg (by simp [hc]), reckGo_tree T ho, hv]
    rw [hr, if_pos he.1] at h
    exact he.1 h
  | ok v =>
    obtain ⟨t1, t2⟩ := fits_top hw ho hc hv h
    obtain ⟨v1, v2, v3, v4⟩ := typ hw T t v ho c3 c1 c2 hv
    obtain ⟨v5, v6⟩ := v4 t1
    have htt : (if v.t = 0 then t else v.t) = t := by
      by_cases h0 : v.t = 0
      · rw [if_pos h0]
      · rw [if_neg h0, t2 h0]
    rw [htt] at v6
    have hao := ask_ok vars T t ho
    have ham := ask_may vars T t c3 v5
    obtain ⟨f1, -⟩ := fit_plain hw _ _ hao ham v5 v6
    have f1 : 1 ≤ t := f1
    have hA : ResG vars t (askX vars t T) := ⟨hao, ham, v5, v6, (checkX_tree hao).2 ⟨by rw [ask_length]; exact c1, by rw [ask_dep]; exact c2, ham⟩, hw, f1⟩
    have hF := fold_good hw _ _ hao ham v5 v6
    have hkA := ask_keys vars T t
    have hlA := ask_length vars T t
    have hdA := ask_dep vars T t
    obtain ⟨A, hAe⟩ : ∃ A, askX vars t T = A := ⟨_, rfl⟩
    rw [hAe] at hA hF hkA hlA hdA ⊢
    refine ⟨hA, ⟨hF.ok, hF.may, hF.fit, hF.val, (checkX_tree hF.ok).2 ⟨by have := hF.len; omega, by have := hF.dep; omega, hF.may⟩, hw, f1⟩, hkA, ?_, hlA, by have := hF.len; omega⟩
    rw [← hkA]
    unfold keysOf
    rw [hF.names]
end Cap
