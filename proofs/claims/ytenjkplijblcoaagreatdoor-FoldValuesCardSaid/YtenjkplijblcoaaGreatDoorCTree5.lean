/- How deep a tree is; what of a tree may be, may be of its branches. -/
import Derived.Test.YtenjkplijblcoaaGreatDoorCTree
import Derived.Test.YtenjkplijblcoaaGreatDoorCFReck
set_option linter.unusedSimpArgs false
set_option linter.unusedVariables false
namespace Cap
open Go Go.RowKit

def depX : Ex → Int
  | .leaf _ => 1
  | .un _ a => 1 + depX a
  | .bin _ a b => 1 + max (depX a) (depX b)
theorem depX_pos : ∀ T : Ex, 1 ≤ depX T
  | .leaf _ => Int.le_refl _
  | .un _ a => by have := depX_pos a; rw [depX]; omega
  | .bin _ a b => by have := depX_pos a; rw [depX]; omega
theorem depthStep_at {p : Prt} {st l : List Int} (h : l.length = takesE p) : depthStep p (st ++ l) = st ++ [1 + if takesE p = 0 then 0 else maxL l] := by
  unfold depthStep
  have hm : (st ++ l).length - takesE p = st.length := by rw [List.length_append]; omega
  rw [hm, List.drop_left, List.take_left]
theorem depthGo_flat : ∀ (T : Ex) (r : List Prt) (st : List Int), T.Ok → (∀ p ∈ T.flat, takesT p = takesE p) → depthGo (T.flat ++ r) st = depthGo r (st ++ [depX T])
  | .leaf p, r, st, hT, he => by
    have h0 : takesE p = 0 := by rw [← he p (by simp [Ex.flat])]; exact hT
    have h := depthStep_at (p := p) (st := st) (l := []) (by rw [h0]; rfl)
    rw [List.append_nil, if_pos h0] at h
    show depthGo (p :: r) st = _
    rw [depthGo, if_neg (by omega), h]
    rfl
  | .un p a, r, st, hT, he => by
    obtain ⟨h1, h2⟩ := hT
    have h0 : takesE p = 1 := by rw [← he p (by simp [Ex.flat])]; exact h1
    rw [Ex.flat, List.append_assoc, depthGo_flat a _ _ h2 (fun q hq => he q (by simp [Ex.flat, hq]))]
    have h := depthStep_at (p := p) (st := st) (l := [depX a]) (by rw [h0]; rfl)
    rw [if_neg (by omega)] at h
    show depthGo (p :: r) _ = _
    rw [depthGo, if_neg (by rw [h0]; simp), h]
    rfl
  | .bin p a b, r, st, hT, he => by
    obtain ⟨h1, h2, h3⟩ := hT
    have h0 : takesE p = 2 := by rw [← he p (by simp [Ex.flat])]; exact h1
    rw [Ex.flat, List.append_assoc, List.append_assoc, depthGo_flat a _ _ h2 (fun q hq => he q (by simp [Ex.flat, hq])), depthGo_flat b _ _ h3 (fun q hq => he q (by simp [Ex.flat, hq]))]
    have h := depthStep_at (p := p) (st := st) (l := [depX a, depX b]) (by rw [h0]; rfl)
    rw [if_neg (by omega)] at h
    have e : st ++ [depX a] ++ [depX b] = st ++ [depX a, depX b] := by simp
    show depthGo (p :: r) _ = _
    rw [e, depthGo, if_neg (by rw [h0]; simp), h]
    rfl
theorem depthL_tree {T : Ex} (hT : T.Ok) (he : ∀ p ∈ T.flat, takesT p = takesE p) : depthL T.flat = depX T := by
  have h := depthGo_flat T [] [] hT he
  rw [List.append_nil] at h
  rw [depthL, h]
  rfl
/-- A tree may be: its parts may, it is neither too long nor too deep. -/
theorem checkX_tree {T : Ex} (hT : T.Ok) : checkX T.flat = 0 ↔ T.flat.length ≤ 500 ∧ depX T ≤ 24 ∧ ∀ p ∈ T.flat, mayP p = true := by
  constructor
  · intro h
    obtain ⟨h1, _, h3⟩ := Go.Proofs.YtenjkplijblcoaaGreatDoor.checkX_ok h
    have hd := depthL_tree hT (fun p hp => Go.Proofs.YtenjkplijblcoaaGreatDoor.takesT_E (h3 p hp))
    refine ⟨h1, ?_, h3⟩
    rw [checkX, if_neg (by omega)] at h
    rw [← hd]
    by_cases hc : depthL T.flat = 0 ∨ 24 < depthL T.flat ∨ T.flat.any (fun p => !mayP p) = true
    · rw [if_pos hc] at h
      omega
    · omega
  · rintro ⟨h1, h2, h3⟩
    have hd := depthL_tree hT (fun p hp => Go.Proofs.YtenjkplijblcoaaGreatDoor.takesT_E (h3 p hp))
    have hp := depX_pos T
    rw [checkX, if_neg (by omega), if_neg]
    rw [hd]
    rintro (h | h | h)
    · omega
    · omega
    · rw [List.any_eq_true] at h
      obtain ⟨p, hp1, hp2⟩ := h
      rw [h3 p hp1] at hp2
      cases hp2
end Cap

/- A tree without names, asked for a type, has it. -/
namespace Cap
open Go Go.RowKit

theorem kind_tree {vars : List Vr} (hw : wrongV vars = 0) {T : Ex} (hT : T.Ok) (hc : checkX T.flat = 0) {v : Va} (hv : valX vars T = .ok v) : (reckV vars T.flat).1.t = v.t := by
  rw [reckV, if_neg (by simp [hw]), if_neg (by simp [hc]), reckGo_tree T hT, hv]
  simp only [List.getD_cons_zero]
  by_cases h : v.t ≠ 0 ∨ vaFits v 3 = true
  · rw [if_pos h]
  · rw [if_neg h]
    have : v.t = 0 := by
      by_cases h0 : v.t = 0
      · exact h0
      · exact absurd (.inl h0) h
    rw [this]
    rfl
theorem step_ok {vars : List Vr} {p : Prt} {l : List Va} {v : Va} (h : stepX vars p l = .ok v) : partV vars p l = (v, 0) := by
  unfold stepX at h
  by_cases hq : (partV vars p l).2 ≠ 0
  · rw [if_pos hq] at h
    cases h
  · rw [if_neg hq] at h
    injection h with h
    have h2 : (partV vars p l).2 = 0 := by simpa using hq
    rw [← h, ← h2]
theorem result_val {n t : Int} (h : (result n t).2 = 0) : (result n t).1 = if truthOf n then 1 else t := by
  unfold result at *
  by_cases hh : opHas n t = false
  · rw [if_pos hh] at h
    simp at h
  · rw [if_neg hh] at *
    by_cases ht : truthOf n
    · rw [if_pos ht, if_pos ht]
    · rw [if_neg ht, if_neg ht]
theorem truth_iff (n : Int) : truthOf n = true ↔ 9 ≤ n ∧ n ≤ 14 := by
  unfold truthOf
  simp
theorem has32 {n : Int} (h : (result n 3).2 = 0) : (result n 2).2 = 0 := by
  have h3 : opHas n 3 = true := by
    cases hh : opHas n 3 with
    | true => rfl
    | false =>
      unfold result at h
      rw [if_pos hh] at h
      simp at h
  have hop : isOp n = true := by
    unfold opHas at h3
    rw [Bool.and_eq_true] at h3
    exact h3.1
  have hr : 1 ≤ n ∧ n ≤ 16 := by simpa [isOp] using hop
  have hc : n = 1 ∨ n = 2 ∨ n = 3 ∨ n = 4 ∨ n = 5 ∨ n = 6 ∨ n = 7 ∨ n = 8 ∨ n = 9 ∨ n = 10 ∨ n = 11 ∨ n = 12 ∨ n = 13 ∨ n = 14 ∨ n = 15 ∨ n = 16 := by omega
  rcases hc with rfl | rfl | rfl | rfl | rfl | rfl | rfl | rfl | rfl | rfl | rfl | rfl | rfl | rfl | rfl | rfl <;> first | rfl | (exfalso; revert h; decide)
end Cap

/- ask gives a tree without names the type that it is asked for, or has. -/
namespace Cap
open Go Go.RowKit

theorem may_num {p : Prt} (h : mayP p = true) (hk : p.k = 1) : 0 ≤ p.t := by
  unfold mayP at h
  rw [if_pos hk] at h
  simp only [Bool.and_eq_true, Bool.or_eq_true] at h
  rcases h.1 with h | h
  · unfold fits known at h
    simp only [Bool.and_eq_true, decide_eq_true_eq] at h
    omega
  · have := h.1.1
    simp at this
    omega
theorem may_to {p : Prt} (h : mayP p = true) (hk : p.k = 6) : 2 ≤ p.t := by
  unfold mayP at h
  rw [if_neg (by omega), if_neg (by omega), if_neg (by omega), if_neg (by omega)] at h
  simp only [Bool.and_eq_true, decide_eq_true_eq] at h
  exact h.1.1.2
theorem wrong_nil : wrongV [] = 0 := rfl
theorem two_ok {op : Int} {a b v : Va} (h : twoV op a b = (v, 0)) (ha : 0 ≤ a.t) (hb : 0 ≤ b.t) :
    (max a.t b.t = 0 ∧ (result op 3).2 = 0 ∧ ((¬ (9 ≤ op ∧ op ≤ 14) ∧ v.t = 0) ∨ (9 ≤ op ∧ op ≤ 14 ∧ v.t = 1))) ∨
    (max a.t b.t ≠ 0 ∧ (result op (max a.t b.t)).2 = 0 ∧ v.t = (result op (max a.t b.t)).1 ∧ (a.t = max a.t b.t ∨ (a.t = 0 ∧ (max a.t b.t = 2 ∨ max a.t b.t = 3)))) := by
  unfold twoV at h
  by_cases hc1 : max a.t b.t ≠ 0 ∧ a.t ≠ b.t ∧ ((a.t ≠ 0 ∧ b.t ≠ 0) ∨ whole (max a.t b.t) = false)
  · rw [if_pos hc1] at h
    injection h with _ h
    omega
  · rw [if_neg hc1] at h
    by_cases hc2 : (result op (if max a.t b.t = 0 then 3 else max a.t b.t)).2 ≠ 0 ∨ (two op (if max a.t b.t = 0 then 3 else max a.t b.t) 1 1).2 ≠ 0
    · rw [if_pos hc2] at h
      injection h with _ h
      omega
    · rw [if_neg hc2] at h
      have hr2 : (result op (if max a.t b.t = 0 then 3 else max a.t b.t)).2 = 0 := by
        by_cases h0 : (result op (if max a.t b.t = 0 then 3 else max a.t b.t)).2 = 0
        · exact h0
        · exact absurd (Or.inl h0) hc2
      clear hc2
      by_cases hm : max a.t b.t = 0
      · rw [if_pos hm] at h hr2
        have hv := result_val hr2
        left
        refine ⟨hm, hr2, ?_⟩
        by_cases ht : truthOf op = true
        · right
          rw [if_pos ht] at hv
          rw [if_neg (fun h' => h'.2 hv)] at h
          have h14 := (truth_iff op).1 ht
          split at h
          · injection h with _ h
            omega
          · injection h with h _
            exact ⟨h14.1, h14.2, by rw [← h]; exact hv⟩
        · left
          rw [if_neg ht] at hv
          rw [if_pos ⟨hm, by rw [hv]; decide⟩] at h
          injection h with h _
          exact ⟨fun h' => ht ((truth_iff op).2 h'), by rw [← h]⟩
      · rw [if_neg hm] at h hr2
        right
        refine ⟨hm, hr2, ?_, ?_⟩
        · rw [if_neg (fun h' => hm h'.1)] at h
          split at h
          · injection h with _ h
            omega
          · injection h with h _
            rw [← h]
            rfl
        · by_cases hab : a.t = b.t
          · left
            omega
          · by_cases ha0 : a.t = 0
            · right
              refine ⟨ha0, ?_⟩
              by_cases hw : whole (max a.t b.t) = true
              · unfold whole at hw
                simpa using hw
              · exact absurd ⟨hm, hab, .inr (by simpa using hw)⟩ hc1
            · left
              by_cases hb0 : b.t = 0
              · omega
              · exact absurd ⟨hm, hab, .inl ⟨ha0, hb0⟩⟩ hc1
theorem ask_ty : ∀ (T : Ex) (t : Int) (v : Va), T.Ok → T.Plain → (∀ p ∈ T.flat, mayP p = true) → T.flat.length ≤ 500 → depX T ≤ 24 → valX [] T = .ok v →
    0 ≤ v.t ∧ (v.t ≠ 0 → tyX (askX [] t T) = v.t) ∧ (v.t = 0 → (t = 2 ∨ t = 3) → tyX (askX [] t T) = t)
  | .leaf p, t, v, ho, hp, hm, _, _, hv => by
    rw [valX] at hv
    have h := step_ok hv
    have hk : p.k = 1 := hp
    rw [Go.Proofs.YtenjkplijblcoaaGreatDoor.partV_1 _ _ _ hk] at h
    have h0 := may_num (hm p (by simp [Ex.flat])) hk
    rw [askX]
    by_cases ht : p.t = 0
    · rw [if_pos ht] at h
      injection h with h _
      subst h
      rw [if_pos ⟨hk, ht⟩]
      exact ⟨Int.le_refl _, fun h => absurd rfl h, fun _ _ => rfl⟩
    · rw [if_neg ht] at h
      injection h with h _
      subst h
      rw [if_neg (fun h' => ht h'.2)]
      exact ⟨h0, fun _ => rfl, fun h' => absurd h' ht⟩
  | .un p a, t, v, ho, hp, hm, hl, hd, hv => by
    obtain ⟨h1, h2⟩ := ho
    obtain ⟨h3, h4⟩ := hp
    have hpm := hm p (by simp [Ex.flat])
    have hd' : depX a ≤ 24 := by rw [depX] at hd; omega
    have hl' : a.flat.length ≤ 500 := by rw [Ex.flat, List.length_append] at hl; omega
    have hm' : ∀ q ∈ a.flat, mayP q = true := fun q hq => hm q (by simp [Ex.flat, hq])
    rw [valX] at hv
    cases hva : valX [] a with
    | error e => rw [hva] at hv; cases hv
    | ok va =>
      rw [hva] at hv
      have h := step_ok hv
      rcases takes1 h1 h3 with h6 | h5
      · rw [Go.Proofs.YtenjkplijblcoaaGreatDoor.partV_6 _ _ _ h6] at h
        injection h with h _
        subst h
        have h6t := may_to hpm h6
        rw [askX, tyX, if_pos h6]
        exact ⟨by show 0 ≤ p.t; omega, fun _ => rfl, fun h' => by have h' : p.t = 0 := h'; omega⟩
      · rw [Go.Proofs.YtenjkplijblcoaaGreatDoor.partV_51 _ _ _ h5 rfl] at h
        have hvv : v = va := by
          simp only [List.getD_cons_zero] at h
          unfold oneV at h
          by_cases hc : (one p.n (if va.t = 0 then 3 else va.t) 1).2 ≠ 0
          · rw [if_pos hc] at h
            injection h with _ h
            omega
          · rw [if_neg hc] at h
            injection h with h _
            exact h.symm
        subst hvv
        rw [askX, tyX, if_neg (by omega), if_neg h3, if_neg (by omega)]
        exact ask_ty a t v h2 h4 hm' hl' hd' hva
  | .bin p a b, t, v, ho, hp, hm, hl, hd, hv => by
    obtain ⟨h1, h2, h3⟩ := ho
    obtain ⟨h4, h5⟩ := hp
    have hk := takes2 h1
    have hda : depX a ≤ 24 := by rw [depX] at hd; omega
    have hdb : depX b ≤ 24 := by rw [depX] at hd; omega
    have hla : a.flat.length ≤ 500 := by rw [Ex.flat, List.length_append, List.length_append] at hl; omega
    have hlb : b.flat.length ≤ 500 := by rw [Ex.flat, List.length_append, List.length_append] at hl; omega
    have hma : ∀ q ∈ a.flat, mayP q = true := fun q hq => hm q (by simp [Ex.flat, hq])
    have hmb : ∀ q ∈ b.flat, mayP q = true := fun q hq => hm q (by simp [Ex.flat, hq])
    rw [valX] at hv
    cases hva : valX [] a with
    | error e => rw [hva] at hv; cases hv
    | ok va =>
      rw [hva] at hv
      simp only at hv
      cases hvb : valX [] b with
      | error e => rw [hvb] at hv; cases hv
      | ok vb =>
        rw [hvb] at hv
        have h := step_ok hv
        rw [Go.Proofs.YtenjkplijblcoaaGreatDoor.partV_52 _ _ _ hk (by simp)] at h
        simp only [List.getD_cons_zero, List.getD_cons_succ] at h
        have hka := kind_tree wrong_nil h2 ((checkX_tree h2).2 ⟨hla, hda, hma⟩) hva
        have hkb := kind_tree wrong_nil h3 ((checkX_tree h3).2 ⟨hlb, hdb, hmb⟩) hvb
        obtain ⟨a0, a1, a2⟩ := ask_ty a (if max va.t vb.t = 0 then (if 9 ≤ p.n then 3 else t) else max va.t vb.t) va h2 h4 hma hla hda hva
        obtain ⟨b0, -, -⟩ := ask_ty b 0 vb h3 h5 hmb hlb hdb hvb
        rw [askX, hka, hkb, tyX]
        rcases two_ok h a0 b0 with ⟨hm0, hr, hcase⟩ | ⟨hm0, hr, hvt, hcase⟩
        · rw [if_pos hm0] at a1 a2 ⊢
          have hat : va.t = 0 := by omega
          rcases hcase with ⟨hnt, hv0⟩ | ⟨h9, h14, hv1⟩
          · refine ⟨by omega, fun h' => absurd hv0 h', fun _ ht => ?_⟩
            have h9 : ¬ 9 ≤ p.n ∨ 15 ≤ p.n := by omega
            have hn15 : p.n < 15 := by
              unfold takesT at h1
              split at h1
              · omega
              · rename_i hh
                omega
            have h9' : ¬ 9 ≤ p.n := by omega
            rw [if_neg h9'] at a1 a2 ⊢
            rw [a2 hat ht]
            have hrt : (result p.n t).2 = 0 := by
              rcases ht with rfl | rfl
              · exact has32 hr
              · exact hr
            rw [result_val hrt, if_neg (fun h' => h9' ((truth_iff p.n).1 h').1)]
          · rw [if_pos h9] at a1 a2 ⊢
            refine ⟨by omega, fun _ => ?_, fun h' => by omega⟩
            rw [a2 hat (.inr rfl), result_val hr, if_pos ((truth_iff p.n).2 ⟨h9, h14⟩)]
            exact hv1.symm
        · rw [if_neg hm0] at a1 a2 ⊢
          have hty : tyX (askX [] (max va.t vb.t) a) = max va.t vb.t := by
            rcases hcase with hc | ⟨hc, hw⟩
            · rw [a1 (by omega)]
              exact hc
            · exact a2 hc hw
          have hres := result_val hr
          have hv0 : v.t ≠ 0 := by
            rw [hvt, hres]
            split
            · decide
            · exact hm0
          refine ⟨?_, fun _ => by rw [hty, hvt], fun h' => absurd h' hv0⟩
          rw [hvt, hres]
          split <;> omega
end Cap

/- A folded tree without names is a number that fits its type. -/
namespace Cap
open Go Go.RowKit

theorem fits_iff {t n : Int} : fits t n = true ↔ (t = 1 ∧ 0 ≤ n ∧ n ≤ 1) ∨ (t = 2 ∧ -32768 ≤ n ∧ n ≤ 32767) ∨ ((t = 3 ∨ t = 4) ∧ -2147483648 ≤ n ∧ n ≤ 2147483647) := by
  unfold fits known wrapT wrap16 wrap32
  simp only [Bool.and_eq_true, decide_eq_true_eq, beq_iff_eq]
  constructor
  · rintro ⟨⟨h1, h2⟩, h3⟩
    by_cases e1 : t = 1
    · rw [if_pos e1] at h3
      omega
    · rw [if_neg e1] at h3
      by_cases e2 : t = 2
      · rw [if_pos e2] at h3
        omega
      · rw [if_neg e2] at h3
        omega
  · rintro (⟨h, h1, h2⟩ | ⟨h, h1, h2⟩ | ⟨h, h1, h2⟩)
    · subst h
      refine ⟨⟨by omega, by omega⟩, ?_⟩
      rw [if_pos rfl]
      omega
    · subst h
      refine ⟨⟨by omega, by omega⟩, ?_⟩
      rw [if_neg (by omega), if_pos rfl]
      omega
    · refine ⟨⟨by omega, by omega⟩, ?_⟩
      rw [if_neg (by omega), if_neg (by omega)]
      omega
theorem fits_mid {t a b n : Int} (ha : fits t a = true) (hb : fits t b = true) (h1 : a ≤ n) (h2 : n ≤ b) : fits t n = true := by
  rw [fits_iff] at *
  omega
theorem fits_wrap {t : Int} (h : known t = true) (n : Int) : fits t (wrapT t n) = true := by
  have hk : 1 ≤ t ∧ t ≤ 4 := by simpa [known] using h
  rw [fits_iff]
  unfold wrapT wrap16 wrap32
  by_cases e1 : t = 1
  · rw [if_pos e1]
    omega
  · rw [if_neg e1]
    by_cases e2 : t = 2
    · rw [if_pos e2]
      omega
    · rw [if_neg e2]
      omega
theorem flag_01 (b : Bool) : 0 ≤ flag b ∧ flag b ≤ 1 := by cases b <;> decide
theorem opDo_truth {n : Int} (h : truthOf n = true) (a b : Int) : 0 ≤ opDo n a b ∧ opDo n a b ≤ 1 := by
  have h' := (truth_iff n).1 h
  have hc : n = 9 ∨ n = 10 ∨ n = 11 ∨ n = 12 ∨ n = 13 ∨ n = 14 := by omega
  rcases hc with rfl | rfl | rfl | rfl | rfl | rfl <;> exact flag_01 _
theorem hasK_known {k t : Int} (h : hasK k t = true) : known t = true := by
  unfold hasK at h
  rw [Bool.and_eq_true] at h
  exact h.1
/-- What an operation makes fits. -/
theorem does_fit {n t : Int} {o : Bool} {a b : Int} (h : (does n t o a b).2 = 0) : hasK (kindsOf n) t = true ∧ isOp n = true ∧ fits (if truthOf n then 1 else t) (does n t o a b).1 = true := by
  unfold does at *
  by_cases h1 : isOp n = false
  · rw [if_pos h1] at h; simp at h
  · rw [if_neg h1] at *
    by_cases h2 : (oneOf n == o) = false
    · rw [if_pos h2] at h; simp at h
    · rw [if_neg h2] at *
      by_cases h3 : hasK (kindsOf n) t = false
      · rw [if_pos h3] at h; simp at h
      · rw [if_neg h3] at *
        have h3' : hasK (kindsOf n) t = true := by simpa using h3
        refine ⟨h3', by simpa using h1, ?_⟩
        by_cases h4 : fits t a = false
        · rw [if_pos h4] at h; simp at h
        · rw [if_neg h4] at *
          by_cases h5 : fits t b = false
          · rw [if_pos h5] at h; simp at h
          · rw [if_neg h5] at *
            by_cases h6 : (n = 4 ∨ n = 5) ∧ b = 0
            · rw [if_pos h6] at h; simp at h
            · rw [if_neg h6] at *
              by_cases h7 : truthOf n = true
              · rw [if_pos h7, if_pos h7]
                rw [fits_iff]
                have := opDo_truth h7 a b
                exact .inl ⟨rfl, this⟩
              · rw [if_neg h7, if_neg h7]
                exact fits_wrap (hasK_known h3') _
theorem conv_fit {f t n : Int} (h : (numConvert f t n).2 = 0) : fits t (numConvert f t n).1 = true := by
  unfold numConvert at *
  by_cases h1 : known f = false
  · rw [if_pos h1] at h; simp at h
  · rw [if_neg h1] at *
    by_cases h2 : known t = false
    · rw [if_pos h2] at h; simp at h
    · rw [if_neg h2] at *
      by_cases h3 : ((f == 1) == (t == 1)) = false
      · rw [if_pos h3] at h; simp at h
      · rw [if_neg h3] at *
        by_cases h4 : fits f n = false
        · rw [if_pos h4] at h; simp at h
        · rw [if_neg h4] at *
          exact fits_wrap (by simpa using h2) n
/-- All numbers of a tree fit their types. -/
def FitX : Ex → Prop
  | .leaf p => fits p.t p.n = true
  | .un _ a => FitX a
  | .bin _ a b => FitX a ∧ FitX b
theorem foldX_fit : ∀ (U : Ex) (q : Prt), U.Ok → U.Plain → FitX U → foldX U = [q] → fits q.t q.n = true
  | .leaf p, q, _, _, hf, h => by
    rw [foldX] at h
    injection h with h
    subst h
    exact hf
  | .un p a, q, ho, hp, hf, h => by
    obtain ⟨h1, h2⟩ := ho
    obtain ⟨h3, h4⟩ := hp
    rw [foldX] at h
    split at h
    · rename_i q0 hq0
      split at h
      · rename_i hc
        injection h with h
        subst h
        have hr := hc.2
        rcases takes1 h1 h3 with h6 | h5
        · unfold reckP at *
          rw [if_pos h6] at *
          simp only [beq_iff_eq] at hr
          exact conv_fit hr
        · unfold reckP at *
          rw [if_neg (by omega), if_pos ⟨h5, rfl⟩] at *
          simp only [beq_iff_eq] at hr
          have := does_fit hr
          have h15 : 15 ≤ p.n := by
            unfold takesT at h1
            by_cases hh : p.k = 3 ∨ p.k = 6 ∨ (p.k = 5 ∧ 15 ≤ p.n)
            · omega
            · rw [if_neg hh, if_pos h5] at h1
              omega
          have ht : truthOf p.n = false := by
            cases hh : truthOf p.n with
            | false => rfl
            | true => have := (truth_iff p.n).1 hh; omega
          rw [ht] at this
          exact this.2.2
      · simp at h
    · have := congrArg List.length h
      rw [List.length_append] at this
      simp at this
      exact absurd this (foldX_ne h2)
  | .bin p a b, q, ho, hp, hf, h => by
    obtain ⟨h1, h2, h3⟩ := ho
    obtain ⟨h4, h5⟩ := hp
    rw [foldX] at h
    split at h
    · rename_i q0 q1 hq0 hq1
      split at h
      · rename_i hc
        injection h with h
        subst h
        have hr := hc.2.2
        have hk := takes2 h1
        unfold reckP at *
        rw [if_neg (by omega), if_neg (by simp), if_pos hk] at *
        simp only [beq_iff_eq] at hr
        obtain ⟨g1, g2, g3⟩ := does_fit hr
        show fits (result p.n q0.t).1 _ = true
        have hh : opHas p.n q0.t = true := by
          unfold opHas
          rw [g2]
          exact g1
        have hres : (result p.n q0.t).1 = if truthOf p.n then 1 else q0.t := by
          unfold result
          rw [if_neg (by rw [hh]; simp)]
          split <;> rfl
        rw [hres]
        exact g3
      · simp at h
    · have := congrArg List.length h
      rw [List.length_append] at this
      simp at this
      exact absurd this.1 (foldX_ne h2)
end Cap

/- A tree without names, asked for a type that it fits, has numbers that fit. -/
namespace Cap
open Go Go.RowKit

theorem two_rng {op : Int} {a b v : Va} (h : twoV op a b = (v, 0)) (ha : a.lo ≤ a.hi) (hb : b.lo ≤ b.hi) :
    v.lo ≤ v.hi ∧ (((max a.t b.t ≠ 0 ∨ (9 ≤ op ∧ op ≤ 14)) ∧ (a.t = 0 → vaFits a (if max a.t b.t = 0 then 3 else max a.t b.t) = true) ∧ (b.t = 0 → vaFits b (if max a.t b.t = 0 then 3 else max a.t b.t) = true)) ∨ (¬ (9 ≤ op ∧ op ≤ 14) ∧ max a.t b.t = 0 ∧ v = ⟨0, min a.lo b.lo, max a.hi b.hi⟩)) := by
  unfold twoV at h
  by_cases hc1 : max a.t b.t ≠ 0 ∧ a.t ≠ b.t ∧ ((a.t ≠ 0 ∧ b.t ≠ 0) ∨ whole (max a.t b.t) = false)
  · rw [if_pos hc1] at h
    injection h with _ h
    omega
  · rw [if_neg hc1] at h
    by_cases hc2 : (result op (if max a.t b.t = 0 then 3 else max a.t b.t)).2 ≠ 0 ∨ (two op (if max a.t b.t = 0 then 3 else max a.t b.t) 1 1).2 ≠ 0
    · rw [if_pos hc2] at h
      injection h with _ h
      omega
    · rw [if_neg hc2] at h
      have hr2 : (result op (if max a.t b.t = 0 then 3 else max a.t b.t)).2 = 0 := by
        by_cases h0 : (result op (if max a.t b.t = 0 then 3 else max a.t b.t)).2 = 0
        · exact h0
        · exact absurd (Or.inl h0) hc2
      clear hc2 hc1
      by_cases hc3 : max a.t b.t = 0 ∧ (result op (if max a.t b.t = 0 then 3 else max a.t b.t)).1 ≠ 1
      · rw [if_pos hc3] at h
        injection h with h _
        have hnt : ¬ (9 ≤ op ∧ op ≤ 14) := by
          intro h'
          apply hc3.2
          rw [result_val hr2, if_pos ((truth_iff op).2 h')]
        refine ⟨?_, .inr ⟨hnt, hc3.1, h.symm⟩⟩
        rw [← h]
        show min a.lo b.lo ≤ max a.hi b.hi
        omega
      · rw [if_neg hc3] at h
        by_cases hc4 : (a.t = 0 ∧ vaFits a (if max a.t b.t = 0 then 3 else max a.t b.t) = false) ∨ (b.t = 0 ∧ vaFits b (if max a.t b.t = 0 then 3 else max a.t b.t) = false)
        · rw [if_pos hc4] at h
          injection h with _ h
          omega
        · rw [if_neg hc4] at h
          injection h with h _
          refine ⟨by rw [← h]; exact Int.le_refl 0, .inl ⟨?_, ?_, ?_⟩⟩
          · by_cases hm : max a.t b.t = 0
            · right
              refine (truth_iff op).1 ?_
              cases hh : truthOf op with
              | true => rfl
              | false =>
                refine absurd ⟨hm, ?_⟩ hc3
                rw [result_val hr2, hh, if_neg (by simp), if_pos hm]
                decide
            · exact .inl hm
          · intro h0
            cases hh : vaFits a (if max a.t b.t = 0 then 3 else max a.t b.t) with
            | true => rfl
            | false => exact absurd (Or.inl ⟨h0, hh⟩) hc4
          · intro h0
            cases hh : vaFits b (if max a.t b.t = 0 then 3 else max a.t b.t) with
            | true => rfl
            | false => exact absurd (Or.inr ⟨h0, hh⟩) hc4
theorem two_whole {op : Int} {a b v : Va} (h : twoV op a b = (v, 0)) (ha : 0 ≤ a.t) (hb : 0 ≤ b.t) (hm : max a.t b.t ≠ 0) : (a.t = 0 → (max a.t b.t = 2 ∨ max a.t b.t = 3)) ∧ (b.t = 0 → (max a.t b.t = 2 ∨ max a.t b.t = 3)) := by
  unfold twoV at h
  by_cases hc1 : max a.t b.t ≠ 0 ∧ a.t ≠ b.t ∧ ((a.t ≠ 0 ∧ b.t ≠ 0) ∨ whole (max a.t b.t) = false)
  · rw [if_pos hc1] at h
    injection h with _ h
    omega
  · clear h
    have hw : a.t ≠ b.t → (max a.t b.t = 2 ∨ max a.t b.t = 3) ∨ (a.t ≠ 0 ∧ b.t ≠ 0) := by
      intro hab
      by_cases hw : whole (max a.t b.t) = true
      · left
        unfold whole at hw
        simpa using hw
      · exact absurd ⟨hm, hab, Or.inr (by simpa using hw)⟩ hc1
    constructor
    · intro h0
      rcases hw (by omega) with h | h
      · exact h
      · omega
    · intro h0
      rcases hw (by omega) with h | h
      · exact h
      · omega
theorem counts_ok {v : Va} (h : countsV v true = 0) : v.t = 0 → vaFits v 3 = true := by
  intro h0
  unfold countsV at h
  cases hh : vaFits v 3 with
  | true => rfl
  | false =>
    rw [if_pos ⟨h0, hh⟩] at h
    omega
theorem vaFits_sub {t : Int} {a b : Va} (h : vaFits b t = true) (h1 : b.lo ≤ a.lo) (h2 : a.lo ≤ a.hi) (h3 : a.hi ≤ b.hi) : vaFits a t = true := by
  unfold vaFits at *
  rw [Bool.and_eq_true] at *
  exact ⟨fits_mid h.1 h.2 h1 (by omega), fits_mid h.1 h.2 (by omega) h3⟩
theorem ask_fit : ∀ (T : Ex) (t : Int) (v : Va), T.Ok → T.Plain → (∀ p ∈ T.flat, mayP p = true) → T.flat.length ≤ 500 → depX T ≤ 24 → valX [] T = .ok v →
    v.lo ≤ v.hi ∧ ((v.t = 0 → (t = 2 ∨ t = 3) ∧ vaFits v t = true) → FitX (askX [] t T))
  | .leaf p, t, v, ho, hp, hm, _, _, hv => by
    rw [valX] at hv
    have h := step_ok hv
    have hk : p.k = 1 := hp
    rw [Go.Proofs.YtenjkplijblcoaaGreatDoor.partV_1 _ _ _ hk] at h
    rw [askX]
    by_cases ht : p.t = 0
    · rw [if_pos ht] at h
      injection h with h _
      subst h
      rw [if_pos ⟨hk, ht⟩]
      refine ⟨Int.le_refl _, fun h => ?_⟩
      have h1 := (h rfl).2
      unfold vaFits at h1
      rw [Bool.and_eq_true] at h1
      exact h1.1
    · rw [if_neg ht] at h
      injection h with h _
      subst h
      rw [if_neg (fun h' => ht h'.2)]
      refine ⟨Int.le_refl _, fun _ => ?_⟩
      have hm' := hm p (by simp [Ex.flat])
      unfold mayP at hm'
      rw [if_pos hk] at hm'
      simp only [Bool.and_eq_true, Bool.or_eq_true] at hm'
      rcases hm'.1 with h | h
      · exact h
      · have := h.1.1
        simp at this
        exact absurd this ht
  | .un p a, t, v, ho, hp, hm, hl, hd, hv => by
    obtain ⟨h1, h2⟩ := ho
    obtain ⟨h3, h4⟩ := hp
    have hd' : depX a ≤ 24 := by rw [depX] at hd; omega
    have hl' : a.flat.length ≤ 500 := by rw [Ex.flat, List.length_append] at hl; omega
    have hm' : ∀ q ∈ a.flat, mayP q = true := fun q hq => hm q (by simp [Ex.flat, hq])
    rw [valX] at hv
    cases hva : valX [] a with
    | error e => rw [hva] at hv; cases hv
    | ok va =>
      rw [hva] at hv
      have h := step_ok hv
      rcases takes1 h1 h3 with h6 | h5
      · rw [Go.Proofs.YtenjkplijblcoaaGreatDoor.partV_6 _ _ _ h6] at h
        injection h with h hcv
        subst h
        simp only [List.getD_cons_zero] at hcv
        rw [askX, if_neg h3, if_pos h6]
        refine ⟨Int.le_refl _, fun _ => ?_⟩
        exact (ask_fit a 3 va h2 h4 hm' hl' hd' hva).2 (fun h0 => ⟨.inr rfl, counts_ok hcv h0⟩)
      · rw [Go.Proofs.YtenjkplijblcoaaGreatDoor.partV_51 _ _ _ h5 rfl] at h
        have hvv : v = va := by
          simp only [List.getD_cons_zero] at h
          unfold oneV at h
          by_cases hc : (one p.n (if va.t = 0 then 3 else va.t) 1).2 ≠ 0
          · rw [if_pos hc] at h
            injection h with _ h
            omega
          · rw [if_neg hc] at h
            injection h with h _
            exact h.symm
        subst hvv
        rw [askX, if_neg h3, if_neg (by omega)]
        exact ask_fit a t v h2 h4 hm' hl' hd' hva
  | .bin p a b, t, v, ho, hp, hm, hl, hd, hv => by
    obtain ⟨h1, h2, h3⟩ := ho
    obtain ⟨h4, h5⟩ := hp
    have hk := takes2 h1
    have hda : depX a ≤ 24 := by rw [depX] at hd; omega
    have hdb : depX b ≤ 24 := by rw [depX] at hd; omega
    have hla : a.flat.length ≤ 500 := by rw [Ex.flat, List.length_append, List.length_append] at hl; omega
    have hlb : b.flat.length ≤ 500 := by rw [Ex.flat, List.length_append, List.length_append] at hl; omega
    have hma : ∀ q ∈ a.flat, mayP q = true := fun q hq => hm q (by simp [Ex.flat, hq])
    have hmb : ∀ q ∈ b.flat, mayP q = true := fun q hq => hm q (by simp [Ex.flat, hq])
    rw [valX] at hv
    cases hva : valX [] a with
    | error e => rw [hva] at hv; cases hv
    | ok va =>
      rw [hva] at hv
      simp only at hv
      cases hvb : valX [] b with
      | error e => rw [hvb] at hv; cases hv
      | ok vb =>
        rw [hvb] at hv
        have h := step_ok hv
        rw [Go.Proofs.YtenjkplijblcoaaGreatDoor.partV_52 _ _ _ hk (by simp)] at h
        simp only [List.getD_cons_zero, List.getD_cons_succ] at h
        have hka := kind_tree wrong_nil h2 ((checkX_tree h2).2 ⟨hla, hda, hma⟩) hva
        have hkb := kind_tree wrong_nil h3 ((checkX_tree h3).2 ⟨hlb, hdb, hmb⟩) hvb
        obtain ⟨ra, fa⟩ := ask_fit a (if max va.t vb.t = 0 then (if 9 ≤ p.n then 3 else t) else max va.t vb.t) va h2 h4 hma hla hda hva
        obtain ⟨rb, fb⟩ := ask_fit b (if max va.t vb.t = 0 then (if 9 ≤ p.n then 3 else t) else max va.t vb.t) vb h3 h5 hmb hlb hdb hvb
        have ta := (ask_ty a t va h2 h4 hma hla hda hva).1
        have tb := (ask_ty b t vb h3 h5 hmb hlb hdb hvb).1
        obtain ⟨hr, hc⟩ := two_rng h ra rb
        rw [askX, hka, hkb]
        refine ⟨hr, fun hf => ?_⟩
        show FitX _ ∧ FitX _
        by_cases hm0 : max va.t vb.t = 0
        · rw [if_pos hm0] at fa fb hc ⊢
          rcases hc with ⟨h9, ca, cb⟩ | ⟨hn9, _, hv'⟩
          · have h9' : 9 ≤ p.n := by
              rcases h9 with h | h
              · exact absurd hm0 h
              · exact h.1
            rw [if_pos h9'] at fa fb ⊢
            exact ⟨fa (fun h0 => ⟨.inr rfl, ca h0⟩), fb (fun h0 => ⟨.inr rfl, cb h0⟩)⟩
          · have hn15 : p.n < 15 := by
              unfold takesT at h1
              split at h1
              · omega
              · rename_i hh
                omega
            rw [if_neg (by omega)] at fa fb ⊢
            rw [hv'] at hf
            obtain ⟨f1, f2⟩ := hf rfl
            exact ⟨fa (fun _ => ⟨f1, vaFits_sub f2 (by show min va.lo vb.lo ≤ _; omega) ra (by show _ ≤ max va.hi vb.hi; omega)⟩),
              fb (fun _ => ⟨f1, vaFits_sub f2 (by show min va.lo vb.lo ≤ _; omega) rb (by show _ ≤ max va.hi vb.hi; omega)⟩)⟩
        · rw [if_neg hm0] at fa fb hc ⊢
          obtain ⟨w1, w2⟩ := two_whole h ta tb hm0
          rcases hc with ⟨_, ca, cb⟩ | ⟨_, h0, _⟩
          · exact ⟨fa (fun h0 => ⟨w1 h0, ca h0⟩), fb (fun h0 => ⟨w2 h0, cb h0⟩)⟩
          · exact absurd h0 hm0
end Cap

/- What an expression without names is worth, and the law of two put together, plainly. -/
namespace Cap
open Go Go.RowKit

/-- The tree of parts, one behind the other. -/
def treeTop (p : Prt) : List Ex → Ex
  | [a] => .un p a
  | [a, b] => .bin p a b
  | _ => .leaf p
def treeStep (p : Prt) (st : List Ex) : List Ex := st.take (st.length - takesT p) ++ [treeTop p (st.drop (st.length - takesT p))]
def treeGo : List Prt → List Ex → List Ex
  | [], st => st
  | p :: r, st => treeGo r (treeStep p st)
def treeL (x : List Prt) : Ex := (treeGo x []).headD (.leaf (numP 0 0))
theorem treeStep_at {p : Prt} {st l : List Ex} (h : l.length = takesT p) : treeStep p (st ++ l) = st ++ [treeTop p l] := by
  unfold treeStep
  have hm : (st ++ l).length - takesT p = st.length := by rw [List.length_append]; omega
  rw [hm, List.drop_left, List.take_left]
theorem treeGo_flat : ∀ (T : Ex) (r : List Prt) (st : List Ex), T.Ok → treeGo (T.flat ++ r) st = treeGo r (st ++ [T])
  | .leaf p, r, st, hT => by
    have h := treeStep_at (p := p) (st := st) (l := []) (by rw [hT]; rfl)
    rw [List.append_nil] at h
    show treeGo r (treeStep p st) = _
    rw [h]
    rfl
  | .un p a, r, st, hT => by
    obtain ⟨h1, h2⟩ := hT
    rw [Ex.flat, List.append_assoc, treeGo_flat a _ _ h2]
    show treeGo r (treeStep p _) = _
    rw [treeStep_at (l := [a]) (by rw [h1]; rfl)]
    rfl
  | .bin p a b, r, st, hT => by
    obtain ⟨h1, h2, h3⟩ := hT
    rw [Ex.flat, List.append_assoc, List.append_assoc, treeGo_flat a _ _ h2, treeGo_flat b _ _ h3]
    have e : st ++ [a] ++ [b] = st ++ [a, b] := by simp
    show treeGo r (treeStep p _) = _
    rw [e, treeStep_at (l := [a, b]) (by rw [h1]; rfl)]
    rfl
theorem treeL_flat {T : Ex} (h : T.Ok) : treeL T.flat = T := by
  have h' := treeGo_flat T [] [] h
  rw [List.append_nil] at h'
  unfold treeL
  rw [h']
  rfl
/-- What may be is a tree. -/
theorem tree_in {x : List Prt} (h : checkX x = 0) : (treeL x).Ok ∧ (treeL x).flat = x := by
  obtain ⟨h1, h2, h3⟩ := Go.Proofs.YtenjkplijblcoaaGreatDoor.checkX_ok h
  have hd : ∃ d, depthGo x [] = some [d] := by
    have hn : depthL x ≠ 0 := by
      intro h0
      rw [checkX, if_neg (by omega), if_pos (.inl h0)] at h
      omega
    unfold depthL at hn
    split at hn
    · rename_i d hd
      exact ⟨d, hd⟩
    · exact absurd rfl hn
  obtain ⟨d, hd⟩ := hd
  obtain ⟨T, hT1, hT2⟩ := Go.Proofs.YtenjkplijblcoaaGreatDoor.tree_of x [] [] d hd rfl (fun T hT => by simp at hT) (fun p hp => Go.Proofs.YtenjkplijblcoaaGreatDoor.takesT_E (h3 p hp))
  rw [List.flatMap_nil, List.nil_append] at hT2
  rw [← hT2, treeL_flat hT1]
  exact ⟨hT1, rfl⟩
/-- Has a part a name? -/
def namedP (p : Prt) : Bool := !p.s.toList.isEmpty
/-- fold.Value. -/
def valueX (x : List Prt) (t : Int) : Int × Int :=
  if checkX x ≠ 0 then (0, checkX x) else if x.any namedP = true then (0, 90) else if fitsX [] x t ≠ 0 then (0, fitsX [] x t)
  else if 1 < (foldX (askX [] t (treeL x))).length then (0, 41) else (((foldX (askX [] t (treeL x))).getD 0 (numP 0 0)).n, 0)
theorem word_full {s : ByteArray} (h : isWord s = true) : s.toList.isEmpty = false := by
  unfold isWord at h
  simp only [Bool.and_eq_true, Bool.not_eq_true'] at h
  exact h.1.1.1
theorem name_full {s : ByteArray} (h : isName s = true) : s.toList.isEmpty = false := by
  unfold isName at h
  rw [Bool.and_eq_true] at h
  exact word_full h.1
theorem may_k {p : Prt} (h : mayP p = true) (hn : namedP p = false) : p.k = 1 ∨ p.k = 5 ∨ p.k = 6 := by
  unfold mayP at h
  unfold namedP at hn
  by_cases h1 : p.k = 1
  · exact .inl h1
  · rw [if_neg h1] at h
    by_cases h2 : p.k = 2 ∨ p.k = 3
    · rw [if_pos h2, Bool.and_eq_true] at h
      rw [name_full h.1] at hn
      cases hn
    · rw [if_neg h2] at h
      by_cases h4 : p.k = 4
      · rw [if_pos h4, Bool.and_eq_true, Bool.and_eq_true] at h
        rw [name_full h.1.1] at hn
        cases hn
      · rw [if_neg h4] at h
        by_cases h5 : p.k = 5
        · exact .inr (.inl h5)
        · rw [if_neg h5] at h
          simp only [Bool.and_eq_true, beq_iff_eq] at h
          exact .inr (.inr h.1.1.1)
theorem plain_of : ∀ T : Ex, T.Ok → (∀ p ∈ T.flat, mayP p = true) → (∀ p ∈ T.flat, namedP p = false) → T.Plain
  | .leaf p, ho, hm, hn => by
    have h0 : takesT p = 0 := ho
    have hk := may_k (hm p (by simp [Ex.flat])) (hn p (by simp [Ex.flat]))
    show p.k = 1
    rcases hk with h | h | h
    · exact h
    · unfold takesT at h0
      split at h0
      · omega
      · omega
    · unfold takesT at h0
      rw [if_pos (.inr (.inl h))] at h0
      omega
  | .un p a, ho, hm, hn => by
    have hk := may_k (hm p (by simp [Ex.flat])) (hn p (by simp [Ex.flat]))
    exact ⟨by omega, plain_of a ho.2 (fun q hq => hm q (by simp [Ex.flat, hq])) (fun q hq => hn q (by simp [Ex.flat, hq]))⟩
  | .bin p a b, ho, hm, hn => ⟨plain_of a ho.2.1 (fun q hq => hm q (by simp [Ex.flat, hq])) (fun q hq => hn q (by simp [Ex.flat, hq])), plain_of b ho.2.2 (fun q hq => hm q (by simp [Ex.flat, hq])) (fun q hq => hn q (by simp [Ex.flat, hq]))⟩
theorem ask_ok (vars : List Vr) : ∀ (T : Ex) (t : Int), T.Ok → (askX vars t T).Ok
  | .leaf p, t, h => by
    have h0 : takesT p = 0 := h
    rw [askX]
    split
    · rename_i hc
      show takesT _ = 0
      unfold takesT at *
      simp only
      exact h0
    · exact h
  | .un p a, t, h => by
    rw [askX]
    exact ⟨h.1, ask_ok vars a _ h.2⟩
  | .bin p a b, t, h => by
    rw [askX]
    exact ⟨h.1, ask_ok vars a _ h.2.1, ask_ok vars b _ h.2.2⟩
theorem ask_plain (vars : List Vr) : ∀ (T : Ex) (t : Int), T.Plain → (askX vars t T).Plain
  | .leaf p, t, h => by
    have h0 : p.k = 1 := h
    rw [askX]
    split
    · exact h0
    · exact h
  | .un p a, t, h => by
    rw [askX]
    exact ⟨h.1, ask_plain vars a _ h.2⟩
  | .bin p a b, t, h => by
    rw [askX]
    exact ⟨ask_plain vars a _ h.1, ask_plain vars b _ h.2⟩
theorem counts_41 (v : Va) (b : Bool) : countsV v b ≠ 41 := by
  unfold countsV
  split
  · decide
  · split
    · decide
    · decide
theorem ite_41 {c : Prop} [Decidable c] {a b : Va × Int} (ha : a.2 ≠ 41) (hb : b.2 ≠ 41) : (if c then a else b).2 ≠ 41 := by
  split
  · exact ha
  · exact hb
theorem p41 {v : Va} {e : Int} (h : e ≠ 41) : ((v, e) : Va × Int).2 ≠ 41 := h
theorem part_41 (vars : List Vr) (p : Prt) (l : List Va) : (partV vars p l).2 ≠ 41 := by
  unfold partV
  refine ite_41 (p41 (by decide)) (ite_41 (p41 (by decide)) (ite_41 (counts_41 _ _) (ite_41 ?_ (ite_41 ?_ ?_))))
  · unfold oneV
    exact ite_41 (p41 (by decide)) (p41 (by decide))
  · unfold twoV
    exact ite_41 (p41 (by decide)) (ite_41 (p41 (by decide)) (ite_41 (p41 (by decide)) (ite_41 (p41 (by decide)) (p41 (by decide)))))
  · unfold namedV
    cases findV vars p.s with
    | none => exact p41 (by decide)
    | some v =>
      refine ite_41 (p41 (by decide)) (ite_41 (counts_41 _ _) (ite_41 ?_ (p41 (by decide))))
      cases findF (fieldsOf (v.ty - 100)) p.f with
      | none => exact p41 (by decide)
      | some f => exact p41 (by decide)
theorem step_err {vars : List Vr} {p : Prt} {l : List Va} {e : Int} (h : stepX vars p l = .error e) : e ≠ 0 ∧ e ≠ 41 := by
  unfold stepX at h
  by_cases hq : (partV vars p l).2 ≠ 0
  · rw [if_pos hq] at h
    injection h with h
    rw [← h]
    exact ⟨hq, part_41 _ _ _⟩
  · rw [if_neg hq] at h
    cases h
theorem val_err {vars : List Vr} : ∀ (T : Ex) (e : Int), valX vars T = .error e → e ≠ 0 ∧ e ≠ 41
  | .leaf p, e, h => by
    rw [valX] at h
    exact step_err h
  | .un p a, e, h => by
    rw [valX] at h
    cases ha : valX vars a with
    | error e' =>
      rw [ha] at h
      injection h with h
      rw [← h]
      exact val_err a e' ha
    | ok v =>
      rw [ha] at h
      exact step_err h
  | .bin p a b, e, h => by
    rw [valX] at h
    cases ha : valX vars a with
    | error e' =>
      rw [ha] at h
      injection h with h
      rw [← h]
      exact val_err a e' ha
    | ok v =>
      rw [ha] at h
      simp only at h
      cases hb : valX vars b with
      | error e' =>
        rw [hb] at h
        injection h with h
        rw [← h]
        exact val_err b e' hb
      | ok v' =>
        rw [hb] at h
        exact step_err h
/-- What is worth something. -/
theorem value_in {x : List Prt} {a : Int} (h : valueX x 3 = (a, 0)) : (treeL x).Ok ∧ (treeL x).flat = x ∧ (∀ p ∈ x, mayP p = true) ∧ (∀ p ∈ x, namedP p = false) ∧
    ∃ v, valX [] (treeL x) = .ok v ∧ (v.t = 0 ∨ v.t = 3) ∧ (reckV [] x).1.t = v.t ∧ ∃ q, foldX (askX [] 3 (treeL x)) = [q] ∧ q.k = 1 ∧ q.t = 3 ∧ q.n = a ∧ fits 3 a = true := by
  unfold valueX at h
  by_cases hc : checkX x ≠ 0
  · rw [if_pos hc] at h
    injection h with _ h
    exact absurd h hc
  · rw [if_neg hc] at h
    have hc0 : checkX x = 0 := by simpa using hc
    by_cases hn : x.any namedP = true
    · rw [if_pos hn] at h
      injection h with _ h
      omega
    · rw [if_neg hn] at h
      have hn0 : ∀ p ∈ x, namedP p = false := by
        intro p hp
        cases hh : namedP p with
        | false => rfl
        | true => exact absurd (List.any_eq_true.2 ⟨p, hp, hh⟩) hn
      by_cases hf : fitsX [] x 3 ≠ 0
      · rw [if_pos hf] at h
        injection h with _ h
        exact absurd h hf
      · rw [if_neg hf] at h
        have hf0 : fitsX [] x 3 = 0 := by simpa using hf
        obtain ⟨T1, T2⟩ := tree_in hc0
        have hmay := (Go.Proofs.YtenjkplijblcoaaGreatDoor.checkX_ok hc0).2.2
        have hct := hc0
        rw [← T2] at hct
        have hct' := (checkX_tree T1).1 hct
        have hpl := plain_of (treeL x) T1 (by rw [T2]; exact hmay) (by rw [T2]; exact hn0)
        refine ⟨T1, T2, hmay, hn0, ?_⟩
        have hrv : reckV [] x = match valX [] (treeL x) with
            | .error e => (plainV 0, e)
            | .ok v => if v.t ≠ 0 ∨ vaFits v 3 = true then (v, 0) else (plainV 0, 1) := by
          conv => lhs; rw [← T2]
          rw [reckV, if_neg (by simp [wrong_nil]), if_neg (by rw [T2]; simp [hc0]), reckGo_tree _ T1]
          cases valX [] (treeL x) <;> rfl
        cases hv : valX [] (treeL x) with
        | error e =>
          rw [hv] at hrv
          rw [fitsX, hrv] at hf0
          have he : e ≠ 0 := (val_err _ e hv).1
          rw [if_pos he] at hf0
          exact absurd hf0 he
        | ok v =>
          rw [hv] at hrv
          simp only at hrv
          by_cases hvt : v.t ≠ 0 ∨ vaFits v 3 = true
          · rw [if_pos hvt] at hrv
            rw [fitsX, hrv, if_neg (by simp)] at hf0
            simp only at hf0
            obtain ⟨k0, k1, k2⟩ := ask_ty (treeL x) 3 v T1 hpl hct'.2.2 hct'.1 hct'.2.1 hv
            obtain ⟨r1, r2⟩ := ask_fit (treeL x) 3 v T1 hpl hct'.2.2 hct'.1 hct'.2.1 hv
            have hcase : (v.t = 0 ∧ vaFits v 3 = true) ∨ v.t = 3 := by
              by_cases h0 : v.t = 0
              · rcases hvt with h' | h'
                · exact absurd h0 h'
                · exact .inl ⟨h0, h'⟩
              · right
                by_cases h3 : v.t = 3
                · exact h3
                · rw [if_neg (fun h' => h3 h'.1), if_pos (.inl h0)] at hf0
                  omega
            have hty : tyX (askX [] 3 (treeL x)) = 3 := by
              rcases hcase with ⟨h0, _⟩ | h3
              · exact k2 h0 (.inr rfl)
              · rw [k1 (by omega), h3]
            have hfit : FitX (askX [] 3 (treeL x)) := r2 (fun h0 => ⟨.inr rfl, by
              rcases hcase with ⟨_, h'⟩ | h'
              · exact h'
              · omega⟩)
            refine ⟨v, rfl, by rcases hcase with ⟨h', _⟩ | h'; exact .inl h'; exact .inr h', by rw [hrv], ?_⟩
            have hok := ask_ok [] (treeL x) 3 T1
            have hne := foldX_ne hok
            by_cases hlen : 1 < (foldX (askX [] 3 (treeL x))).length
            · rw [if_pos hlen] at h
              injection h with _ h
              omega
            · rw [if_neg hlen] at h
              cases hq : foldX (askX [] 3 (treeL x)) with
              | nil => exact absurd hq hne
              | cons q r =>
                rw [hq] at hlen h
                have hr : r = [] := by
                  cases r with
                  | nil => rfl
                  | cons _ _ => simp at hlen
                subst hr
                injection h with h _
                obtain ⟨i1, i2⟩ := foldX_one _ q hok (ask_plain [] _ _ hpl) hq
                have i3 := foldX_fit _ q hok (ask_plain [] _ _ hpl) hfit hq
                have hqt : q.t = 3 := by rw [i2, hty]
                have hqn : q.n = a := h
                exact ⟨q, rfl, i1, hqt, hqn, by rw [← hqt, ← hqn]; exact i3⟩
          · rw [if_neg hvt] at hrv
            rw [fitsX, hrv, if_pos (by simp)] at hf0
            simp at hf0
theorem checkX_41 (x : List Prt) : checkX x ≠ 41 := by
  unfold checkX
  split
  · decide
  · split <;> decide
theorem fits_41 {T : Ex} (h : T.Ok) (t : Int) : fitsX [] T.flat t ≠ 41 := by
  have hr : (reckV [] T.flat).2 ≠ 41 := by
    rw [reckV, if_neg (by simp [wrong_nil])]
    split
    · exact checkX_41 _
    · rw [reckGo_tree T h]
      cases hv : valX [] T with
      | error e => exact (val_err T e hv).2
      | ok v =>
        simp only [List.getD_cons_zero]
        split <;> simp
  unfold fitsX
  split
  · exact hr
  · split
    · decide
    · split
      · decide
      · split <;> decide
theorem any_flat {p : Prt} {A B : Ex} (f : Prt → Bool) (ha : ∀ q ∈ A.flat, f q = false) (hb : ∀ q ∈ B.flat, f q = false) (hp : f p = false) : (Ex.bin p A B).flat.any f = false := by
  rw [Bool.eq_false_iff]
  intro h
  rw [List.any_eq_true] at h
  obtain ⟨q, hq, hf⟩ := h
  rw [Ex.flat, List.mem_append, List.mem_append, List.mem_singleton] at hq
  rcases hq with (hq | hq) | hq
  · rw [ha q hq] at hf; cases hf
  · rw [hb q hq] at hf; cases hf
  · rw [hq, hp] at hf; cases hf
/-- An operation, as a part. -/
def opP (k : Int) : Prt := ⟨5, k, 0, ⟨#[]⟩, ⟨#[]⟩⟩
theorem named_op (k : Int) : namedP (opP k) = false := by
  show (!(⟨#[]⟩ : ByteArray).toList.isEmpty) = false
  rw [ByteArray.toList_eq]
  rfl
theorem two_err {k a b : Int} (hk : (two k 3 1 1).2 = 0) (ha : fits 3 a = true) (hb : fits 3 b = true) (h : (two k 3 a b).2 ≠ 0) : two k 3 a b = (0, 41) := by
  unfold two does at *
  by_cases h1 : isOp k = false
  · rw [if_pos h1] at hk; simp at hk
  · rw [if_neg h1] at *
    by_cases h2 : (oneOf k == false) = false
    · rw [if_pos h2] at hk; simp at hk
    · rw [if_neg h2] at *
      by_cases h3 : hasK (kindsOf k) 3 = false
      · rw [if_pos h3] at hk; simp at hk
      · rw [if_neg h3, if_neg (by rw [ha]; simp), if_neg (by rw [hb]; simp)] at h ⊢
        by_cases h6 : (k = 4 ∨ k = 5) ∧ b = 0
        · rw [if_pos h6]
        · rw [if_neg h6] at h
          split at h
          · simp at h
          · simp at h
/-- Two that are put together by an operation fold to what it makes of theirs. -/
theorem one_law {x y : List Prt} {a b k : Int} (h1 : 1 ≤ k) (h8 : k ≤ 8) (hx : valueX x 3 = (a, 0)) (hy : valueX y 3 = (b, 0)) :
    (valueX (x ++ y ++ [opP k]) 3).2 ≠ 0 ∧ (valueX (x ++ y ++ [opP k]) 3).2 ≠ 41 ∧ (valueX (x ++ y ++ [opP k]) 3).1 = 0 ∨
    fits 3 a = true ∧ valueX (x ++ y ++ [opP k]) 3 = two k 3 a b := by
  obtain ⟨o1, e1, m1, n1, v1, hv1, c1, r1, q1, f1, i1, t1, w1, ft1⟩ := value_in hx
  obtain ⟨o2, e2, m2, n2, v2, hv2, c2, r2, q2, f2, i2, t2, w2, ft2⟩ := value_in hy
  generalize treeL x = X at *
  generalize treeL y = Y at *
  subst e1 e2
  have ht2 : takesT (opP k) = 2 := by
    unfold takesT opP
    simp only
    rw [if_neg (by omega), if_pos trivial]
  have hok : (Ex.bin (opP k) X Y).Ok := ⟨ht2, o1, o2⟩
  show (valueX (Ex.bin (opP k) X Y).flat 3).2 ≠ 0 ∧ (valueX (Ex.bin (opP k) X Y).flat 3).2 ≠ 41 ∧ (valueX (Ex.bin (opP k) X Y).flat 3).1 = 0 ∨
    fits 3 a = true ∧ valueX (Ex.bin (opP k) X Y).flat 3 = two k 3 a b
  unfold valueX
  by_cases hc : checkX (Ex.bin (opP k) X Y).flat ≠ 0
  · left
    rw [if_pos hc]
    exact ⟨hc, checkX_41 _, rfl⟩
  · rw [if_neg hc, if_neg (by rw [any_flat namedP n1 n2 (named_op k)]; simp)]
    have hc0 : checkX (Ex.bin (opP k) X Y).flat = 0 := by simpa using hc
    by_cases hf : fitsX [] (Ex.bin (opP k) X Y).flat 3 ≠ 0
    · left
      rw [if_pos hf]
      exact ⟨hf, fits_41 hok 3, rfl⟩
    · right
      rw [if_neg hf, treeL_flat hok]
      refine ⟨ft1, ?_⟩
      have hf0 : fitsX [] (Ex.bin (opP k) X Y).flat 3 = 0 := by simpa using hf
      have hval : ∃ v, valX [] (Ex.bin (opP k) X Y) = .ok v := by
        cases hv : valX [] (Ex.bin (opP k) X Y) with
        | ok v => exact ⟨v, rfl⟩
        | error e =>
          rw [fitsX, reckV, if_neg (c := wrongV [] ≠ 0) (by simp [wrong_nil]), if_neg (c := checkX _ ≠ 0) (by simp [hc0]), reckGo_tree _ hok, hv] at hf0
          simp only at hf0
          rw [if_pos (val_err _ e hv).1] at hf0
          exact absurd hf0 (val_err _ e hv).1
      obtain ⟨v, hv⟩ := hval
      rw [valX, hv1] at hv
      simp only at hv
      rw [hv2] at hv
      have h := step_ok hv
      rw [Go.Proofs.YtenjkplijblcoaaGreatDoor.partV_52 _ _ _ (show (opP k).k = 5 from rfl) (by simp)] at h
      simp only [List.getD_cons_zero, List.getD_cons_succ] at h
      have hk11 : (result k 3).2 = 0 ∧ (two k 3 1 1).2 = 0 := by
        have hmax : (if max v1.t v2.t = 0 then 3 else max v1.t v2.t) = 3 := by
          split <;> omega
        unfold twoV at h
        rw [hmax] at h
        by_cases hc1 : max v1.t v2.t ≠ 0 ∧ v1.t ≠ v2.t ∧ ((v1.t ≠ 0 ∧ v2.t ≠ 0) ∨ whole (max v1.t v2.t) = false)
        · rw [if_pos hc1] at h
          injection h with _ h
          omega
        · rw [if_neg hc1] at h
          by_cases hc2 : (result (opP k).n 3).2 ≠ 0 ∨ (two (opP k).n 3 1 1).2 ≠ 0
          · rw [if_pos hc2] at h
            injection h with _ h
            omega
          · have hc2 : ¬ ((result k 3).2 ≠ 0 ∨ (two k 3 1 1).2 ≠ 0) := hc2
            omega
      have hask : askX [] 3 (Ex.bin (opP k) X Y) = Ex.bin (opP k) (askX [] 3 X) (askX [] 3 Y) := by
        rw [askX, r1, r2]
        have hn9 : ¬ 9 ≤ (opP k).n := by
          show ¬ 9 ≤ k
          omega
        have e3 : (if max v1.t v2.t = 0 then (if 9 ≤ (opP k).n then 3 else 3) else max v1.t v2.t) = 3 := by
          rw [if_neg hn9]
          split
          · rfl
          · omega
        simp only [e3]
      have hfold : foldX (askX [] 3 (Ex.bin (opP k) X Y)) = if (two k 3 a b).2 = 0 then [numP (two k 3 a b).1 (result k 3).1] else [q1, q2, opP k] := by
        rw [hask, foldX, f1, f2]
        have hrp : reckP (opP k) [q1, q2] = (numP (two k 3 a b).1 (result k 3).1, (two k 3 a b).2 == 0) := by
          unfold reckP
          rw [if_neg (by show ¬ (5 : Int) = 6; decide), if_neg (by simp), if_pos (show (opP k).k = 5 from rfl)]
          simp only [List.getD_cons_zero, List.getD_cons_succ, t1, w1, w2]
          rfl
        simp only [hrp, i1, i2, true_and, beq_iff_eq]
      rw [hfold]
      by_cases h0 : (two k 3 a b).2 = 0
      · rw [if_pos h0]
        simp only [List.length_singleton, Nat.lt_irrefl, if_false, List.getD_cons_zero]
        rw [← h0]
        rfl
      · rw [if_neg h0, if_pos (by simp), two_err hk11.2 ft1 ft2 h0]
end Cap

/- Where the values that a part works on begin, plainly. -/
namespace Cap
open Go Go.RowKit

/-- Where each value that waits begins, ahead of a part. -/
def stackAt (x : List Prt) : Nat → List Int
  | 0 => []
  | i + 1 => match x[i]? with
    | some p => (stackAt x i).take ((stackAt x i).length - takesT p) ++ [((stackAt x i).drop ((stackAt x i).length - takesT p)).headD (i : Int)]
    | none => stackAt x i
/-- What a part is handed. -/
def valsAt (x : List Prt) (i : Nat) : List Int := match x[i]? with
  | some p => (stackAt x i).drop ((stackAt x i).length - takesT p)
  | none => []
/-- Each part has as many values as it takes. -/
def FlatOk (x : List Prt) : Prop := ∀ i p, x[i]? = some p → takesT p ≤ (stackAt x i).length
theorem stackAt_len (x : List Prt) : ∀ i, (stackAt x i).length ≤ i
  | 0 => Nat.le_refl _
  | i + 1 => by
    have ih := stackAt_len x i
    rw [stackAt]
    split
    · rw [List.length_append, List.length_take]
      simp
      omega
    · omega
/-- An expression lies in others from a place on. -/
def LiesAt (x : List Prt) (i : Nat) (T : Ex) : Prop := ∀ j p, T.flat[j]? = some p → x[i + j]? = some p
theorem flat_pos : ∀ T : Ex, 0 < T.flat.length
  | .leaf p => by simp [Ex.flat]
  | .un p a => by rw [Ex.flat, List.length_append, List.length_singleton]; omega
  | .bin p a b => by rw [Ex.flat, List.length_append, List.length_singleton]; omega
theorem LiesAt.un {x : List Prt} {i : Nat} {p : Prt} {a : Ex} (h : LiesAt x i (.un p a)) : LiesAt x i a ∧ x[i + a.flat.length]? = some p := by
  refine ⟨fun j q hq => h j q ?_, h a.flat.length p ?_⟩
  · have hj := (List.getElem?_eq_some_iff.1 hq).1
    rw [Ex.flat, List.getElem?_append_left hj]
    exact hq
  · rw [Ex.flat]
    simp
theorem LiesAt.bin {x : List Prt} {i : Nat} {p : Prt} {a b : Ex} (h : LiesAt x i (.bin p a b)) : LiesAt x i a ∧ LiesAt x (i + a.flat.length) b ∧ x[i + a.flat.length + b.flat.length]? = some p := by
  refine ⟨fun j q hq => h j q ?_, fun j q hq => ?_, ?_⟩
  · have hj := (List.getElem?_eq_some_iff.1 hq).1
    rw [Ex.flat, List.append_assoc, List.getElem?_append_left hj]
    exact hq
  · have hj := (List.getElem?_eq_some_iff.1 hq).1
    have := h (a.flat.length + j) q (by rw [Ex.flat, List.append_assoc, List.getElem?_append_right (by omega), show a.flat.length + j - a.flat.length = j by omega, List.getElem?_append_left hj]; exact hq)
    rw [← this]
    congr 1
    omega
  · have := h (a.flat.length + b.flat.length) p (by rw [Ex.flat, List.getElem?_append_right (by simp)]; simp)
    rw [← this]
    congr 1
    omega
theorem stackAt_step {x : List Prt} {i : Nat} {p : Prt} (h : x[i]? = some p) (S l : List Int) (hs : stackAt x i = S ++ l) (hl : l.length = takesT p) : stackAt x (i + 1) = S ++ [l.headD (i : Int)] ∧ valsAt x i = l := by
  have hm : (S ++ l).length - takesT p = S.length := by rw [List.length_append]; omega
  constructor
  · rw [stackAt, h]
    simp only
    rw [hs, hm, List.take_left, List.drop_left]
  · rw [valsAt, h]
    simp only
    rw [hs, hm, List.drop_left]
/-- Behind an expression one value more waits: it begins where the expression does. -/
theorem stackAt_tree (x : List Prt) : ∀ (T : Ex) (i : Nat), T.Ok → LiesAt x i T → stackAt x (i + T.flat.length) = stackAt x i ++ [(i : Int)] ∧ ∀ j p, i ≤ j → j < i + T.flat.length → x[j]? = some p → takesT p ≤ (stackAt x j).length
  | .leaf p, i, ho, h => by
    have h0 : takesT p = 0 := ho
    have hp : x[i]? = some p := h 0 p rfl
    have hs := stackAt_step hp (stackAt x i) [] (by simp) (by rw [h0]; rfl)
    refine ⟨hs.1, fun j q h1 h2 hq => ?_⟩
    obtain rfl : j = i := by simp [Ex.flat] at h2; omega
    rw [hp] at hq
    injection hq with hq
    subst hq
    omega
  | .un p a, i, ho, h => by
    obtain ⟨h1, h2⟩ := h.un
    obtain ⟨s1, s2⟩ := stackAt_tree x a i ho.2 h1
    have hs := stackAt_step h2 (stackAt x i) [(i : Int)] s1 (by rw [ho.1]; rfl)
    have hl : (Ex.un p a).flat.length = a.flat.length + 1 := by simp [Ex.flat]
    rw [hl]
    refine ⟨hs.1, fun j q h1 h3 hq => ?_⟩
    by_cases hj : j < i + a.flat.length
    · exact s2 j q h1 hj hq
    · obtain rfl : j = i + a.flat.length := by omega
      rw [h2] at hq
      injection hq with hq
      subst hq
      rw [s1, ho.1]
      simp
  | .bin p a b, i, ho, h => by
    obtain ⟨h1, h2, h3⟩ := h.bin
    obtain ⟨s1, s2⟩ := stackAt_tree x a i ho.2.1 h1
    obtain ⟨t1, t2⟩ := stackAt_tree x b (i + a.flat.length) ho.2.2 h2
    rw [s1, List.append_assoc] at t1
    have hs := stackAt_step h3 (stackAt x i) _ t1 (by rw [ho.1]; rfl)
    have hl : (Ex.bin p a b).flat.length = a.flat.length + b.flat.length + 1 := by rw [Ex.flat, List.length_append, List.length_append, List.length_singleton]
    rw [hl, show i + (a.flat.length + b.flat.length + 1) = i + a.flat.length + b.flat.length + 1 by omega]
    refine ⟨hs.1, fun j q h4 h5 hq => ?_⟩
    by_cases hj : j < i + a.flat.length
    · exact s2 j q h4 hj hq
    · by_cases hj' : j < i + a.flat.length + b.flat.length
      · exact t2 j q (by omega) hj' hq
      · obtain rfl : j = i + a.flat.length + b.flat.length := by omega
        rw [h3] at hq
        injection hq with hq
        subst hq
        rw [t1, ho.1]
        simp
theorem flatOk_tree {T : Ex} (h : T.Ok) : FlatOk T.flat := fun i p hp =>
  (stackAt_tree T.flat T 0 h (fun j q hq => by rw [Nat.zero_add]; exact hq)).2 i p (Nat.zero_le _) (by have := (List.getElem?_eq_some_iff.1 hp).1; omega) hp
/-- What the last part of an expression is handed. -/
theorem valsAt_un {x : List Prt} {i : Nat} {p : Prt} {a : Ex} (ho : (Ex.un p a).Ok) (h : LiesAt x i (.un p a)) : valsAt x (i + a.flat.length) = [(i : Int)] := by
  obtain ⟨h1, h2⟩ := h.un
  obtain ⟨s1, s2⟩ := stackAt_tree x a i ho.2 h1
  exact (stackAt_step h2 (stackAt x i) [(i : Int)] s1 (by rw [ho.1]; rfl)).2
theorem valsAt_bin {x : List Prt} {i : Nat} {p : Prt} {a b : Ex} (ho : (Ex.bin p a b).Ok) (h : LiesAt x i (.bin p a b)) : valsAt x (i + a.flat.length + b.flat.length) = [(i : Int), ((i + a.flat.length : Nat) : Int)] := by
  obtain ⟨h1, h2, h3⟩ := h.bin
  obtain ⟨s1, s2⟩ := stackAt_tree x a i ho.2.1 h1
  obtain ⟨t1, t2⟩ := stackAt_tree x b (i + a.flat.length) ho.2.2 h2
  rw [s1, List.append_assoc] at t1
  exact (stackAt_step h3 (stackAt x i) _ t1 (by rw [ho.1]; rfl)).2
theorem valsAt_leaf {x : List Prt} {i : Nat} {p : Prt} (ho : (Ex.leaf p).Ok) (h : LiesAt x i (.leaf p)) : valsAt x i = [] := by
  have h0 : takesT p = 0 := ho
  exact (stackAt_step (h 0 p rfl) (stackAt x i) [] (by simp) (by rw [h0]; rfl)).2
end Cap

/- The chapter's examples of folding, plainly. -/
namespace Cap
open Go Go.RowKit

theorem noS_e : noS ⟨#[]⟩ = true := by
  unfold noS
  rw [ByteArray.toList_eq]
  first | rfl | kernel_rfl
def varP (s : ByteArray) : Prt := ⟨2, 0, 0, s, ⟨#[]⟩⟩
def toP (t : Int) : Prt := ⟨6, 0, t, ⟨#[]⟩, ⟨#[]⟩⟩
theorem may_numP (n : Int) (h : -2147483648 ≤ n) (h' : n ≤ 2147483648) : mayP (numP n 0) = true := by
  unfold mayP numP
  simp only [noS_e]
  simp [h, h']
theorem may_opP (k : Int) (h : 1 ≤ k) (h' : k ≤ 16) : mayP (opP k) = true := by
  unfold mayP opP
  simp only [noS_e]
  simp [h, h']
theorem may_toP (t : Int) (h : 2 ≤ t) (h' : t ≤ 4) : mayP (toP t) = true := by
  unfold mayP toP
  simp only [noS_e]
  simp [h, h']
theorem may_varP (s : ByteArray) (h : isName s = true) : mayP (varP s) = true := by
  unfold mayP varP
  simp only [noS_e, h]
  simp
def nameN : ByteArray := ⟨#[78]⟩
def nameD : ByteArray := ⟨#[68]⟩
theorem isN : isName nameN = true := by
  unfold isName isWord nameN
  rw [ByteArray.toList_eq]
  kernel_rfl
theorem isD : isName nameD = true := by
  unfold isName isWord nameD
  rw [ByteArray.toList_eq]
  kernel_rfl
def worksV : List Vr := [⟨nameN, 2, 0, 0, 0⟩, ⟨nameD, 3, 0, 0, 0⟩]
theorem works_wrong : wrongV worksV = 0 := by
  have h1 : mayV ⟨nameN, 2, 0, 0, 0⟩ = true := by unfold mayV; simp only [isN]; kernel_rfl
  have h2 : mayV ⟨nameD, 3, 0, 0, 0⟩ = true := by unfold mayV; simp only [isD]; kernel_rfl
  unfold wrongV worksV
  simp [h1, h2]
theorem find_N : findV worksV nameN = some ⟨nameN, 2, 0, 0, 0⟩ := by
  unfold worksV findV
  rw [if_pos (by simp)]
theorem find_D : findV worksV nameD = some ⟨nameD, 3, 0, 0, 0⟩ := by
  unfold worksV
  rw [findV, if_neg (by simp only [ByteArray.toList_eq]; decide), findV, if_pos (by simp)]
/-- What an expression is, of a tree. -/
theorem reckV_tree {vars : List Vr} (hw : wrongV vars = 0) {T : Ex} (hT : T.Ok) (hc : checkX T.flat = 0) {v : Va} (hv : valX vars T = .ok v) : reckV vars T.flat = if v.t ≠ 0 ∨ vaFits v 3 = true then (v, 0) else (plainV 0, 1) := by
  rw [reckV, if_neg (by simp [hw]), if_neg (by simp [hc]), reckGo_tree T hT, hv]
  simp only [List.getD_cons_zero]
theorem askX_bin {vars : List Vr} {t ka kb k : Int} {p : Prt} {A B : Ex} (hA : (reckV vars A.flat).1.t = ka) (hB : (reckV vars B.flat).1.t = kb) (hk : (if max ka kb = 0 then (if 9 ≤ p.n then 3 else t) else max ka kb) = k) : askX vars t (.bin p A B) = .bin p (askX vars k A) (askX vars k B) := by
  rw [askX, hA, hB]
  simp only [hk]
theorem kind_of {vars : List Vr} (hw : wrongV vars = 0) {T : Ex} (hT : T.Ok) (hc : checkX T.flat = 0) {v : Va} (hv : valX vars T = .ok v) : (reckV vars T.flat).1.t = v.t := kind_tree hw hT hc hv
theorem check_of {T : Ex} (hT : T.Ok) (hl : T.flat.length ≤ 500) (hd : depX T ≤ 24) (hm : ∀ p ∈ T.flat, mayP p = true) : checkX T.flat = 0 := (checkX_tree hT).2 ⟨hl, hd, hm⟩
/-! ### the first -/
def T1 : Ex := .bin (opP 1) (.leaf (varP nameN)) (.leaf (numP 1 0))
theorem T1_ok : T1.Ok := ⟨rfl, rfl, rfl⟩
theorem T1_check : checkX T1.flat = 0 := check_of T1_ok (by decide) (by decide) (fun p hp => by
  simp [T1, Ex.flat] at hp
  rcases hp with rfl | rfl | rfl
  · exact may_varP _ isN
  · exact may_numP _ (by decide) (by decide)
  · exact may_opP _ (by decide) (by decide))
theorem val_varN : valX worksV (.leaf (varP nameN)) = .ok (plainV 2) := by
  have h : partV worksV (varP nameN) [] = (plainV 2, 0) := by
    unfold partV
    rw [if_neg (by decide), if_neg (by decide), if_neg (by decide), if_neg (by decide), if_neg (by decide)]
    unfold namedV
    rw [show (varP nameN).s = nameN from rfl, find_N]
    first | rfl | kernel_rfl
  rw [valX, stepX, h]
  first | rfl | kernel_rfl
theorem val_varD : valX worksV (.leaf (varP nameD)) = .ok (plainV 3) := by
  have h : partV worksV (varP nameD) [] = (plainV 3, 0) := by
    unfold partV
    rw [if_neg (by decide), if_neg (by decide), if_neg (by decide), if_neg (by decide), if_neg (by decide)]
    unfold namedV
    rw [show (varP nameD).s = nameD from rfl, find_D]
    first | rfl | kernel_rfl
  rw [valX, stepX, h]
  first | rfl | kernel_rfl
theorem val_T1 : valX worksV T1 = .ok (plainV 2) := by
  rw [T1, valX, val_varN]
  first | rfl | kernel_rfl
theorem fits_T1 : fitsX worksV T1.flat 2 = 0 := by
  rw [fitsX, reckV_tree works_wrong T1_ok T1_check val_T1]
  first | rfl | kernel_rfl
theorem leaf_check {p : Prt} (h : takesT p = 0) (hm : mayP p = true) : checkX (Ex.leaf p).flat = 0 := check_of (T := .leaf p) h (by simp [Ex.flat]) (by simp [depX]) (fun q hq => by
  simp [Ex.flat] at hq
  rw [hq]
  exact hm)
theorem num_reck (n : Int) (h : -2147483648 ≤ n) (h' : n ≤ 2147483647) : (reckV worksV (Ex.leaf (numP n 0)).flat).1.t = 0 := by
  rw [reckV_tree works_wrong (T := .leaf (numP n 0)) rfl (leaf_check rfl (may_numP _ h (by omega))) (v := ⟨0, n, n⟩) (by rfl)]
  split <;> rfl
theorem ask_T1 : (askX worksV 2 T1).flat = [varP nameN, numP 1 2, opP 1] := by
  rw [T1, askX_bin (ka := 2) (kb := 0) (k := 2) (kind_of works_wrong (T := .leaf (varP nameN)) rfl (leaf_check rfl (may_varP _ isN)) val_varN) (num_reck 1 (by decide) (by decide)) (by kernel_rfl)]
  first | rfl | kernel_rfl
/-! ### the second -/
def T2m : Ex := .bin (opP 3) (.leaf (numP 2 0)) (.leaf (numP 3 0))
def T2t : Ex := .un (toP 3) T2m
def T2 : Ex := .bin (opP 1) T2t (.leaf (varP nameD))
theorem T2m_ok : T2m.Ok := ⟨rfl, rfl, rfl⟩
theorem T2t_ok : T2t.Ok := ⟨rfl, T2m_ok⟩
theorem T2_ok : T2.Ok := ⟨rfl, T2t_ok, rfl⟩
theorem T2_may : ∀ p ∈ T2.flat, mayP p = true := fun p hp => by
  simp [T2, T2t, T2m, Ex.flat] at hp
  rcases hp with rfl | rfl | rfl | rfl | rfl | rfl
  · exact may_numP _ (by decide) (by decide)
  · exact may_numP _ (by decide) (by decide)
  · exact may_opP _ (by decide) (by decide)
  · exact may_toP _ (by decide) (by decide)
  · exact may_varP _ isD
  · exact may_opP _ (by decide) (by decide)
theorem T2_check : checkX T2.flat = 0 := check_of T2_ok (by decide) (by decide) T2_may
theorem T2t_check : checkX T2t.flat = 0 := check_of T2t_ok (by decide) (by decide) (fun p hp => T2_may p (by rw [T2, Ex.flat]; simp [hp]))
theorem val_T2t : valX worksV T2t = .ok (plainV 3) := by kernel_rfl
theorem val_T2 : valX worksV T2 = .ok (plainV 3) := by
  rw [T2, valX, val_T2t, val_varD]
  first | rfl | kernel_rfl
theorem fits_T2 : fitsX worksV T2.flat 3 = 0 := by
  rw [fitsX, reckV_tree works_wrong T2_ok T2_check val_T2]
  first | rfl | kernel_rfl
theorem fold_T2 : foldX (askX worksV 3 T2) = [numP 6 3, varP nameD, opP 1] := by
  have hm : askX worksV 3 T2m = .bin (opP 3) (.leaf (numP 2 3)) (.leaf (numP 3 3)) := by
    rw [T2m, askX_bin (k := 3) (num_reck 2 (by decide) (by decide)) (num_reck 3 (by decide) (by decide)) (by kernel_rfl)]
    first | rfl | kernel_rfl
  rw [T2, askX_bin (ka := 3) (kb := 3) (k := 3) (kind_of works_wrong T2t_ok T2t_check val_T2t) (kind_of works_wrong (T := .leaf (varP nameD)) rfl (leaf_check rfl (may_varP _ isD)) val_varD) (by kernel_rfl)]
  have ht : askX worksV 3 T2t = .un (toP 3) (.bin (opP 3) (.leaf (numP 2 3)) (.leaf (numP 3 3))) := by
    rw [T2t, askX]
    show Ex.un (toP 3) (askX worksV 3 T2m) = _
    rw [hm]
  have hd : askX worksV 3 (.leaf (varP nameD)) = .leaf (varP nameD) := by kernel_rfl
  have hf : foldX (.bin (opP 1) (.un (toP 3) (.bin (opP 3) (.leaf (numP 2 3)) (.leaf (numP 3 3)))) (.leaf (varP nameD))) = [numP 6 3, varP nameD, opP 1] := by kernel_rfl
  rw [ht, hd, hf]
/-! ### the third and the fourth -/
def T3 : Ex := .bin (opP 4) (.leaf (numP 7 0)) (.leaf (numP 0 0))
def T4a : Ex := .bin (opP 1) (.leaf (numP 1 0)) (.leaf (numP 2 0))
def T4 : Ex := .bin (opP 11) T4a (.leaf (numP 4 0))
theorem T3_ok : T3.Ok := ⟨rfl, rfl, rfl⟩
theorem T4a_ok : T4a.Ok := ⟨rfl, rfl, rfl⟩
theorem T4_ok : T4.Ok := ⟨rfl, T4a_ok, rfl⟩
theorem T3_check : checkX T3.flat = 0 := check_of T3_ok (by decide) (by decide) (fun p hp => by
  simp [T3, Ex.flat] at hp
  rcases hp with rfl | rfl | rfl
  · exact may_numP _ (by decide) (by decide)
  · exact may_numP _ (by decide) (by decide)
  · exact may_opP _ (by decide) (by decide))
theorem T4_may : ∀ p ∈ T4.flat, mayP p = true := fun p hp => by
  simp [T4, T4a, Ex.flat] at hp
  rcases hp with rfl | rfl | rfl | rfl | rfl
  · exact may_numP _ (by decide) (by decide)
  · exact may_numP _ (by decide) (by decide)
  · exact may_opP _ (by decide) (by decide)
  · exact may_numP _ (by decide) (by decide)
  · exact may_opP _ (by decide) (by decide)
theorem T4_check : checkX T4.flat = 0 := check_of T4_ok (by decide) (by decide) T4_may
theorem T4a_check : checkX T4a.flat = 0 := check_of T4a_ok (by decide) (by decide) (fun p hp => T4_may p (by rw [T4, Ex.flat]; simp [hp]))
theorem named_num (n : Int) : namedP (numP n 0) = false := by
  show (!(⟨#[]⟩ : ByteArray).toList.isEmpty) = false
  rw [ByteArray.toList_eq]
  first | rfl | kernel_rfl
theorem reck0 (n : Int) (h : -2147483648 ≤ n) (h' : n ≤ 2147483647) : (reckV [] (Ex.leaf (numP n 0)).flat).1.t = 0 := by
  rw [reckV_tree wrong_nil (T := .leaf (numP n 0)) rfl (leaf_check rfl (may_numP _ h (by omega))) (v := ⟨0, n, n⟩) (by rfl)]
  split <;> rfl
theorem value_T3 : valueX T3.flat 2 = (0, 41) := by
  have ha : askX [] 2 T3 = .bin (opP 4) (.leaf (numP 7 2)) (.leaf (numP 0 2)) := by
    rw [T3, askX_bin (k := 2) (reck0 7 (by decide) (by decide)) (reck0 0 (by decide) (by decide)) (by kernel_rfl)]
    first | rfl | kernel_rfl
  have hf : fitsX [] T3.flat 2 = 0 := by
    rw [fitsX, reckV_tree wrong_nil T3_ok T3_check (v := ⟨0, 0, 7⟩) (by kernel_rfl)]
    first | rfl | kernel_rfl
  rw [valueX, if_neg (by simp [T3_check]), if_neg (by simp [T3, Ex.flat, named_num, named_op]), if_neg (by simp [hf]), treeL_flat T3_ok, ha]
  first | rfl | kernel_rfl
theorem value_T4 : valueX T4.flat 1 = (1, 0) := by
  have ha : askX [] 1 T4 = .bin (opP 11) (.bin (opP 1) (.leaf (numP 1 3)) (.leaf (numP 2 3))) (.leaf (numP 4 3)) := by
    rw [T4, askX_bin (ka := 0) (k := 3) (kind_of wrong_nil T4a_ok T4a_check (v := ⟨0, 1, 2⟩) (by kernel_rfl)) (reck0 4 (by decide) (by decide)) (by kernel_rfl), T4a, askX_bin (k := 3) (reck0 1 (by decide) (by decide)) (reck0 2 (by decide) (by decide)) (by kernel_rfl)]
    first | rfl | kernel_rfl
  have hf : fitsX [] T4.flat 1 = 0 := by
    rw [fitsX, reckV_tree wrong_nil T4_ok T4_check (v := plainV 1) (by kernel_rfl)]
    first | rfl | kernel_rfl
  have hx : foldX (.bin (opP 11) (.bin (opP 1) (.leaf (numP 1 3)) (.leaf (numP 2 3))) (.leaf (numP 4 3))) = [numP 1 1] := by kernel_rfl
  rw [valueX, if_neg (by simp [T4_check]), if_neg (by simp [T4, T4a, Ex.flat, named_num, named_op]), if_neg (by simp [hf]), treeL_flat T4_ok, ha, hx]
  rfl
end Cap
