/- The document's answer for images and for their looks (packages capstanref04, 13, 15): plain functions, and that they are the program's. No program in sight. -/
import Derived.Test.YtefpgjocfgeenaaGreatDoorRefName
import Derived.Test.YtefpgjocfgeenaaGreatDoorDeadLaw
namespace Cap

/-! ### package capstanref04 -/
def hasR (op t many : Int) : Bool :=
  if known t = false then false
  else if many = 1 then (op == 15 && t != 1) || (op == 16 && t != 4)
  else if op = 1 ∨ op = 2 ∨ op = 11 ∨ op = 12 ∨ op = 13 ∨ op = 14 then t != 1
  else if op = 3 ∨ op = 4 ∨ op = 5 then t == 2 || t == 3
  else if op = 6 ∨ op = 7 ∨ op = 8 then t != 4
  else op == 9 || op == 10
theorem known_cases {t : Int} (h : known t = true) : ∃ j : Fin 5, t = (j.val : Int) := by
  simp only [known, Bool.and_eq_true, decide_eq_true_eq] at h
  exact ⟨⟨t.toNat, by omega⟩, by simp; omega⟩
theorem op_cases {n : Int} (h : isOp n = true) : ∃ j : Fin 17, n = (j.val : Int) := by
  simp only [isOp, Bool.and_eq_true, decide_eq_true_eq] at h
  exact ⟨⟨n.toNat, by omega⟩, by simp; omega⟩
theorem hasR_noop {op t many : Int} (h : isOp op = false) : hasR op t many = false := by
  simp only [isOp, Bool.and_eq_false_iff, decide_eq_false_iff_not] at h
  unfold hasR
  split
  · rfl
  · split
    · simp; omega
    · rw [if_neg (by omega), if_neg (by omega), if_neg (by omega)]
      simp; omega
theorem hasR_notype {op t many : Int} (h : known t = false) : hasR op t many = false := by
  unfold hasR
  rw [if_pos h]
theorem two_dec : ∀ (k : Fin 17) (j : Fin 5), hasR (k.val : Int) (j.val : Int) 2 = ((two (k.val : Int) (j.val : Int) 1 1).2 == 0) := by decide +kernel
theorem one_dec : ∀ (k : Fin 17) (j : Fin 5), hasR (k.val : Int) (j.val : Int) 1 = ((one (k.val : Int) (j.val : Int) 1).2 == 0) := by decide +kernel
theorem res_dec : ∀ (k : Fin 17) (j : Fin 5), (hasR (k.val : Int) (j.val : Int) 1 || hasR (k.val : Int) (j.val : Int) 2) = opHas (k.val : Int) (j.val : Int) := by decide +kernel
theorem does_noop {n t a b : Int} {o : Bool} (h : isOp n = false) : (does n t o a b).2 = 40 := by unfold does; rw [if_pos h]
theorem does_notype {n t a b : Int} {o : Bool} (h : known t = false) : (does n t o a b).2 = 40 := by
  have hk : hasK (kindsOf n) t = false := by unfold hasK; rw [h]; rfl
  unfold does
  split
  · rfl
  · split
    · rfl
    · first | rfl | (rw [if_pos hk])
theorem two_has (op t : Int) : ((two op t 1 1).2 == 0) = hasR op t 2 := by
  cases hn : isOp op with
  | false => rw [hasR_noop hn, two, does_noop hn]; rfl
  | true =>
    cases ht : known t with
    | false => rw [hasR_notype ht, two, does_notype ht]; rfl
    | true =>
      obtain ⟨k, rfl⟩ := op_cases hn
      obtain ⟨j, rfl⟩ := known_cases ht
      exact (two_dec k j).symm
theorem one_has (op t : Int) : ((one op t 1).2 == 0) = hasR op t 1 := by
  cases hn : isOp op with
  | false => rw [hasR_noop hn, one, does_noop hn]; rfl
  | true =>
    cases ht : known t with
    | false => rw [hasR_notype ht, one, does_notype ht]; rfl
    | true =>
      obtain ⟨k, rfl⟩ := op_cases hn
      obtain ⟨j, rfl⟩ := known_cases ht
      exact (one_dec k j).symm
theorem opHas_has (op t : Int) : opHas op t = (hasR op t 1 || hasR op t 2) := by
  cases hn : isOp op with
  | false => rw [hasR_noop hn, hasR_noop hn, opHas, hn]; rfl
  | true =>
    cases ht : known t with
    | false => rw [hasR_notype ht, hasR_notype ht, opHas, hasK, ht]; simp
    | true =>
      obtain ⟨k, rfl⟩ := op_cases hn
      obtain ⟨j, rfl⟩ := known_cases ht
      exact (res_dec k j).symm
def convR (a b : Int) : Bool := known a && known b && ((a == 1) == (b == 1))
theorem fits_zero {t : Int} (h : known t = true) : fits t 0 = true := by
  obtain ⟨j, rfl⟩ := known_cases h
  revert h
  revert j
  decide +kernel
theorem conv_eq (a b : Int) : ((numConvert a b 0).2 == 0) = convR a b := by
  unfold numConvert convR
  cases ha : known a with
  | false => simp
  | true =>
    cases hb : known b with
    | false => simp
    | true =>
      rw [fits_zero ha]
      cases hc : ((a == 1) == (b == 1)) <;> simp [hc]

/-! ### package capstanref13 -/
def sameR (x : Img) (a m : Int) : Bool := cellsOk x a m && ((x.types.drop a.toNat).take m.toNat).all (· == tyAt x a)
def mayR (x : Img) (i : Ins) : Bool :=
  if i.op ≠ 1 ∧ i.n ≠ 0 then false
  else if i.op = 1 then i.b == 0 && fits i.a i.n
  else if i.op = 2 ∨ i.op = 3 then i.b == 0 && sameR x i.a 1
  else if i.op = 4 ∨ i.op = 5 then decide (1 ≤ i.b) && decide (i.b ≤ 32) && sameR x i.a i.b
  else if i.op = 6 then hasR i.a i.b 2
  else if i.op = 7 then hasR i.a i.b 1
  else if i.op = 8 then convR i.a i.b
  else if i.op = 9 ∨ i.op = 10 then i.b == 0 && mayJump x i
  else if i.op = 11 then mayCall x i
  else if i.op = 12 then i.a == 0 && i.b == 0
  else false
theorem tyAt_head {x : Img} {a m : Int} (h : cellsOk x a m = true) (hm : 1 ≤ m) : (cellsOf x a m).headD 0 = tyAt x a := by
  simp only [cellsOf, h, if_true]
  simp only [cellsOk, Bool.and_eq_true, decide_eq_true_eq] at h
  unfold tyAt
  obtain ⟨q, hq⟩ : ∃ q, m.toNat = q + 1 := ⟨m.toNat - 1, by omega⟩
  have ha : a.toNat < x.types.length := by omega
  rw [hq, List.drop_eq_getElem_cons ha, List.take_succ_cons, List.headD_cons, List.getD_eq_getElem?_getD, List.getElem?_eq_getElem ha]
  rfl
theorem same_one (x : Img) (a : Int) : sameR x a 1 = cellsOk x a 1 := by
  unfold sameR
  cases h : cellsOk x a 1 with
  | false => rfl
  | true =>
    simp only [cellsOk, Bool.and_eq_true, decide_eq_true_eq] at h
    have ha : a.toNat < x.types.length := by omega
    rw [Bool.true_and, List.drop_eq_getElem_cons ha, show (1 : Int).toNat = 0 + 1 from rfl, List.take_succ_cons, List.take_zero]
    unfold tyAt
    rw [List.getD_eq_getElem?_getD, List.getElem?_eq_getElem ha]
    simp
theorem same_arr (x : Img) (i : Ins) : (decide (1 ≤ i.b) && decide (i.b ≤ 32) && sameR x i.a i.b) = mayArr x i := by
  unfold mayArr sameR
  by_cases h1 : 1 ≤ i.b
  · cases h : cellsOk x i.a i.b with
    | false => simp
    | true =>
      rw [tyAt_head h h1]
      simp only [cellsOf, h, if_true]
      generalize (List.drop i.a.toNat x.types).take i.b.toNat = l
      have e : l.all (· == tyAt x i.a) = !(l.any fun t => t != tyAt x i.a) := by
        induction l with
        | nil => rfl
        | cons c l ih => rw [List.all_cons, List.any_cons, ih]; cases hc : (c == tyAt x i.a) <;> simp [bne, hc]
      rw [e]
      simp
  · simp [h1]
theorem may_eq (x : Img) (i : Ins) : mayIns x i = mayR x i := by
  obtain ⟨op, a, b, n⟩ := i
  unfold mayIns mayR
  by_cases h0 : 1 ≤ op ∧ op ≤ 12
  · obtain ⟨k, hk⟩ : ∃ k : Nat, op = k := ⟨op.toNat, by omega⟩
    have hk' : k = 1 ∨ k = 2 ∨ k = 3 ∨ k = 4 ∨ k = 5 ∨ k = 6 ∨ k = 7 ∨ k = 8 ∨ k = 9 ∨ k = 10 ∨ k = 11 ∨ k = 12 := by omega
    clear h0
    subst hk
    rcases hk' with rfl | rfl | rfl | rfl | rfl | rfl | rfl | rfl | rfl | rfl | rfl | rfl
    · simp [ruleA, ruleB, ruleN, mayF]
    all_goals by_cases hn : n = 0
    all_goals simp [ruleA, ruleB, ruleN, mayF, hn, same_one, ← same_arr, two_has, one_has, conv_eq]
    all_goals (try (simp [Bool.and_comm]))
  · have h1 : (decide (1 ≤ op) && decide (op ≤ 12)) = false := by simp; omega
    simp only [h1, Bool.false_and]
    symm
    split
    · rfl
    · rw [if_neg (by omega), if_neg (by omega), if_neg (by omega), if_neg (by omega), if_neg (by omega), if_neg (by omega), if_neg (by omega), if_neg (by omega), if_neg (by omega)]
/-- Are these cells, none of them among these? -/
def endsR (n : Int) : List Int → List Int → Bool
  | _, [] => true
  | done, c :: r => if c < 0 then false else if n ≤ c then false else if done.contains c then false else endsR n (done ++ [c]) r
theorem ends_eq (n : Int) : ∀ (l done : List Int) (f : Int → Bool), (∀ d, f d = done.contains d) → endsOk n l f = endsR n done l
  | [], _, _, _ => rfl
  | c :: r, done, f, h => by
    rw [endsOk, endsR, h c]
    split
    · rfl
    · split
      · rfl
      · split
        · rfl
        · refine ends_eq n r _ _ fun d => ?_
          by_cases hd : d = c
          · subst hd; simp
          · rw [if_neg hd, h d]
            simp [hd]
def soundR (x : Img) : Bool :=
  isName x.name && (x.types.length == x.first.length) && decide (x.types.length ≤ 1024) && decide (1 ≤ x.code.length) && decide (x.code.length ≤ 4096) && (decide ((x.ins ++ x.outs).length ≤ x.types.length) && endsR x.types.length [] (x.ins ++ x.outs))
    && fitsAll x.types x.first
theorem sound_eq (x : Img) : isSound x = soundR x := by
  unfold isSound soundR
  rw [ends_eq x.types.length (x.ins ++ x.outs) [] (fun _ => false) (fun _ => by simp)]
  simp only [Bool.and_assoc]
  congr 6
  rw [Bool.and_comm]

/-! ### package capstanref15 -/
def wholeR (t : Int) : Bool := t == 2 || t == 3
/-- What an instruction takes, and leaves. -/
def takesR (x : Img) (i : Ins) : List Int × List Int :=
  if i.op = 1 then ([], [i.a]) else if i.op = 2 then ([], [tyAt x i.a]) else if i.op = 3 then ([tyAt x i.a], [])
  else if i.op = 4 then ([-1], [tyAt x i.a]) else if i.op = 5 then ([-1, tyAt x i.a], [])
  else if i.op = 6 then ([i.b, i.b], [(result i.a i.b).1]) else if i.op = 7 then ([i.b], [i.b]) else if i.op = 8 then ([i.a], [i.b])
  else if i.op = 10 then ([1], []) else ([], [])
/-- Does a value of the stack fit what is asked? -/
def okR (c t : Int) : Bool := if c = -1 then wholeR t else c == t
def stepR (x : Img) (i : Ins) (st : List Int) : Option (List Int) :=
  if st.length < (takesR x i).1.length then none
  else if eqP okR (takesR x i).1 (st.drop (st.length - (takesR x i).1.length)) = false then none
  else if 64 < (st.take (st.length - (takesR x i).1.length) ++ (takesR x i).2).length then none
  else some (st.take (st.length - (takesR x i).1.length) ++ (takesR x i).2)
theorem fitsAll_known : ∀ {ts ns : List Int}, ts.length = ns.length → fitsAll ts ns = true → ∀ t ∈ ts, known t = true
  | [], _, _, _, t, ht => by cases ht
  | u :: ts, [], h, _, _, _ => by simp at h
  | u :: ts, n :: ns, hl, h, t, ht => by
    rw [fitsAll, Bool.and_eq_true] at h
    rcases List.mem_cons.1 ht with rfl | ht
    · have := h.1
      unfold fits at this
      rw [Bool.and_eq_true] at this
      exact this.1
    · exact fitsAll_known (by simpa using hl) h.2 t ht
theorem tyAt_known {x : Img} (hs : isSound x = true) {a m : Int} (hc : cellsOk x a m = true) (hm : 1 ≤ m) : known (tyAt x a) = true := by
  simp only [isSound, Bool.and_eq_true, beq_iff_eq] at hs
  obtain ⟨⟨⟨⟨⟨⟨⟨_, h1⟩, _⟩, _⟩, _⟩, _⟩, h2⟩, _⟩ := hs
  simp only [cellsOk, Bool.and_eq_true, decide_eq_true_eq] at hc
  refine fitsAll_known h1 h2 _ ?_
  unfold tyAt
  rw [List.getD_eq_getElem?_getD, List.getElem?_eq_getElem (by omega)]
  exact List.getElem_mem _
theorem known_ne {t : Int} (h : known t = true) : t ≠ -1 := by
  intro e
  subst e
  exact absurd h (by decide)
theorem okR_eq {c t : Int} (h : c ≠ -1) : okR c t = anyEq [c] t := by
  unfold okR
  rw [if_neg h]
  simp [anyEq]
theorem okR_whole (t : Int) : okR (-1) t = anyEq [2, 3] t := by
  unfold okR wholeR
  rw [if_pos rfl]
  simp [anyEq, Bool.beq_comm]
theorem stepR_push (x : Img) (i : Ins) (st : List Int) (t : Int) (h : takesR x i = ([], [t])) (hl : st.length ≤ 64) : stepR x i st = pushS st t := by
  unfold stepR pushS
  rw [h]
  simp [eqP]
  by_cases e : st.length = 64
  · simp [e]
  · simp [e]; omega
theorem stepR_none (x : Img) (i : Ins) (st : List Int) (h : takesR x i = ([], [])) (hl : st.length ≤ 64) : stepR x i st = some st := by
  unfold stepR
  rw [h]
  simp [eqP]; omega
theorem stepR_take1 (x : Img) (i : Ins) (st : List Int) (c : Int) (of out : List Int) (h : takesR x i = ([c], out)) (ho : out.length ≤ 1) (hc : ∀ t, okR c t = anyEq of t) (hl : st.length ≤ 64) : stepR x i st = (popS st of).map (· ++ out) := by
  unfold stepR
  rw [h]
  rcases snoc_cases st with rfl | ⟨s, u, rfl⟩
  · simp [popS_nil]
  · have e1 : (s ++ [u]).length - ([c] : List Int).length = s.length := by simp
    simp only [e1, List.drop_left, List.take_left]
    rw [if_neg (by simp)]
    have e2 : eqP okR [c] [u] = anyEq of u := by simp [eqP, hc]
    rw [e2]
    have hs : s.length ≤ 63 := by simp at hl; omega
    cases ha : anyEq of u with
    | false => rw [popS_no ha]; rfl
    | true =>
      rw [popS_yes ha, if_neg (by simp), if_neg (by simp; omega)]
      rfl
theorem stepR_take2 (x : Img) (i : Ins) (st : List Int) (c d : Int) (of og out : List Int) (h : takesR x i = ([c, d], out)) (ho : out.length ≤ 1) (hc : ∀ t, okR c t = anyEq of t) (hd : ∀ t, okR d t = anyEq og t) (hl : st.length ≤ 64) :
    stepR x i st = (popS st og).bind fun s => (popS s of).map (· ++ out) := by
  unfold stepR
  rw [h]
  rcases snoc_cases st with rfl | ⟨s, u, rfl⟩
  · simp [popS_nil]
  · rcases snoc_cases s with rfl | ⟨s, v, rfl⟩
    · rw [if_pos (by simp)]
      cases ha : anyEq og u with
      | false => rw [popS_no ha]; rfl
      | true => rw [popS_yes ha]; simp [popS_nil]
    · have e1 : (s ++ [v] ++ [u]).length - ([c, d] : List Int).length = s.length := by simp
      have e0 : s ++ [v] ++ [u] = s ++ [v, u] := by simp
      simp only [e1]
      rw [if_neg (by simp), e0, List.drop_left, List.take_left, ← e0]
      have e2 : eqP okR [c, d] [v, u] = (anyEq of v && anyEq og u) := by simp [eqP, hc, hd]
      rw [e2]
      have hs : s.length ≤ 62 := by simp at hl; omega
      cases ha : anyEq og u with
      | false => rw [popS_no ha, Bool.and_false]; rfl
      | true =>
        rw [popS_yes ha, Bool.and_true]
        simp only [Option.bind_some]
        cases hb : anyEq of v with
        | false => rw [popS_no hb]; rfl
        | true => rw [popS_yes hb, if_neg (by simp), if_neg (by simp; omega)]; rfl
theorem popS_sub {st s of : List Int} (h : popS st of = some s) (hl : st.length ≤ 64) : s.length ≤ 63 := by
  rcases snoc_cases st with rfl | ⟨r, u, rfl⟩
  · rw [popS_nil] at h; cases h
  · cases ha : anyEq of u with
    | false => rw [popS_no ha] at h; cases h
    | true => rw [popS_yes ha] at h; injection h with h; subst h; simp at hl; omega
theorem pop_push {st of : List Int} {t : Int} (hl : st.length ≤ 64) : (popS st of).map (· ++ [t]) = (popS st of).bind fun s => pushS s t := by
  cases h : popS st of with
  | none => rfl
  | some s =>
    have := popS_sub h hl
    show some (s ++ [t]) = pushS s t
    rw [pushS_yes (by omega)]
theorem step_eq {x : Img} {i : Ins} {st : List Int} (hs : isSound x = true) (hm : mayIns x i = true) (hl : st.length ≤ 64) : stepS x i st = stepR x i st := by
  obtain ⟨op, a, b, n⟩ := i
  have hm' := hm
  simp only [mayIns, Bool.and_eq_true, decide_eq_true_eq] at hm
  obtain ⟨⟨⟨⟨⟨h1, h12⟩, _⟩, _⟩, _⟩, hf⟩ := hm
  obtain ⟨k, hk⟩ : ∃ k : Nat, op = k := ⟨op.toNat, by omega⟩
  have hk' : k = 1 ∨ k = 2 ∨ k = 3 ∨ k = 4 ∨ k = 5 ∨ k = 6 ∨ k = 7 ∨ k = 8 ∨ k = 9 ∨ k = 10 ∨ k = 11 ∨ k = 12 := by omega
  clear h1 h12
  subst hk
  rcases hk' with rfl | rfl | rfl | rfl | rfl | rfl | rfl | rfl | rfl | rfl | rfl | rfl
  · rw [stepR_push x _ st a rfl hl]; rfl
  · rw [stepR_push x _ st (tyAt x a) rfl hl]; rfl
  · have hc : cellsOk x a 1 = true := hf
    have hne := known_ne (tyAt_known hs hc (by decide))
    rw [stepR_take1 x _ st (tyAt x a) [tyAt x a] [] rfl (by simp) (fun t => okR_eq hne) hl]
    show popS st [tyAt x a] = _
    cases popS st [tyAt x a] <;> simp
  · rw [stepR_take1 x _ st (-1) [2, 3] [tyAt x a] rfl (by simp) okR_whole hl, pop_push hl]; rfl
  · have hc : mayArr x ⟨5, a, b, n⟩ = true := hf
    simp only [mayArr, Bool.and_eq_true, decide_eq_true_eq] at hc
    have hne := known_ne (tyAt_known hs hc.1.2 hc.1.1.1)
    rw [stepR_take2 x _ st (-1) (tyAt x a) [2, 3] [tyAt x a] [] rfl (by simp) okR_whole (fun t => okR_eq hne) hl]
    show ((popS st [tyAt x a]).bind fun s => popS s [2, 3]) = _
    cases popS st [tyAt x a] with
    | none => rfl
    | some s =>
      show popS s [2, 3] = (popS s [2, 3]).map _
      cases popS s [2, 3] <;> simp
  · have hb : b ≠ -1 := by
      have h2 : ((two a b 1 1).2 == 0) = true := hf
      rw [two_has] at h2
      intro e
      subst e
      rw [hasR_notype (by decide)] at h2
      cases h2
    rw [stepR_take2 x _ st b b [b] [b] [(result a b).1] rfl (by simp) (fun t => okR_eq hb) (fun t => okR_eq hb) hl]
    show ((popS st [b]).bind fun s => (popS s [b]).bind fun s => pushS s (result a b).1) = _
    cases h1 : popS st [b] with
    | none => rfl
    | some s =>
      have := popS_sub h1 hl
      simp only [Option.bind_some]
      rw [pop_push (by omega)]
  · have hb : b ≠ -1 := by
      have h2 : ((one a b 1).2 == 0) = true := hf
      rw [one_has] at h2
      intro e
      subst e
      rw [hasR_notype (by decide)] at h2
      cases h2
    rw [stepR_take1 x _ st b [b] [b] rfl (by simp) (fun t => okR_eq hb) hl, pop_push hl]; rfl
  · have ha : a ≠ -1 := by
      have h2 : ((numConvert a b 0).2 == 0) = true := hf
      rw [conv_eq] at h2
      simp only [convR, Bool.and_eq_true] at h2
      exact known_ne h2.1.1
    rw [stepR_take1 x _ st a [a] [b] rfl (by simp) (fun t => okR_eq ha) hl, pop_push hl]; rfl
  · rw [stepR_none x _ st rfl hl]; rfl
  · rw [stepR_take1 x _ st 1 [1] [] rfl (by simp) (fun t => okR_eq (by decide)) hl]
    show popS st [1] = _
    cases popS st [1] <;> simp
  · rw [stepR_none x _ st rfl hl]; rfl
  · rw [stepR_none x _ st rfl hl]; rfl

/-! ### The order in which what is reached is looked at -/
/-- Nothing is left to look at below a place. -/
def Clear (rs ds : List Bool) (k : Nat) : Prop := ∀ j, j < k → (ds.getD j false || !rs.getD j false) = true
/-- What is passed over. -/
theorem runL_skip {x : Img} {rs ds : List Bool} {ss : List (List Int)} {deep : Int} {k2 : Nat} (h : Clear rs ds k2) (h2 : k2 ≤ x.code.length) : ∀ (m g k : Nat), k2 - k = m → k ≤ k2 → left x.code.length ds k ≤ g →
    ∃ g', left x.code.length ds k2 ≤ g' ∧ runL x g rs ss deep ds k = runL x g' rs ss deep ds k2
  | 0, g, k, hm, hk, hg => by
    obtain rfl : k = k2 := by omega
    exact ⟨g, hg, rfl⟩
  | m + 1, g, k, hm, hk, hg => by
    obtain ⟨g1, rfl⟩ : ∃ g1, g = g1 + 1 := ⟨g - 1, by unfold left at hg; omega⟩
    obtain ⟨g', h1, h3⟩ := runL_skip (ss := ss) (deep := deep) h h2 m g1 (k + 1) (by omega) (by omega) (by unfold left at *; omega)
    refine ⟨g', h1, ?_⟩
    rw [runL, if_neg (by omega), if_pos (h k (by omega))]
    exact h3
theorem runL_end {x : Img} {rs ds : List Bool} {ss : List (List Int)} {deep : Int} (h : Clear rs ds x.code.length) : ∀ (g k : Nat), runL x g rs ss deep ds k = .ok (rs, ss, deep)
  | 0, _ => rfl
  | g + 1, k => by
    rw [runL]
    by_cases hk : x.code.length ≤ k
    · rw [if_pos hk]
    · rw [if_neg hk, if_pos (h k (by omega))]
      exact runL_end h g (k + 1)
/-- What an instruction goes on to is reached behind the place that comes next. -/
theorem tosL_new {n : Nat} {at_ : Int} {ds : List Bool} {st : List Int} : ∀ {l : List Int} {rs rs' : List Bool} {ss ss' : List (List Int)} {back back' : Int}, (∀ t ∈ l, 0 ≤ t) → tosL n at_ ds st l rs ss back = .ok (rs', ss', back') →
    back' ≤ back ∧ ∀ j : Nat, rs'.getD j false = true → rs.getD j false = true ∨ ds.getD j false = true ∨ back' ≤ j
  | [], _, _, _, _, _, _, _, h => by
    simp only [tosL] at h
    injection h with h; injection h with h1 h2; injection h2 with h2 h3
    subst h1 h2 h3
    exact ⟨Int.le_refl _, fun j hj => .inl hj⟩
  | t :: l, rs, rs', ss, ss', back, back', h0, h => by
    rw [tosL] at h
    split at h
    · cases h
    · split at h
      · cases h
      · rename_i rs1 ss1 hr
        obtain ⟨h1, h2⟩ := tosL_new (fun u hu => h0 u (by simp [hu])) h
        have ht := h0 t (by simp)
        have h3 : ∀ j, rs1.getD j false = true → rs.getD j false = true ∨ j = t.toNat := by
          intro j hj
          unfold reachS at hr
          split at hr
          · split at hr
            · injection hr with hr; injection hr with hr1 _; subst hr1; exact .inl hj
            · cases hr
          · injection hr with hr; injection hr with hr1 _; subst hr1
            by_cases e : j = t.toNat
            · exact .inr e
            · left
              rw [List.getD_eq_getElem?_getD, List.getElem?_set_ne (by omega)] at hj
              rw [List.getD_eq_getElem?_getD]
              exact hj
        cases hd : ds.getD t.toNat false with
        | true =>
          rw [hd, if_pos rfl] at h1
          refine ⟨h1, fun j hj => ?_⟩
          rcases h2 j hj with h4 | h4
          · rcases h3 j h4 with h5 | h5
            · exact .inl h5
            · subst h5; exact .inr (.inl hd)
          · exact .inr h4
        | false =>
          rw [hd, if_neg (by simp)] at h1
          refine ⟨by omega, fun j hj => ?_⟩
          rcases h2 j hj with h4 | h4
          · rcases h3 j h4 with h5 | h5
            · exact .inl h5
            · subst h5; right; right; omega
          · exact .inr h4
theorem clear_next {rs rs' ds : List Bool} {k : Nat} {n : Nat} {at_ : Int} {st : List Int} {l : List Int} {ss ss' : List (List Int)} {back' : Int} (h : Clear rs ds k) (hk : k < ds.length) (h0 : ∀ t ∈ l, 0 ≤ t)
    (ht : tosL n at_ (ds.set k true) st l rs ss (k + 1) = .ok (rs', ss', back')) : Clear rs' (ds.set k true) back'.toNat := by
  obtain ⟨h1, h2⟩ := tosL_new h0 ht
  intro j hj
  cases hr : rs'.getD j false with
  | false => simp
  | true =>
    rcases h2 j hr with h3 | h3 | h3
    · by_cases e : j = k
      · subst e
        rw [List.getD_eq_getElem?_getD, List.getElem?_set_self hk]
        rfl
      · have := h j (by omega)
        rw [h3] at this
        simp only [Bool.not_true, Bool.or_false] at this ⊢
        rw [List.getD_eq_getElem?_getD] at this ⊢
        rw [List.getElem?_set_ne (by omega)]
        exact this
    · rw [h3]; rfl
    · omega
end Cap
