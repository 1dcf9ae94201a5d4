/- Expressions as they are shown, and that what is shown is read as just that; plainly. -/
import Derived.Test.YtbnelgniekcjdaaGreatDoorCTreeD
import Derived.Test.YtbnelgniekcjdaaGreatDoorCEPLaw
import Derived.Test.YtbnelgniekcjdaaGreatDoorCSameP
set_option linter.unusedSimpArgs false
set_option linter.unusedVariables false
namespace Cap
open Go Go.RowKit

/-- A text as a token. -/
def tokOf (s : ByteArray) : Tok := ⟨if isWord s then 1 else 3, s, 0, 0, 0⟩
/-- What is shown, and whether it is an operation. -/
abbrev Sh := List Tok × Bool
def innerT (s : Sh) : List Tok := if s.2 = true then tokOf ⟨#[40]⟩ :: (s.1 ++ [tokOf ⟨#[41]⟩]) else s.1
def convB (t : Int) : ByteArray := if t = 2 then ⟨#[84, 79, 95, 73, 78, 84]⟩ else if t = 3 then ⟨#[84, 79, 95, 68, 73, 78, 84]⟩ else if t = 4 then ⟨#[84, 79, 95, 84, 73, 77, 69]⟩ else ⟨#[]⟩
def boolTxt (n : Int) : ByteArray := if n = 0 then ⟨#[70, 65, 76, 83, 69]⟩ else ⟨#[84, 82, 85, 69]⟩
/-- One part shown, of what it works on. -/
def showP (p : Prt) (top : List Sh) : Sh :=
  if p.k = 1 ∧ p.t = 1 then ([tokOf (boolTxt p.n)], false)
  else if p.k = 1 then ([⟨2, ⟨#[]⟩, p.n, p.t, 0⟩], false)
  else if p.k = 2 then ([tokOf p.s], false)
  else if p.k = 4 then ([tokOf p.s, tokOf ⟨#[46]⟩, tokOf p.f], false)
  else if p.k = 3 then (tokOf p.s :: tokOf ⟨#[91]⟩ :: ((top.getD 0 ([], false)).1 ++ [tokOf ⟨#[93]⟩]), false)
  else if p.k = 6 then (tokOf (convB p.t) :: tokOf ⟨#[40]⟩ :: ((top.getD 0 ([], false)).1 ++ [tokOf ⟨#[41]⟩]), false)
  else if takesE p = 1 then (tokOf (signAt p.n.toNat) :: innerT (top.getD 0 ([], false)), true)
  else (innerT (top.getD 0 ([], false)) ++ (tokOf (signAt p.n.toNat) :: innerT (top.getD 1 ([], false))), true)
def showStep (p : Prt) (st : List Sh) : List Sh := st.take (st.length - takesE p) ++ [showP p (st.drop (st.length - takesE p))]
def showGo : List Prt → List Sh → List Sh
  | [], st => st
  | p :: r, st => showGo r (showStep p st)
def showE : Ex → Sh
  | .leaf p => showP p []
  | .un p a => showP p [showE a]
  | .bin p a b => showP p [showE a, showE b]
/-- Parts shown. -/
def showL (x : List Prt) : List Tok := ((showGo x []).getD 0 ([], false)).1
theorem showStep_at {p : Prt} {st l : List Sh} (h : l.length = takesE p) : showStep p (st ++ l) = st ++ [showP p l] := by
  unfold showStep
  have hm : (st ++ l).length - takesE p = st.length := by rw [List.length_append]; omega
  rw [hm, List.drop_left, List.take_left]
theorem showGo_flat : ∀ (T : Ex) (r : List Prt) (st : List Sh), T.Ok → (∀ p ∈ T.flat, takesT p = takesE p) → showGo (T.flat ++ r) st = showGo r (st ++ [showE T])
  | .leaf p, r, st, hT, he => by
    have h0 : takesE p = 0 := by rw [← he p (by simp [Ex.flat])]; exact hT
    have h := showStep_at (p := p) (st := st) (l := []) (by rw [h0]; rfl)
    rw [List.append_nil] at h
    show showGo r (showStep p st) = _
    rw [h]
    rfl
  | .un p a, r, st, hT, he => by
    obtain ⟨h1, h2⟩ := hT
    have h0 : takesE p = 1 := by rw [← he p (by simp [Ex.flat])]; exact h1
    rw [Ex.flat, List.append_assoc, showGo_flat a _ _ h2 (fun q hq => he q (by simp [Ex.flat, hq]))]
    show showGo r (showStep p _) = _
    rw [showStep_at (l := [showE a]) (by rw [h0]; rfl)]
    rfl
  | .bin p a b, r, st, hT, he => by
    obtain ⟨h1, h2, h3⟩ := hT
    have h0 : takesE p = 2 := by rw [← he p (by simp [Ex.flat])]; exact h1
    rw [Ex.flat, List.append_assoc, List.append_assoc, showGo_flat a _ _ h2 (fun q hq => he q (by simp [Ex.flat, hq])), showGo_flat b _ _ h3 (fun q hq => he q (by simp [Ex.flat, hq]))]
    have e : st ++ [showE a] ++ [showE b] = st ++ [showE a, showE b] := by simp
    show showGo r (showStep p _) = _
    rw [e, showStep_at (l := [showE a, showE b]) (by rw [h0]; rfl)]
    rfl
/-! ### What may be -/
theorem noS_eq {s : ByteArray} (h : noS s = true) : s = ⟨#[]⟩ := by
  refine eqB_eq ?_
  unfold noS at h
  unfold eqB
  rw [List.isEmpty_iff] at h
  rw [h]
  kernel_rfl
theorem may_cases {p : Prt} (h : mayP p = true) : (∃ n t, (t = 1 → n = 0 ∨ n = 1) ∧ p = numP n t) ∨ (∃ s, isName s = true ∧ p = varP s) ∨ (∃ s, isName s = true ∧ p = indexP s) ∨ (∃ s f, isName s = true ∧ isWord f = true ∧ p = fieldP s f) ∨ (∃ n : Nat, 1 ≤ n ∧ n ≤ 16 ∧ p = opP n) ∨ ∃ t : Int, 2 ≤ t ∧ t ≤ 4 ∧ p = toP t := by
  obtain ⟨k, n, t, s, f⟩ := p
  unfold mayP at h
  simp only at h
  by_cases h1 : k = 1
  · rw [if_pos h1] at h
    simp only [Bool.and_eq_true] at h
    obtain ⟨h2, h3, h4⟩ := h
    subst h1
    refine .inl ⟨n, t, fun ht => ?_, by rw [noS_eq h3, noS_eq h4]; rfl⟩
    subst ht
    rcases Bool.or_eq_true _ _ ▸ h2 with h2 | h2
    · unfold fits at h2
      rw [Bool.and_eq_true, beq_iff_eq] at h2
      have h5 := h2.2
      unfold wrapT at h5
      simp at h5
      omega
    · simp at h2
  rw [if_neg h1] at h
  by_cases h2 : k = 2 ∨ k = 3
  · rw [if_pos h2] at h
    simp only [Bool.and_eq_true, beq_iff_eq] at h
    obtain ⟨h3, ⟨h4, h5⟩, h6⟩ := h
    subst h4 h5
    rcases h2 with rfl | rfl
    · exact .inr (.inl ⟨s, h3, by rw [noS_eq h6]; rfl⟩)
    · exact .inr (.inr (.inl ⟨s, h3, by rw [noS_eq h6]; rfl⟩))
  rw [if_neg h2] at h
  by_cases h4 : k = 4
  · rw [if_pos h4] at h
    simp only [Bool.and_eq_true, beq_iff_eq] at h
    obtain ⟨⟨h5, h6⟩, h7, h8⟩ := h
    subst h4 h7 h8
    exact .inr (.inr (.inr (.inl ⟨s, f, h5, h6, rfl⟩)))
  rw [if_neg h4] at h
  by_cases h5 : k = 5
  · rw [if_pos h5] at h
    simp only [Bool.and_eq_true, beq_iff_eq, decide_eq_true_eq] at h
    obtain ⟨⟨h6, h7⟩, ⟨h8, h9⟩, h10⟩ := h
    subst h5 h8
    refine .inr (.inr (.inr (.inr (.inl ⟨n.toNat, by omega, by omega, ?_⟩))))
    rw [noS_eq h9, noS_eq h10, Int.toNat_of_nonneg (by omega)]
    rfl
  rw [if_neg h5] at h
  simp only [Bool.and_eq_true, beq_iff_eq, decide_eq_true_eq] at h
  obtain ⟨⟨⟨h6, h7⟩, h8⟩, ⟨h9, h10⟩, h11⟩ := h
  subst h6 h9
  exact .inr (.inr (.inr (.inr (.inr ⟨t, h7, h8, by rw [noS_eq h10, noS_eq h11]; rfl⟩))))
/-! ### Where tokens stand -/
def Stt (l : List Tok) (a : Nat) (m : List Tok) : Prop := ∃ q, l.drop a = m ++ q
theorem Stt.cons {l : List Tok} {a : Nat} {t : Tok} {m : List Tok} (h : Stt l a (t :: m)) : l[a]? = some t ∧ Stt l (a + 1) m := by
  obtain ⟨q, hq⟩ := h
  constructor
  · have h0 : (l.drop a)[0]? = some t := by rw [hq]; rfl
    rw [List.getElem?_drop] at h0
    exact h0
  · refine ⟨q, ?_⟩
    rw [← List.drop_drop, hq]
    rfl
theorem Stt.app {l : List Tok} {a : Nat} {x y : List Tok} (h : Stt l a (x ++ y)) : Stt l a x ∧ Stt l (a + x.length) y := by
  obtain ⟨q, hq⟩ := h
  refine ⟨⟨y ++ q, by rw [hq, List.append_assoc]⟩, q, ?_⟩
  rw [← List.drop_drop, hq, List.append_assoc, List.drop_left]
theorem tok_is {l : List Tok} {a : Nat} {t : Tok} (h : l[a]? = some t) (k : Int) (s : ByteArray) : isTok l a k s = (t.k == k && eqB t.s s) := by
  unfold isTok
  rw [h]
theorem ops_tok {l : List Tok} {a : Nat} {t : Tok} (h : l[a]? = some t) (row : List Nat) : opsAt l a row = opsAt [t] 0 row := by
  have e : ∀ k s, isTok l a k s = isTok [t] 0 k s := fun k s => by rw [tok_is h, tok_is rfl]
  induction row with
  | nil => rfl
  | cons m r ih =>
    unfold opsAt isOpAt
    rw [e, e, e, e, ih]
theorem ops_none {l : List Tok} {a : Nat} (h : l[a]? = none) (row : List Nat) : opsAt l a row = 0 := opsAt_end (by simpa using h)
def EndAt (l : List Tok) (b : Nat) : Prop := l[b]? = none ∨ l[b]? = some (tokOf ⟨#[41]⟩) ∨ l[b]? = some (tokOf ⟨#[93]⟩)
def OpAt (l : List Tok) (b n : Nat) : Prop := 1 ≤ n ∧ n ≤ 14 ∧ l[b]? = some (tokOf (signAt n))
def Fol (l : List Tok) (b : Nat) : Prop := EndAt l b ∨ ∃ n, OpAt l b n
theorem end_ops {l : List Tok} {b : Nat} (h : EndAt l b) : ∀ row ∈ rows7, opsAt l b row = 0 := by
  intro row hr
  rcases h with h | h | h
  · exact ops_none h row
  · rw [ops_tok h]
    have hk : (rows7.all fun row => opsAt [tokOf ⟨#[41]⟩] 0 row == 0) = true := by kernel_rfl
    simpa using List.all_eq_true.1 hk row hr
  · rw [ops_tok h]
    have hk : (rows7.all fun row => opsAt [tokOf ⟨#[93]⟩] 0 row == 0) = true := by kernel_rfl
    simpa using List.all_eq_true.1 hk row hr
theorem range14 {n : Nat} (h1 : 1 ≤ n) (h2 : n ≤ 14) : ∃ i ∈ List.range 14, n = i + 1 := ⟨n - 1, List.mem_range.2 (by omega), by omega⟩
theorem op_ops {l : List Tok} {b n : Nat} (h : OpAt l b n) : ∀ row ∈ rows7, opsAt l b row = if row.contains n then n else 0 := by
  obtain ⟨h1, h2, h3⟩ := h
  intro row hr
  rw [ops_tok h3]
  obtain ⟨i, hi, rfl⟩ := range14 h1 h2
  have hk : ((List.range 14).all fun i => rows7.all fun row => opsAt [tokOf (signAt (i + 1))] 0 row == (if row.contains (i + 1) then i + 1 else 0)) = true := by kernel_rfl
  have := List.all_eq_true.1 (List.all_eq_true.1 hk i hi) row hr
  simpa using this
theorem fol_nf {l : List Tok} {b : Nat} (h : Fol l b) : isTok l b 3 ⟨#[91]⟩ = false ∧ isTok l b 3 ⟨#[46]⟩ = false := by
  rcases h with (h | h | h) | ⟨n, h1, h2, h⟩
  · unfold isTok
    rw [h]
    exact ⟨rfl, rfl⟩
  · rw [tok_is h, tok_is h]
    exact ⟨by kernel_rfl, by kernel_rfl⟩
  · rw [tok_is h, tok_is h]
    exact ⟨by kernel_rfl, by kernel_rfl⟩
  · rw [tok_is h, tok_is h]
    obtain ⟨i, hi, rfl⟩ := range14 h1 h2
    have hk : ((List.range 14).all fun i => !((tokOf (signAt (i + 1))).k == 3 && eqB (tokOf (signAt (i + 1))).s ⟨#[91]⟩) && !((tokOf (signAt (i + 1))).k == 3 && eqB (tokOf (signAt (i + 1))).s ⟨#[46]⟩)) = true := by kernel_rfl
    have := List.all_eq_true.1 hk i hi
    rw [Bool.and_eq_true, Bool.not_eq_true', Bool.not_eq_true'] at this
    exact this
/-! ### The rows -/
theorem rows_skip {l : List Tok} : ∀ (rs : List (List Nat)) {un : Nat → PR} {a b : Nat} {y : List Prt}, un a = .ok b y → (∀ r ∈ rs, opsAt l b r = 0) → rs.foldl (rowP l) un a = .ok b y
  | [], _, _, _, _, h, _ => h
  | r :: rs, un, a, b, y, h, ho => by
    refine rows_skip rs (un := rowP l un r) ?_ (fun r' hr => ho r' (List.mem_cons_of_mem _ hr))
    unfold rowP
    rw [h]
    unfold PR.then
    simp only
    rw [rowGo_none (ho r List.mem_cons_self)]
    simp
theorem rows_bin {l : List Tok} {un : Nat → PR} {a b c n : Nat} {y z : List Prt} (pre : List (List Nat)) (r : List Nat) (post : List (List Nat)) (h1 : un a = .ok b y) (hb : ∀ r' ∈ pre, opsAt l b r' = 0) (hr : opsAt l b r = n) (hn : n ≠ 0) (h2 : un (b + 1) = .ok c z)
    (hc : ∀ r' ∈ pre ++ r :: post, opsAt l c r' = 0) : (pre ++ r :: post).foldl (rowP l) un a = .ok c (y ++ (z ++ [opP n])) := by
  rw [List.foldl_append, List.foldl_cons]
  refine rows_skip post ?_ (fun r' hr' => hc r' (by simp [hr']))
  show ((pre.foldl (rowP l) un a).then fun b => rowGo l (pre.foldl (rowP l) un) r (l.length - b) b) = _
  rw [rows_skip pre h1 hb]
  have hlt := opsAt_lt (l := l) (a := b) (row := r) (by rw [hr]; exact hn)
  obtain ⟨f, hf⟩ : ∃ f, l.length - b = f + 1 := ⟨l.length - b - 1, by omega⟩
  unfold PR.then
  simp only
  rw [hf, rowGo, hr, if_neg hn, rows_skip pre h2 (fun r' hr' => hc r' (by simp [hr']))]
  unfold PR.put PR.then
  simp only
  rw [rowGo_none (hc r (by simp))]
  simp
theorem row_of : ∀ i ∈ List.range 14, ∃ pre r post, rows7 = pre ++ r :: post ∧ r.contains (i + 1) = true ∧ ∀ r' ∈ pre, r'.contains (i + 1) = false := by
  intro i hi
  have key : ∀ j, j < 7 → (List.range 14).all (fun i => !((rows7.getD j []).contains (i + 1)) || ((rows7.take j).all fun r' => !(r'.contains (i + 1)))) = true := by decide
  have ex : (List.range 14).all (fun i => (List.range 7).any fun j => (rows7.getD j []).contains (i + 1)) = true := by decide
  have h := List.all_eq_true.1 ex i hi
  obtain ⟨j, hj, h⟩ := List.any_eq_true.1 h
  have hj := List.mem_range.1 hj
  have h2 := List.all_eq_true.1 (key j hj) i hi
  rw [h] at h2
  refine ⟨rows7.take j, rows7.getD j [], rows7.drop (j + 1), ?_, h, fun r' hr' => ?_⟩
  · have hlt : j < rows7.length := hj
    rw [List.getD_eq_getElem?_getD, List.getElem?_eq_getElem hlt, Option.getD_some, List.getElem_cons_drop, List.take_append_drop]
  · rw [Bool.not_true, Bool.false_or] at h2
    have := List.all_eq_true.1 h2 r' hr'
    rwa [Bool.not_eq_true'] at this
/-! ### There and back -/
theorem name_ne {s k : ByteArray} (h : isName s = true) (hk : isName k = false) : eqB s k = false := by
  cases h' : eqB s k with
  | false => rfl
  | true =>
    rw [eqB_eq h', hk] at h
    cases h
theorem name_word {s : ByteArray} (h : isName s = true) : isWord s = true := by
  unfold isName at h
  rw [Bool.and_eq_true] at h
  exact h.1
theorem tok_word {s : ByteArray} (h : isWord s = true) : tokOf s = ⟨1, s, 0, 0, 0⟩ := by
  unfold tokOf
  rw [if_pos h]
theorem unary_prim {l : List Tok} {un or : Option (Nat → PR)} {a : Nat} {t : Tok} (h : l[a]? = some t) (h1 : (t.k == 1 && eqB t.s ⟨#[78, 79, 84]⟩) = false) (h2 : (t.k == 3 && eqB t.s ⟨#[45]⟩) = false) : unaryP l un or a = primP l or a := by
  unfold unaryP
  rw [tok_is h, tok_is h, h1, h2, if_neg (by decide), if_neg (by decide)]
theorem unary_name {l : List Tok} {un or : Option (Nat → PR)} {a : Nat} {s : ByteArray} (h : l[a]? = some (tokOf s)) (hs : isName s = true) : unaryP l un or a = nmdP l or s (a + 1) := by
  rw [tok_word (name_word hs)] at h
  have c1 : ¬ (2 : Int) ≤ convOf s := by
    unfold convOf
    rw [name_ne hs (by kernel_rfl), name_ne hs (by kernel_rfl), name_ne hs (by kernel_rfl), name_ne hs (by kernel_rfl)]
    simp
  rw [unary_prim h (by rw [name_ne hs (by kernel_rfl)]; rfl) (by rfl)]
  unfold primP
  rw [h]
  simp only
  rw [if_neg (by decide), if_neg (by rw [name_ne hs (by kernel_rfl)]; simp), if_neg (by rw [name_ne hs (by kernel_rfl)]; simp), if_neg (fun h => c1 h.2), if_pos ⟨trivial, hs⟩]
theorem unary_par {l : List Tok} {un or : Option (Nat → PR)} {a : Nat} (h : l[a]? = some (tokOf ⟨#[40]⟩)) : unaryP l un or a = withinP l or ⟨#[40]⟩ ⟨#[41]⟩ a := by
  rw [show tokOf ⟨#[40]⟩ = ⟨3, ⟨#[40]⟩, 0, 0, 0⟩ by kernel_rfl] at h
  rw [unary_prim h (by rfl) (by kernel_rfl)]
  unfold primP
  rw [h]
  simp only
  rw [if_neg (by decide), if_neg (fun h => absurd h.1 (by decide)), if_neg (fun h => absurd h.1 (by decide)), if_neg (fun h => absurd h.1 (by decide)), if_neg (fun h => absurd h.1 (by decide))]
theorem within_ok {l : List Tok} {F : Nat → PR} {from_ to_ : ByteArray} {a b : Nat} {y : List Prt} (h1 : isTok l a 3 from_ = true) (h2 : F (a + 1) = .ok b y) (h3 : isTok l b 3 to_ = true) : withinP l (some F) from_ to_ a = .ok (b + 1) y := by
  unfold withinP
  rw [h1, if_neg (by decide)]
  simp only
  rw [h2]
  unfold PR.then needP
  simp only
  rw [h3, if_pos rfl]
  simp
theorem conv_tok : ∀ t : Int, 2 ≤ t → t ≤ 4 → ∃ s : ByteArray, tokOf (convB t) = ⟨1, s, 0, 0, 0⟩ ∧ eqB s ⟨#[78, 79, 84]⟩ = false ∧ eqB s ⟨#[84, 82, 85, 69]⟩ = false ∧ eqB s ⟨#[70, 65, 76, 83, 69]⟩ = false ∧ convOf s = t := by
  intro t h1 h2
  rcases (show t = 2 ∨ t = 3 ∨ t = 4 by omega) with rfl | rfl | rfl
  · exact ⟨⟨#[84, 79, 95, 73, 78, 84]⟩, by kernel_rfl, by kernel_rfl, by kernel_rfl, by kernel_rfl, by kernel_rfl⟩
  · exact ⟨⟨#[84, 79, 95, 68, 73, 78, 84]⟩, by kernel_rfl, by kernel_rfl, by kernel_rfl, by kernel_rfl, by kernel_rfl⟩
  · exact ⟨⟨#[84, 79, 95, 84, 73, 77, 69]⟩, by kernel_rfl, by kernel_rfl, by kernel_rfl, by kernel_rfl, by kernel_rfl⟩
theorem unary_conv {l : List Tok} {un or : Option (Nat → PR)} {a : Nat} {t : Int} (h : l[a]? = some (tokOf (convB t))) (h1 : 2 ≤ t) (h2 : t ≤ 4) : unaryP l un or a = (withinP l or ⟨#[40]⟩ ⟨#[41]⟩ (a + 1)).put (toP t) := by
  obtain ⟨s, e1, e2, e3, e4, e5⟩ := conv_tok t h1 h2
  rw [e1] at h
  rw [unary_prim h (by rw [e2]; rfl) (by rfl)]
  unfold primP
  rw [h]
  simp only
  rw [if_neg (by decide), if_neg (by rw [e3]; simp), if_neg (by rw [e4]; simp), if_pos ⟨trivial, by rw [e5]; exact h1⟩, e5]
theorem back_leaf {p : Prt} (hp : takesE p = 0) (hm : mayP p = true) {l : List Tok} {un or : Option (Nat → PR)} {a : Nat} (h : Stt l a (showP p []).1) (hf : Fol l (a + (showP p []).1.length)) : unaryP l un or a = .ok (a + (showP p []).1.length) [p] := by
  rcases may_cases hm with ⟨n, t, hb, rfl⟩ | ⟨s, hs, rfl⟩ | ⟨s, hs, rfl⟩ | ⟨s, f, hs, hw, rfl⟩ | ⟨n, h1, h2, rfl⟩ | ⟨t, h1, h2, rfl⟩
  · by_cases ht : t = 1
    · subst ht
      rcases hb rfl with rfl | rfl
      · have e : showP (numP 0 1) [] = ([⟨1, ⟨#[70, 65, 76, 83, 69]⟩, 0, 0, 0⟩], false) := by kernel_rfl
        rw [e] at h ⊢
        obtain ⟨h0, -⟩ := h.cons
        rw [unary_prim h0 (by kernel_rfl) (by rfl)]
        unfold primP
        rw [h0]
        simp only
        rw [if_neg (by decide), if_neg (fun h => absurd h.2 (by rw [show eqB ⟨#[70, 65, 76, 83, 69]⟩ ⟨#[84, 82, 85, 69]⟩ = false by kernel_rfl]; decide)), if_pos ⟨trivial, by kernel_rfl⟩]
        rfl
      · have e : showP (numP 1 1) [] = ([⟨1, ⟨#[84, 82, 85, 69]⟩, 0, 0, 0⟩], false) := by kernel_rfl
        rw [e] at h ⊢
        obtain ⟨h0, -⟩ := h.cons
        rw [unary_prim h0 (by kernel_rfl) (by rfl)]
        unfold primP
        rw [h0]
        simp only
        rw [if_neg (by decide), if_pos ⟨trivial, by kernel_rfl⟩]
        rfl
    · have e : showP (numP n t) [] = ([⟨2, ⟨#[]⟩, n, t, 0⟩], false) := by
        unfold showP numP
        simp only
        rw [if_neg (fun h => ht h.2), if_pos trivial]
      rw [e] at h ⊢
      obtain ⟨h0, -⟩ := h.cons
      rw [unary_prim h0 (by rfl) (by rfl)]
      unfold primP
      rw [h0]
      simp only
      rw [if_pos trivial]
      rfl
  · have e : showP (varP s) [] = ([tokOf s], false) := rfl
    rw [e] at h hf ⊢
    obtain ⟨h0, -⟩ := h.cons
    rw [unary_name h0 hs]
    obtain ⟨f1, f2⟩ := fol_nf hf
    unfold nmdP
    rw [show a + 1 = a + [tokOf s].length from rfl, f1, f2, if_neg (by decide), if_neg (by decide)]
  · have : takesE (indexP s) = 1 := rfl
    omega
  · have e : showP (fieldP s f) [] = ([tokOf s, tokOf ⟨#[46]⟩, tokOf f], false) := rfl
    rw [e] at h ⊢
    obtain ⟨h0, h⟩ := h.cons
    obtain ⟨h1, h⟩ := h.cons
    obtain ⟨h2, h⟩ := h.cons
    rw [unary_name h0 hs]
    unfold nmdP
    rw [tok_is h1, tok_is h1, show ((tokOf ⟨#[46]⟩).k == 3 && eqB (tokOf ⟨#[46]⟩).s ⟨#[91]⟩) = false by kernel_rfl, show ((tokOf ⟨#[46]⟩).k == 3 && eqB (tokOf ⟨#[46]⟩).s ⟨#[46]⟩) = true by kernel_rfl, if_neg (by decide), if_pos rfl, h2]
    simp only
    rw [tok_word hw, if_pos rfl]
    rfl
  · exfalso
    unfold takesE opP at hp
    simp only at hp
    split at hp
    · omega
    · simp at hp
  · have : takesE (toP t) = 1 := rfl
    omega
/-- What a tree's reading asks. -/
def BackT (T : Ex) : Prop := ∀ (l : List Tok) (a d : Nat), Stt l a (showE T).1 → 2 * depX T ≤ (d : Int) + 2 →
  ((showE T).2 = false → Fol l (a + (showE T).1.length) → unP l d a = .ok (a + (showE T).1.length) T.flat) ∧ (EndAt l (a + (showE T).1.length) → orP l (unP l d) a = .ok (a + (showE T).1.length) T.flat)
theorem back_or {l : List Tok} {un : Nat → PR} {a b : Nat} {y : List Prt} (h : un a = .ok b y) (he : EndAt l b) : orP l un a = .ok b y := rows_skip rows7 h (end_ops he)
theorem back_in {T : Ex} (ih : BackT T) {l : List Tok} {a d : Nat} (h : Stt l a (innerT (showE T))) (hd : 2 * depX T ≤ (d : Int) + 1) (hf : Fol l (a + (innerT (showE T)).length)) : unP l d a = .ok (a + (innerT (showE T)).length) T.flat := by
  unfold innerT at h hf ⊢
  by_cases hs : (showE T).2 = true
  · rw [if_pos hs] at h hf ⊢
    obtain ⟨h0, h1⟩ := h.cons
    obtain ⟨h2, h3⟩ := h1.app
    obtain ⟨h4, -⟩ := h3.cons
    have hp := depX_pos T
    obtain ⟨e, rfl⟩ : ∃ e, d = e + 1 := ⟨d - 1, by omega⟩
    have hor := (ih l (a + 1) e h2 (by omega)).2 (.inr (.inl h4))
    show unaryP l (some (unP l e)) (some (orP l (unP l e))) a = _
    rw [unary_par h0, within_ok (by rw [tok_is h0]; kernel_rfl) hor (by rw [tok_is h4]; kernel_rfl)]
    simp only [List.length_cons, List.length_append, List.length_nil]
    rw [show a + 1 + (showE T).1.length + 1 = a + ((showE T).1.length + (0 + 1) + 1) by omega]
  · rw [if_neg hs] at h hf ⊢
    exact (ih l a d h (by omega)).1 (by simpa using hs) hf
theorem back_one {p : Prt} {A : Ex} (hp : takesE p = 1) (hm : mayP p = true) (ih : BackT A) : BackT (.un p A) := by
  intro l a d h hd
  rw [showE] at h ⊢
  rw [depX] at hd
  have hdp := depX_pos A
  obtain ⟨e, rfl⟩ : ∃ e, d = e + 1 := ⟨d - 1, by omega⟩
  rcases may_cases hm with ⟨n, t, hb, rfl⟩ | ⟨s, hs, rfl⟩ | ⟨s, hs, rfl⟩ | ⟨s, f, hs, hw, rfl⟩ | ⟨n, h1, h2, rfl⟩ | ⟨t, h1, h2, rfl⟩
  · have : takesE (numP n t) = 0 := rfl
    omega
  · have : takesE (varP s) = 0 := rfl
    omega
  · have es : showP (indexP s) [showE A] = (tokOf s :: tokOf ⟨#[91]⟩ :: ((showE A).1 ++ [tokOf ⟨#[93]⟩]), false) := rfl
    rw [es] at h ⊢
    obtain ⟨h0, h⟩ := h.cons
    obtain ⟨h1, h⟩ := h.cons
    obtain ⟨h2, h3⟩ := h.app
    obtain ⟨h4, -⟩ := h3.cons
    have hor := (ih l (a + 1 + 1) e h2 (by omega)).2 (.inr (.inr h4))
    have key : unP l (e + 1) a = .ok (a + (tokOf s :: tokOf ⟨#[91]⟩ :: ((showE A).1 ++ [tokOf ⟨#[93]⟩])).length) (Ex.un (indexP s) A).flat := by
      show unaryP l (some (unP l e)) (some (orP l (unP l e))) a = _
      rw [unary_name h0 hs]
      unfold nmdP
      rw [tok_is h1, show ((tokOf ⟨#[91]⟩).k == 3 && eqB (tokOf ⟨#[91]⟩).s ⟨#[91]⟩) = true by kernel_rfl, if_pos rfl, within_ok (by rw [tok_is h1]; kernel_rfl) hor (by rw [tok_is h4]; kernel_rfl)]
      unfold PR.put
      simp only [List.length_cons, List.length_append, List.length_nil]
      rw [show a + 1 + 1 + (showE A).1.length + 1 = a + ((showE A).1.length + (0 + 1) + 1 + 1) by omega]
      rfl
    exact ⟨fun _ _ => key, fun he => back_or key he⟩
  · have : takesE (fieldP s f) = 0 := rfl
    omega
  · have hn : n = 15 ∨ n = 16 := by
      unfold takesE opP at hp
      simp only at hp
      split at hp
      · omega
      · simp at hp
    have es : showP (opP n) [showE A] = (tokOf (signAt n) :: innerT (showE A), true) := by
      rcases hn with rfl | rfl <;> rfl
    rw [es] at h ⊢
    obtain ⟨h0, h1⟩ := h.cons
    refine ⟨fun hf => by simp at hf, fun he => back_or ?_ he⟩
    have hin : unP l e (a + 1) = .ok (a + 1 + (innerT (showE A)).length) A.flat := back_in ih h1 (by omega) (.inl (by
      simp only [List.length_cons] at he
      rw [show a + 1 + (innerT (showE A)).length = a + ((innerT (showE A)).length + 1) by omega]
      exact he))
    show unaryP l (some (unP l e)) (some (orP l (unP l e))) a = _
    unfold unaryP
    simp only [List.length_cons]
    rcases hn with rfl | rfl
    · rw [tok_is h0, tok_is h0, show ((tokOf (signAt 15)).k == 1 && eqB (tokOf (signAt 15)).s ⟨#[78, 79, 84]⟩) = false by kernel_rfl, show ((tokOf (signAt 15)).k == 3 && eqB (tokOf (signAt 15)).s ⟨#[45]⟩) = true by kernel_rfl, if_neg (by decide), if_pos rfl]
      rw [hin]
      unfold PR.put
      simp only
      rw [show a + 1 + (innerT (showE A)).length = a + ((innerT (showE A)).length + 1) by omega]
      rfl
    · rw [tok_is h0, show ((tokOf (signAt 16)).k == 1 && eqB (tokOf (signAt 16)).s ⟨#[78, 79, 84]⟩) = true by kernel_rfl, if_pos rfl]
      rw [hin]
      unfold PR.put
      simp only
      rw [show a + 1 + (innerT (showE A)).length = a + ((innerT (showE A)).length + 1) by omega]
      rfl
  · have es : showP (toP t) [showE A] = (tokOf (convB t) :: tokOf ⟨#[40]⟩ :: ((showE A).1 ++ [tokOf ⟨#[41]⟩]), false) := rfl
    rw [es] at h ⊢
    obtain ⟨h0, h⟩ := h.cons
    obtain ⟨h1', h⟩ := h.cons
    obtain ⟨h2', h3⟩ := h.app
    obtain ⟨h4, -⟩ := h3.cons
    have hor := (ih l (a + 1 + 1) e h2' (by omega)).2 (.inr (.inl h4))
    have key : unP l (e + 1) a = .ok (a + (tokOf (convB t) :: tokOf ⟨#[40]⟩ :: ((showE A).1 ++ [tokOf ⟨#[41]⟩])).length) (Ex.un (toP t) A).flat := by
      show unaryP l (some (unP l e)) (some (orP l (unP l e))) a = _
      rw [unary_conv h0 h1 h2, within_ok (by rw [tok_is h1']; kernel_rfl) hor (by rw [tok_is h4]; kernel_rfl)]
      unfold PR.put
      simp only [List.length_cons, List.length_append, List.length_nil]
      rw [show a + 1 + 1 + (showE A).1.length + 1 = a + ((showE A).1.length + (0 + 1) + 1 + 1) by omega]
      rfl
    exact ⟨fun _ _ => key, fun he => back_or key he⟩
theorem back_two {p : Prt} {A B : Ex} (hp : takesE p = 2) (hm : mayP p = true) (iha : BackT A) (ihb : BackT B) : BackT (.bin p A B) := by
  intro l a d h hd
  rw [showE] at h ⊢
  rw [depX] at hd
  have hdp := depX_pos A
  rcases may_cases hm with ⟨n, t, hb, rfl⟩ | ⟨s, hs, rfl⟩ | ⟨s, hs, rfl⟩ | ⟨s, f, hs, hw, rfl⟩ | ⟨n, h1, h2, rfl⟩ | ⟨t, h1, h2, rfl⟩
  · have : takesE (numP n t) = 0 := rfl
    omega
  · have : takesE (varP s) = 0 := rfl
    omega
  · have : takesE (indexP s) = 1 := rfl
    omega
  · have : takesE (fieldP s f) = 0 := rfl
    omega
  rotate_left
  · have : takesE (toP t) = 1 := rfl
    omega
  have hn : n ≤ 14 := by
    unfold takesE opP at hp
    simp only at hp
    split at hp
    · simp at hp
    · rename_i hne
      simp at hne
      omega
  have es : showP (opP n) [showE A, showE B] = (innerT (showE A) ++ (tokOf (signAt n) :: innerT (showE B)), true) := by
    unfold showP
    rw [if_neg (by simp [opP]), if_neg (by simp [opP]), if_neg (by simp [opP]), if_neg (by simp [opP]), if_neg (by simp [opP]), if_neg (by simp [opP]), if_neg (by omega)]
    rfl
  rw [es] at h ⊢
  refine ⟨fun hf => by simp at hf, fun he => ?_⟩
  obtain ⟨hA, h⟩ := h.app
  obtain ⟨h0, hB⟩ := h.cons
  have hop : OpAt l (a + (innerT (showE A)).length) n := ⟨h1, hn, h0⟩
  have ra := back_in iha hA (d := d) (by omega) (.inr ⟨n, hop⟩)
  have hlen : a + (innerT (showE A) ++ (tokOf (signAt n) :: innerT (showE B))).length = a + (innerT (showE A)).length + 1 + (innerT (showE B)).length := by
    simp only [List.length_append, List.length_cons]
    omega
  rw [hlen] at he ⊢
  have rb := back_in ihb hB (d := d) (by omega) (.inl he)
  obtain ⟨i, hi, rfl⟩ := range14 h1 hn
  obtain ⟨pre, r, post, hr, hc, hpre⟩ := row_of i hi
  have ho := op_ops hop
  have hE := end_ops he
  unfold orP
  rw [hr] at ho hE ⊢
  have hrr := ho r (by simp)
  rw [if_pos hc] at hrr
  rw [rows_bin pre r post ra (fun r' h' => by rw [ho r' (by simp [h']), if_neg (by rw [hpre r' h']; decide)]) hrr (by omega) rb hE, Ex.flat, List.append_assoc]
theorem back : ∀ T : Ex, T.Ok → (∀ p ∈ T.flat, mayP p = true) → BackT T
  | .leaf p, hT, hm => by
    intro l a d h hd
    have hmp := hm p (by simp [Ex.flat])
    have h0 : takesE p = 0 := by rw [← Go.Proofs.YtbnelgniekcjdaaGreatDoor.takesT_E hmp]; exact hT
    rw [showE] at h ⊢
    have key : ∀ hf : Fol l (a + (showP p []).1.length), unP l d a = .ok (a + (showP p []).1.length) (Ex.leaf p).flat := fun hf => by
      cases d with
      | zero => exact back_leaf h0 hmp h hf
      | succ d => exact back_leaf h0 hmp h hf
    exact ⟨fun _ hf => key hf, fun he => back_or (key (.inl he)) he⟩
  | .un p A, hT, hm => by
    have hmp := hm p (by simp [Ex.flat])
    exact back_one (by rw [← Go.Proofs.YtbnelgniekcjdaaGreatDoor.takesT_E hmp]; exact hT.1) hmp (back A hT.2 (fun q hq => hm q (by simp [Ex.flat, hq])))
  | .bin p A B, hT, hm => by
    have hmp := hm p (by simp [Ex.flat])
    exact back_two (by rw [← Go.Proofs.YtbnelgniekcjdaaGreatDoor.takesT_E hmp]; exact hT.1) hmp (back A hT.2.1 (fun q hq => hm q (by simp [Ex.flat, hq]))) (back B hT.2.2 (fun q hq => hm q (by simp [Ex.flat, hq])))
/-- Shown parts are read as just these. -/
theorem parse_shown {x : List Prt} (h : checkX x = 0) : parseP (showL x) 0 = .ok x (showL x).length := by
  obtain ⟨hT, hx⟩ := tree_in h
  obtain ⟨T, hTe⟩ : ∃ T, treeL x = T := ⟨_, rfl⟩
  rw [hTe] at hT hx
  subst hx
  obtain ⟨g1, g2, g3⟩ := (checkX_tree hT).1 h
  have hs : showL T.flat = (showE T).1 := by
    have e := showGo_flat T [] [] hT (fun p hp => Go.Proofs.YtbnelgniekcjdaaGreatDoor.takesT_E (g3 p hp))
    rw [List.append_nil] at e
    unfold showL
    rw [e]
    rfl
  rw [hs]
  have hb := (back T hT g3 (showE T).1 0 200 ⟨[], by simp⟩ (by omega)).2 (.inl (by simp))
  rw [Nat.zero_add] at hb
  unfold parseP
  rw [if_neg (by omega), show (0 : Int).toNat = 0 from rfl, hb]
  simp only
  rw [if_neg]
  rw [depthL_tree hT (fun p hp => Go.Proofs.YtbnelgniekcjdaaGreatDoor.takesT_E (g3 p hp))]
  omega
end Cap
