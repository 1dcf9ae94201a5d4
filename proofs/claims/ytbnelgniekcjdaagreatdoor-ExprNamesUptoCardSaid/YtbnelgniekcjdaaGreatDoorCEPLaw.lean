/- How far an expression's reading goes, plainly. -/
import Derived.Test.YtbnelgniekcjdaaGreatDoorCEPSpec
set_option linter.unusedSimpArgs false
set_option linter.unusedVariables false
namespace Cap
open Go Go.RowKit

/-- What is read ends behind where it begins, within the tokens; it has no more parts than tokens. -/
def GoodP (l : List Tok) (f : Nat → PR) : Prop := ∀ a b y, f a = .ok b y → a < b ∧ b ≤ l.length ∧ y.length ≤ b - a
def GoodP0 (l : List Tok) (f : Nat → PR) : Prop := ∀ a b y, a ≤ l.length → f a = .ok b y → a ≤ b ∧ b ≤ l.length ∧ y.length ≤ b - a
theorem put_ok {r : PR} {p : Prt} {b : Nat} {y : List Prt} (h : r.put p = .ok b y) : ∃ z, r = .ok b z ∧ y = z ++ [p] := by
  cases r with
  | ok a z =>
    unfold PR.put at h
    injection h with h1 h2
    subst h1
    exact ⟨z, rfl, h2.symm⟩
  | no a e => cases h
theorem then_ok {r : PR} {f : Nat → PR} {b : Nat} {y : List Prt} (h : r.then f = .ok b y) : ∃ a y1 y2, r = .ok a y1 ∧ f a = .ok b y2 ∧ y = y1 ++ y2 := by
  cases r with
  | no a e => cases h
  | ok a z =>
    unfold PR.then at h
    simp only at h
    cases hf : f a with
    | no c e => rw [hf] at h; cases h
    | ok c u =>
      rw [hf] at h
      simp only at h
      injection h with h1 h2
      subst h1
      exact ⟨a, z, u, rfl, hf, h2.symm⟩
theorem isTok_lt {l : List Tok} {a : Nat} {k : Int} {s : ByteArray} (h : isTok l a k s = true) : a < l.length := by
  unfold isTok at h
  cases hl : l[a]? with
  | none => rw [hl] at h; cases h
  | some t => exact (List.getElem?_eq_some_iff.1 hl).1
theorem opsAt_lt {l : List Tok} {a : Nat} : ∀ {row : List Nat}, opsAt l a row ≠ 0 → a < l.length
  | [], h => absurd rfl h
  | n :: r, h => by
    unfold opsAt at h
    cases ho : isOpAt l a n with
    | false => rw [ho] at h; exact opsAt_lt h
    | true =>
      unfold isOpAt at ho
      simp only [Bool.or_eq_true, Bool.and_eq_true] at ho
      rcases ho with (ho | ho) | ⟨_, ho | ho⟩ <;> exact isTok_lt ho
theorem rowGo_good {l : List Tok} {inner : Nat → PR} {row : List Nat} (hi : GoodP l inner) : ∀ f, GoodP0 l (rowGo l inner row f)
  | 0, a, b, y, ha, h => by
    unfold rowGo at h
    injection h with h1 h2
    subst h1 h2
    exact ⟨Nat.le_refl _, ha, by simp⟩
  | f + 1, a, b, y, ha, h => by
    unfold rowGo at h
    by_cases h0 : opsAt l a row = 0
    · rw [if_pos h0] at h
      injection h with h1 h2
      subst h1 h2
      exact ⟨Nat.le_refl _, ha, by simp⟩
    · rw [if_neg h0] at h
      obtain ⟨c, y1, y2, h1, h2, rfl⟩ := then_ok h
      obtain ⟨z, h3, rfl⟩ := put_ok h1
      obtain ⟨g1, g2, g3⟩ := hi _ _ _ h3
      obtain ⟨k1, k2, k3⟩ := rowGo_good hi f c b y2 g2 h2
      refine ⟨by omega, k2, ?_⟩
      simp only [List.length_append, List.length_cons, List.length_nil]
      omega
theorem opsAt_end {l : List Tok} {row : List Nat} {a : Nat} (h : l.length ≤ a) : opsAt l a row = 0 := by
  rcases Nat.eq_zero_or_pos (opsAt l a row) with h0 | h0
  · exact h0
  · have := opsAt_lt (l := l) (a := a) (row := row) (by omega)
    omega
theorem rowGo_none {l : List Tok} {inner : Nat → PR} {row : List Nat} {a : Nat} (h : opsAt l a row = 0) : ∀ f, rowGo l inner row f a = .ok a []
  | 0 => rfl
  | f + 1 => by rw [rowGo, if_pos h]
theorem rowGo_fuel {l : List Tok} {inner : Nat → PR} {row : List Nat} (hi : GoodP l inner) : ∀ f f' a, l.length - a ≤ f → l.length - a ≤ f' → rowGo l inner row f a = rowGo l inner row f' a := by
  intro f
  induction f with
  | zero =>
    intro f' a h h'
    rw [rowGo_none (opsAt_end (by omega)), rowGo_none (opsAt_end (by omega))]
  | succ f ih =>
    intro f' a h h'
    by_cases h0 : opsAt l a row = 0
    · rw [rowGo_none h0, rowGo_none h0]
    · have hlt := opsAt_lt h0
      obtain ⟨f', rfl⟩ : ∃ k, f' = k + 1 := ⟨f' - 1, by omega⟩
      rw [rowGo, rowGo, if_neg h0, if_neg h0]
      cases hg : inner (a + 1) with
      | no b e => rfl
      | ok b y =>
        obtain ⟨g1, g2, g3⟩ := hi _ _ _ hg
        unfold PR.put PR.then
        simp only
        rw [ih f' b (by omega) (by omega)]
/-- One more operation of the row. -/
theorem rowGo_step {l : List Tok} {inner : Nat → PR} {row : List Nat} {a : Nat} (hi : GoodP l inner) (h0 : opsAt l a row ≠ 0) :
    rowGo l inner row (l.length - a) a = ((inner (a + 1)).put (opP (opsAt l a row))).then fun b => rowGo l inner row (l.length - b) b := by
  have hlt := opsAt_lt h0
  obtain ⟨f, hf⟩ : ∃ k, l.length - a = k + 1 := ⟨l.length - a - 1, by omega⟩
  rw [hf, rowGo, if_neg h0]
  cases hg : inner (a + 1) with
  | no b e => rfl
  | ok b y =>
    obtain ⟨g1, g2, g3⟩ := hi _ _ _ hg
    unfold PR.put PR.then
    simp only
    rw [rowGo_fuel hi f (l.length - b) b (by omega) (by omega)]
theorem then_step {b c : Nat} {y z : List Prt} {p : Prt} {r : PR} {F : Nat → PR} (hF : F b = (r.put p).then F) (hr : r = .ok c z) : (PR.ok b y).then F = (PR.ok c (y ++ (z ++ [p]))).then F := by
  subst hr
  unfold PR.then
  simp only [hF, PR.put]
  unfold PR.then
  simp only
  cases F c with
  | no d e => rfl
  | ok d u => simp
theorem then_no {b c : Nat} {e : Int} {y : List Prt} {p : Prt} {r : PR} {F : Nat → PR} (hF : F b = (r.put p).then F) (hr : r = .no c e) : (PR.ok b y).then F = .no c e := by
  subst hr
  unfold PR.then
  simp only [hF]
  rfl
theorem rowP_good {l : List Tok} {inner : Nat → PR} (row : List Nat) (hi : GoodP l inner) : GoodP l (rowP l inner row) := by
  intro a b y h
  obtain ⟨c, y1, y2, h1, h2, rfl⟩ := then_ok h
  obtain ⟨g1, g2, g3⟩ := hi _ _ _ h1
  obtain ⟨k1, k2, k3⟩ := rowGo_good hi _ c b y2 g2 h2
  refine ⟨by omega, k2, ?_⟩
  rw [List.length_append]
  omega
theorem foldl_good {l : List Tok} : ∀ (rs : List (List Nat)) {un : Nat → PR}, GoodP l un → GoodP l (rs.foldl (rowP l) un)
  | [], _, h => h
  | r :: rs, _, h => foldl_good rs (rowP_good r h)
theorem orP_good {l : List Tok} {un : Nat → PR} (h : GoodP l un) : GoodP l (orP l un) := foldl_good rows7 h
theorem need_ok {l : List Tok} {s : ByteArray} {a b : Nat} {y : List Prt} (h : needP l s a = .ok b y) : b = a + 1 ∧ y = [] ∧ isTok l a 3 s = true := by
  unfold needP at h
  cases ht : isTok l a 3 s with
  | false => rw [ht] at h; cases h
  | true =>
    rw [ht] at h
    injection h with h1 h2
    exact ⟨h1.symm, h2.symm, rfl⟩
theorem within_good {l : List Tok} {or : Option (Nat → PR)} (h : ∀ f, or = some f → GoodP l f) (from_ to : ByteArray) {a b : Nat} {y : List Prt} (hw : withinP l or from_ to a = .ok b y) : a + 2 < b ∧ b ≤ l.length ∧ y.length + 2 ≤ b - a := by
  unfold withinP at hw
  cases ht : isTok l a 3 from_ with
  | false => rw [ht] at hw; cases hw
  | true =>
    rw [ht] at hw
    rw [if_neg (by decide)] at hw
    cases or with
    | none => cases hw
    | some f =>
      simp only at hw
      obtain ⟨c, y1, y2, h1, h2, rfl⟩ := then_ok hw
      obtain ⟨g1, g2, g3⟩ := h f rfl _ _ _ h1
      obtain ⟨rfl, rfl, h4⟩ := need_ok h2
      have := isTok_lt h4
      refine ⟨by omega, by omega, ?_⟩
      rw [List.append_nil]
      omega
theorem named_good {l : List Tok} {or : Option (Nat → PR)} (h : ∀ f, or = some f → GoodP l f) (s : ByteArray) {a b : Nat} {y : List Prt} (ha : a ≤ l.length) (hw : nmdP l or s a = .ok b y) : a ≤ b ∧ b ≤ l.length ∧ y.length ≤ b + 1 - a := by
  unfold nmdP at hw
  split at hw
  · obtain ⟨z, h1, rfl⟩ := put_ok hw
    obtain ⟨g1, g2, g3⟩ := within_good h _ _ h1
    refine ⟨by omega, g2, ?_⟩
    rw [List.length_append, List.length_singleton]
    omega
  · split at hw
    · split at hw
      · rename_i t ht
        have := (List.getElem?_eq_some_iff.1 ht).1
        split at hw
        · injection hw with h1 h2
          subst h1 h2
          refine ⟨by omega, by omega, ?_⟩
          simp only [List.length_cons, List.length_nil]
          omega
        · cases hw
      · cases hw
    · injection hw with h1 h2
      subst h1 h2
      exact ⟨Nat.le_refl _, ha, by simp⟩
theorem prim_good {l : List Tok} {or : Option (Nat → PR)} (h : ∀ f, or = some f → GoodP l f) : GoodP l (primP l or) := by
  intro a b y hw
  unfold primP at hw
  split at hw
  · obtain ⟨g1, g2, g3⟩ := within_good h _ _ hw
    exact ⟨by omega, g2, by omega⟩
  · rename_i t ht
    have hlt := (List.getElem?_eq_some_iff.1 ht).1
    split at hw
    · injection hw with h1 h2
      subst h1 h2
      exact ⟨by omega, by omega, by simp⟩
    · split at hw
      · injection hw with h1 h2
        subst h1 h2
        exact ⟨by omega, by omega, by simp⟩
      · split at hw
        · injection hw with h1 h2
          subst h1 h2
          exact ⟨by omega, by omega, by simp⟩
        · split at hw
          · obtain ⟨z, h1, rfl⟩ := put_ok hw
            obtain ⟨g1, g2, g3⟩ := within_good h _ _ h1
            refine ⟨by omega, g2, ?_⟩
            rw [List.length_append, List.length_singleton]
            omega
          · split at hw
            · obtain ⟨g1, g2, g3⟩ := named_good h _ (by omega) hw
              exact ⟨by omega, g2, by omega⟩
            · obtain ⟨g1, g2, g3⟩ := within_good h _ _ hw
              exact ⟨by omega, g2, by omega⟩
theorem unary_good {l : List Tok} {un or : Option (Nat → PR)} (hu : ∀ f, un = some f → GoodP l f) (h : ∀ f, or = some f → GoodP l f) : GoodP l (unaryP l un or) := by
  intro a b y hw
  unfold unaryP at hw
  have key : ∀ (p : Prt), (match un with | none => PR.no a 2 | some f => (f (a + 1)).put p) = .ok b y → a < b ∧ b ≤ l.length ∧ y.length ≤ b - a := by
    intro p hp
    cases un with
    | none => cases hp
    | some f =>
      simp only at hp
      obtain ⟨z, h1, rfl⟩ := put_ok hp
      obtain ⟨g1, g2, g3⟩ := hu f rfl _ _ _ h1
      refine ⟨by omega, g2, ?_⟩
      rw [List.length_append, List.length_singleton]
      omega
  split at hw
  · exact key _ hw
  · split at hw
    · exact key _ hw
    · exact prim_good h a b y hw
theorem un_good (l : List Tok) : ∀ d, GoodP l (unP l d)
  | 0 => unary_good (fun _ h => by cases h) (fun _ h => by cases h)
  | d + 1 => unary_good (fun f h => by cases h; exact un_good l d) (fun f h => by cases h; exact orP_good (un_good l d))
end Cap
