/- What an expression's reading refuses it refuses for a reason; what it reads is not much longer than its parts. -/
import Derived.Test.YtbnelgniekcjdaaGreatDoorCEPLaw
set_option linter.unusedSimpArgs false
set_option linter.unusedVariables false
namespace Cap
open Go Go.RowKit
/-- A refusal has a reason. -/
def ErrP (f : Nat → PR) : Prop := ∀ a b e, f a = .no b e → e ≠ 0
/-- So many tokens a part at most. -/
def WideP (c : Nat) (f : Nat → PR) : Prop := ∀ a b y, f a = .ok b y → b ≤ a + c * y.length
theorem put_no {r : PR} {p : Prt} {b : Nat} {e : Int} (h : r.put p = .no b e) : r = .no b e := by
  cases r with
  | ok a z => cases h
  | no a e' => exact h
theorem then_no' {r : PR} {f : Nat → PR} {b : Nat} {e : Int} (h : r.then f = .no b e) : r = .no b e ∨ ∃ a y, r = .ok a y ∧ f a = .no b e := by
  cases r with
  | no a e' => exact .inl h
  | ok a z =>
    refine .inr ⟨a, z, rfl, ?_⟩
    unfold PR.then at h
    simp only at h
    cases hf : f a with
    | no c e' => rw [hf] at h; exact h
    | ok c u => rw [hf] at h; cases h
theorem rowGo_err {l : List Tok} {inner : Nat → PR} {row : List Nat} (hi : ErrP inner) : ∀ f, ErrP (rowGo l inner row f)
  | 0, a, b, e, h => by cases h
  | f + 1, a, b, e, h => by
    rw [rowGo] at h
    split at h
    · cases h
    · rcases then_no' h with h | ⟨c, y, _, h⟩
      · exact hi _ _ _ (put_no h)
      · exact rowGo_err hi f _ _ _ h
theorem rowP_err {l : List Tok} {inner : Nat → PR} (row : List Nat) (hi : ErrP inner) : ErrP (rowP l inner row) := by
  intro a b e h
  rcases then_no' h with h | ⟨c, y, _, h⟩
  · exact hi _ _ _ h
  · exact rowGo_err hi _ _ _ _ h
theorem foldl_err {l : List Tok} : ∀ (rs : List (List Nat)) {un : Nat → PR}, ErrP un → ErrP (rs.foldl (rowP l) un)
  | [], _, h => h
  | r :: rs, _, h => foldl_err rs (rowP_err r h)
theorem need_err (l : List Tok) (s : ByteArray) : ErrP (needP l s) := by
  intro a b e h
  unfold needP at h
  split at h
  · cases h
  · cases h; decide
theorem within_err {l : List Tok} {or : Option (Nat → PR)} (ho : ∀ f, or = some f → ErrP f) (s t : ByteArray) : ErrP (withinP l or s t) := by
  intro a b e h
  unfold withinP at h
  split at h
  · cases h; decide
  · cases or with
    | none => cases h; decide
    | some f =>
      rcases then_no' h with h | ⟨c, y, _, h⟩
      · exact ho f rfl _ _ _ h
      · exact need_err l _ _ _ _ h
theorem named_err {l : List Tok} {or : Option (Nat → PR)} (ho : ∀ f, or = some f → ErrP f) (s : ByteArray) : ErrP (nmdP l or s) := by
  intro a b e h
  unfold nmdP at h
  split at h
  · exact within_err ho _ _ _ _ _ (put_no h)
  · split at h
    · split at h
      · split at h
        · cases h
        · cases h; decide
      · cases h; decide
    · cases h
theorem prim_err {l : List Tok} {or : Option (Nat → PR)} (ho : ∀ f, or = some f → ErrP f) : ErrP (primP l or) := by
  intro a b e h
  unfold primP at h
  split at h
  · exact within_err ho _ _ _ _ _ h
  · split at h
    · cases h
    · split at h
      · cases h
      · split at h
        · cases h
        · split at h
          · exact within_err ho _ _ _ _ _ (put_no h)
          · split at h
            · exact named_err ho _ _ _ _ h
            · exact within_err ho _ _ _ _ _ h
theorem unary_err {l : List Tok} {un or : Option (Nat → PR)} (hu : ∀ f, un = some f → ErrP f) (ho : ∀ f, or = some f → ErrP f) : ErrP (unaryP l un or) := by
  intro a b e h
  have key : ∀ (p : Prt), (match un with | none => PR.no a 2 | some f => (f (a + 1)).put p) = .no b e → e ≠ 0 := by
    intro p hp
    cases un with
    | none => cases hp; decide
    | some f => exact hu f rfl _ _ _ (put_no hp)
  unfold unaryP at h
  split at h
  · exact key _ h
  · split at h
    · exact key _ h
    · exact prim_err ho _ _ _ h
theorem un_err (l : List Tok) : ∀ d, ErrP (unP l d)
  | 0 => unary_err (fun _ h => by cases h) (fun _ h => by cases h)
  | d + 1 => unary_err (fun f h => by cases h; exact un_err l d) (fun f h => by cases h; exact foldl_err rows7 (un_err l d))
theorem parse_err {l : List Tok} {a : Int} {b e : Int} (h : parseP l a = .no b e) : e ≠ 0 := by
  unfold parseP at h
  split at h
  · cases h; decide
  · split at h
    · rename_i b' e' h1
      cases h
      exact foldl_err rows7 (un_err l 200) _ _ _ h1
    · split at h
      · cases h; decide
      · cases h
theorem WideP.mono {c c' : Nat} {f : Nat → PR} (h : WideP c f) (hc : c ≤ c') : WideP c' f := fun a b y e => by
  have h1 := h a b y e
  have h2 := Nat.mul_le_mul_right y.length hc
  omega
theorem rowGo_wide {l : List Tok} {inner : Nat → PR} {row : List Nat} {c : Nat} (hc : 1 ≤ c) (hi : WideP c inner) : ∀ f, WideP c (rowGo l inner row f)
  | 0, a, b, y, h => by cases h; simp
  | f + 1, a, b, y, h => by
    rw [rowGo] at h
    split at h
    · cases h; simp
    · obtain ⟨d, y1, y2, h1, h2, rfl⟩ := then_ok h
      obtain ⟨z, h3, rfl⟩ := put_ok h1
      have g1 := hi _ _ _ h3
      have g2 := rowGo_wide hc hi f _ _ _ h2
      simp only [List.length_append, List.length_singleton, Nat.mul_add, Nat.mul_one]
      omega
theorem rowP_wide {l : List Tok} {inner : Nat → PR} {c : Nat} (hc : 1 ≤ c) (row : List Nat) (hi : WideP c inner) : WideP c (rowP l inner row) := by
  intro a b y h
  obtain ⟨d, y1, y2, h1, h2, rfl⟩ := then_ok h
  have g1 := hi _ _ _ h1
  have g2 := rowGo_wide hc hi _ _ _ _ h2
  simp only [List.length_append, Nat.mul_add]
  omega
theorem foldl_wide {l : List Tok} {c : Nat} (hc : 1 ≤ c) : ∀ (rs : List (List Nat)) {un : Nat → PR}, WideP c un → WideP c (rs.foldl (rowP l) un)
  | [], _, h => h
  | r :: rs, _, h => foldl_wide hc rs (rowP_wide hc r h)
/-- A value has a part. -/
def SomeP (f : Nat → PR) : Prop := ∀ a b y, f a = .ok b y → 1 ≤ y.length
theorem rowP_some {l : List Tok} {inner : Nat → PR} (row : List Nat) (hi : SomeP inner) : SomeP (rowP l inner row) := by
  intro a b y h
  obtain ⟨d, y1, y2, h1, h2, rfl⟩ := then_ok h
  have := hi _ _ _ h1
  rw [List.length_append]
  omega
theorem foldl_some {l : List Tok} : ∀ (rs : List (List Nat)) {un : Nat → PR}, SomeP un → SomeP (rs.foldl (rowP l) un)
  | [], _, h => h
  | r :: rs, _, h => foldl_some rs (rowP_some r h)
theorem within_wide {l : List Tok} {or : Option (Nat → PR)} {c : Nat} (ho : ∀ f, or = some f → WideP c f ∧ SomeP f) (s t : ByteArray) {a b : Nat} {y : List Prt} (h : withinP l or s t a = .ok b y) : b ≤ a + 2 + c * y.length ∧ 1 ≤ y.length := by
  unfold withinP at h
  split at h
  · cases h
  · cases or with
    | none => cases h
    | some f =>
      obtain ⟨d, y1, y2, h1, h2, rfl⟩ := then_ok h
      obtain ⟨rfl, rfl, _⟩ := need_ok h2
      have g1 := (ho f rfl).1 _ _ _ h1
      have g2 := (ho f rfl).2 _ _ _ h1
      rw [List.append_nil]
      omega
theorem named_wide {l : List Tok} {or : Option (Nat → PR)} {c : Nat} (ho : ∀ f, or = some f → WideP c f ∧ SomeP f) (s : ByteArray) {a b : Nat} {y : List Prt} (h : nmdP l or s a = .ok b y) : b ≤ a + 2 + c * y.length ∧ 1 ≤ y.length := by
  unfold nmdP at h
  split at h
  · obtain ⟨z, h1, rfl⟩ := put_ok h
    have g := within_wide ho _ _ h1
    simp only [List.length_append, List.length_singleton, Nat.mul_add, Nat.mul_one]
    omega
  · split at h
    · split at h
      · split at h
        · cases h
          simp only [List.length_singleton, Nat.mul_one]
          omega
        · cases h
      · cases h
    · cases h
      simp only [List.length_singleton, Nat.mul_one]
      omega
theorem prim_wide {l : List Tok} {or : Option (Nat → PR)} {c : Nat} (ho : ∀ f, or = some f → WideP c f ∧ SomeP f) : WideP (c + 3) (primP l or) ∧ SomeP (primP l or) := by
  have key : ∀ a b y, primP l or a = .ok b y → b ≤ a + (c + 3) * y.length ∧ 1 ≤ y.length := by
    intro a b y h
    have fin : b ≤ a + 3 + c * y.length ∧ 1 ≤ y.length → b ≤ a + (c + 3) * y.length ∧ 1 ≤ y.length := by
      rintro ⟨h1, h2⟩
      rw [Nat.add_mul]
      omega
    have one : ∀ (p : Prt) (n : Nat), n ≤ 3 → .ok (a + n) [p] = PR.ok b y → b ≤ a + 3 + c * y.length ∧ 1 ≤ y.length := by
      intro p n hn h
      cases h
      simp only [List.length_singleton]
      omega
    apply fin
    unfold primP at h
    split at h
    · have := within_wide ho _ _ h; omega
    · split at h
      · exact one _ 1 (by omega) h
      · split at h
        · exact one _ 1 (by omega) h
        · split at h
          · exact one _ 1 (by omega) h
          · split at h
            · obtain ⟨z, h1, rfl⟩ := put_ok h
              have g := within_wide ho _ _ h1
              simp only [List.length_append, List.length_singleton, Nat.mul_add, Nat.mul_one]
              omega
            · split at h
              · have := named_wide ho _ h; omega
              · have := within_wide ho _ _ h; omega
  exact ⟨fun a b y h => (key a b y h).1, fun a b y h => (key a b y h).2⟩
theorem unary_wide {l : List Tok} {un or : Option (Nat → PR)} {c : Nat} (hu : ∀ f, un = some f → WideP c f ∧ SomeP f) (ho : ∀ f, or = some f → WideP c f ∧ SomeP f) : WideP (c + 3) (unaryP l un or) ∧ SomeP (unaryP l un or) := by
  have key : ∀ a b y, unaryP l un or a = .ok b y → b ≤ a + (c + 3) * y.length ∧ 1 ≤ y.length := by
    intro a b y h
    have k2 : ∀ (p : Prt), (match un with | none => PR.no a 2 | some f => (f (a + 1)).put p) = .ok b y → b ≤ a + (c + 3) * y.length ∧ 1 ≤ y.length := by
      intro p hp
      cases un with
      | none => cases hp
      | some f =>
        obtain ⟨z, h1, rfl⟩ := put_ok hp
        have g1 := (hu f rfl).1 _ _ _ h1
        have g2 := (hu f rfl).2 _ _ _ h1
        simp only [List.length_append, List.length_singleton, Nat.mul_add, Nat.mul_one, Nat.add_mul]
        omega
    unfold unaryP at h
    split at h
    · exact k2 _ h
    · split at h
      · exact k2 _ h
      · exact ⟨(prim_wide ho).1 _ _ _ h, (prim_wide ho).2 _ _ _ h⟩
  exact ⟨fun a b y h => (key a b y h).1, fun a b y h => (key a b y h).2⟩
theorem un_wide (l : List Tok) : ∀ d, WideP (3 * (d + 1)) (unP l d) ∧ SomeP (unP l d)
  | 0 => unary_wide (c := 0) (fun _ h => by cases h) (fun _ h => by cases h)
  | d + 1 => by
    have ih := un_wide l d
    have := unary_wide (l := l) (c := 3 * (d + 1)) (un := some (unP l d)) (or := some (orP l (unP l d))) (fun f h => by cases h; exact ih)
      (fun f h => by cases h; exact ⟨foldl_wide (by omega) rows7 ih.1, foldl_some rows7 ih.2⟩)
    exact ⟨this.1.mono (by omega), this.2⟩
/-- What is read is at most so many tokens long. -/
theorem parse_short {l : List Tok} {x : List Prt} {n : Int} (h : parseP l 0 = .ok x n) : 0 ≤ n ∧ n ≤ 301500 ∧ n ≤ l.length ∧ x.length ≤ 500 := by
  unfold parseP at h
  rw [if_neg (by omega)] at h
  cases ho : orP l (unP l 200) (0 : Int).toNat with
  | no b e => rw [ho] at h; cases h
  | ok b y =>
    rw [ho] at h
    simp only at h
    split at h
    · cases h
    · rename_i hd
      cases h
      have g1 := foldl_wide (l := l) (by omega) rows7 (un_wide l 200).1 _ _ _ ho
      obtain ⟨k1, k2, k3⟩ := orP_good (un_good l 200) _ _ _ ho
      have hy : x.length ≤ 500 := by omega
      have h3 : 3 * (200 + 1) * x.length ≤ 603 * 500 := Nat.mul_le_mul_left 603 hy
      have h0 : (0 : Int).toNat = 0 := rfl
      rw [h0] at g1
      omega
end Cap
