/- Tokens, and how an expression is read, plainly. -/
import Derived.Test.YtbnelgniekcjdaaGreatDoorCFSpec
set_option linter.unusedSimpArgs false
set_option linter.unusedVariables false
namespace Cap
open Go Go.RowKit

structure Tok where
  k : Int
  s : ByteArray
  n : Int
  ty : Int
  pos : Int
def eqB (a b : ByteArray) : Bool := a.toList == b.toList
/-- The texts of operations. -/
def signTxt : List ByteArray := [⟨#[]⟩, ⟨#[43]⟩, ⟨#[45]⟩, ⟨#[42]⟩, ⟨#[47]⟩, ⟨#[77, 79, 68]⟩, ⟨#[65, 78, 68]⟩, ⟨#[79, 82]⟩, ⟨#[88, 79, 82]⟩, ⟨#[61]⟩, ⟨#[60, 62]⟩, ⟨#[60]⟩, ⟨#[60, 61]⟩, ⟨#[62]⟩, ⟨#[62, 61]⟩, ⟨#[45]⟩, ⟨#[78, 79, 84]⟩]
def signAt (n : Nat) : ByteArray := signTxt.getD n ⟨#[]⟩
/-- Does a token stand at a place? -/
def isTok (l : List Tok) (a : Nat) (k : Int) (s : ByteArray) : Bool := match l[a]? with
  | none => false
  | some t => t.k == k && eqB t.s s
def isOpAt (l : List Tok) (a : Nat) (n : Nat) : Bool :=
  isTok l a 3 (signAt n) || isTok l a 1 (signAt n) || (n == 6 && (isTok l a 3 ⟨#[38]⟩ || isTok l a 1 ⟨#[38]⟩))
/-- One of a row that stands at a place; 0: none. -/
def opsAt (l : List Tok) (a : Nat) : List Nat → Nat
  | [] => 0
  | n :: r => if isOpAt l a n then n else opsAt l a r
/-- What is read: the place behind and the parts; or the place and why not. -/
inductive PR
  | ok (a : Nat) (y : List Prt)
  | no (a : Nat) (e : Int)
/-- The place behind what is read, or where it ended. -/
def PR.at_ : PR → Nat
  | .ok a _ => a
  | .no a _ => a
def PR.put (r : PR) (p : Prt) : PR := match r with
  | .ok a y => .ok a (y ++ [p])
  | .no a e => .no a e
def PR.then (r : PR) (f : Nat → PR) : PR := match r with
  | .no a e => .no a e
  | .ok a y => match f a with
    | .no b e => .no b e
    | .ok b z => .ok b (y ++ z)
/-- The operations of one row behind a value. -/
def rowGo (l : List Tok) (inner : Nat → PR) (row : List Nat) : Nat → Nat → PR
  | 0, a => .ok a []
  | f + 1, a => if opsAt l a row = 0 then .ok a [] else ((inner (a + 1)).put (opP (opsAt l a row))).then (rowGo l inner row f)
def rowP (l : List Tok) (inner : Nat → PR) (row : List Nat) (a : Nat) : PR := (inner a).then fun b => rowGo l inner row (l.length - b) b
def rows7 : List (List Nat) := [[3, 4, 5], [1, 2], [11, 12, 13, 14], [9, 10], [6], [8], [7]]
def orP (l : List Tok) (un : Nat → PR) : Nat → PR := rows7.foldl (rowP l) un
/-- A sign that must stand. -/
def needP (l : List Tok) (s : ByteArray) (a : Nat) : PR := if isTok l a 3 s then .ok (a + 1) [] else .no a 60
/-- Between two signs, what is read deeper being told. -/
def withinP (l : List Tok) (or : Option (Nat → PR)) (from_ to : ByteArray) (a : Nat) : PR :=
  if isTok l a 3 from_ = false then .no a 60 else match or with
    | none => .no a 2
    | some f => (f (a + 1)).then (needP l to)
def nmdP (l : List Tok) (or : Option (Nat → PR)) (s : ByteArray) (a : Nat) : PR :=
  if isTok l a 3 ⟨#[91]⟩ then (withinP l or ⟨#[91]⟩ ⟨#[93]⟩ a).put (indexP s)
  else if isTok l a 3 ⟨#[46]⟩ then match l[a + 1]? with
    | some t => if t.k = 1 then .ok (a + 2) [fieldP s t.s] else .no (a + 1) 60
    | none => .no (a + 1) 60
  else .ok a [varP s]
/-- Which conversion a text is: its type; 0 for an empty text; -1: none. -/
def convOf (s : ByteArray) : Int :=
  if eqB s ⟨#[]⟩ then 0 else if eqB s ⟨#[84, 79, 95, 73, 78, 84]⟩ then 2 else if eqB s ⟨#[84, 79, 95, 68, 73, 78, 84]⟩ then 3 else if eqB s ⟨#[84, 79, 95, 84, 73, 77, 69]⟩ then 4 else -1
def primP (l : List Tok) (or : Option (Nat → PR)) (a : Nat) : PR := match l[a]? with
  | none => withinP l or ⟨#[40]⟩ ⟨#[41]⟩ a
  | some t =>
    if t.k = 2 then .ok (a + 1) [numP t.n t.ty]
    else if t.k = 1 ∧ eqB t.s ⟨#[84, 82, 85, 69]⟩ = true then .ok (a + 1) [numP 1 1]
    else if t.k = 1 ∧ eqB t.s ⟨#[70, 65, 76, 83, 69]⟩ = true then .ok (a + 1) [numP 0 1]
    else if t.k = 1 ∧ 2 ≤ convOf t.s then (withinP l or ⟨#[40]⟩ ⟨#[41]⟩ (a + 1)).put (toP (convOf t.s))
    else if t.k = 1 ∧ isName t.s = true then nmdP l or t.s (a + 1)
    else withinP l or ⟨#[40]⟩ ⟨#[41]⟩ a
def unaryP (l : List Tok) (un or : Option (Nat → PR)) (a : Nat) : PR :=
  if isTok l a 1 ⟨#[78, 79, 84]⟩ then (match un with | none => PR.no a 2 | some f => (f (a + 1)).put (opP 16))
  else if isTok l a 3 ⟨#[45]⟩ then (match un with | none => PR.no a 2 | some f => (f (a + 1)).put (opP 15))
  else primP l or a
/-- A value, so many deeper at most. -/
def unP (l : List Tok) : Nat → Nat → PR
  | 0 => unaryP l none none
  | d + 1 => unaryP l (some (unP l d)) (some (orP l (unP l d)))
/-- What an expression is read as from a place on. -/
inductive Read
  | ok (x : List Prt) (next : Int)
  | no (at_ e : Int)
def parseP (l : List Tok) (a : Int) : Read :=
  if a < 0 ∨ (l.length : Int) < a then .no 0 1 else match orP l (unP l 200) a.toNat with
    | .no b e => .no b e
    | .ok b y => if 500 < y.length ∨ 24 < depthL y then .no a 2 else .ok y b
end Cap
namespace Go.Proofs.YtbnelgniekcjdaaGreatDoor
open Go.RowKit Cap
def encTok (t : Tok) : List Value := [.int .i64 t.k, .string t.s, .int .i64 t.n, .int .i64 t.ty, .int .i64 t.pos]
theorem encTok_len (t : Tok) : (encTok t).length = 5 := rfl
end Go.Proofs.YtbnelgniekcjdaaGreatDoor

/- How far an expression's reading goes, plainly. -/
namespace Cap
open Go Go.RowKit

/-- What is read ends behind where it begins, within the tokens; it has no more parts than tokens. -/
def GoodP (l : List Tok) (f : Nat → PR) : Prop := ∀ a b y, f a = .ok b y → a < b ∧ b ≤ l.length ∧ y.length ≤ b - a
def GoodP0 (l : List Tok) (f : Nat → PR) : Prop := ∀ a b y, a ≤ l.length → f a = .ok b y → a ≤ b ∧ b ≤ l.length ∧ y.length ≤ b - a
theorem put_ok {r : PR} {p : Prt} {b : Nat} {y : List Prt} (h : r.put p = .ok b y) : ∃ z, r = .ok b z ∧ y = z ++ [p] := by
  cases r with
  | ok a z =>
    unfold PR.put at h
    injection h with h1 h2
    subst h1
    exact ⟨z, rfl, h2.symm⟩
  | no a e => cases h
theorem then_ok {r : PR} {f : Nat → PR} {b : Nat} {y : List Prt} (h : r.then f = .ok b y) : ∃ a y1 y2, r = .ok a y1 ∧ f a = .ok b y2 ∧ y = y1 ++ y2 := by
  cases r with
  | no a e => cases h
  | ok a z =>
    unfold PR.then at h
    simp only at h
    cases hf : f a with
    | no c e => rw [hf] at h; cases h
    | ok c u =>
      rw [hf] at h
      simp only at h
      injection h with h1 h2
      subst h1
      exact ⟨a, z, u, rfl, hf, h2.symm⟩
theorem isTok_lt {l : List Tok} {a : Nat} {k : Int} {s : ByteArray} (h : isTok l a k s = true) : a < l.length := by
  unfold isTok at h
  cases hl : l[a]? with
  | none => rw [hl] at h; cases h
  | some t => exact (List.getElem?_eq_some_iff.1 hl).1
theorem opsAt_lt {l : List Tok} {a : Nat} : ∀ {row : List Nat}, opsAt l a row ≠ 0 → a < l.length
  | [], h => absurd rfl h
  | n :: r, h => by
    unfold opsAt at h
    cases ho : isOpAt l a n with
    | false => rw [ho] at h; exact opsAt_lt h
    | true =>
      unfold isOpAt at ho
      simp only [Bool.or_eq_true, Bool.and_eq_true] at ho
      rcases ho with (ho | ho) | ⟨_, ho | ho⟩ <;> exact isTok_lt ho
theorem rowGo_good {l : List Tok} {inner : Nat → PR} {row : List Nat} (hi : GoodP l inner) : ∀ f, GoodP0 l (rowGo l inner row f)
  | 0, a, b, y, ha, h => by
    unfold rowGo at h
    injection h with h1 h2
    subst h1 h2
    exact ⟨Nat.le_refl _, ha, by simp⟩
  | f + 1, a, b, y, ha, h => by
    unfold rowGo at h
    by_cases h0 : opsAt l a row = 0
    · rw [if_pos h0] at h
      injection h with h1 h2
      subst h1 h2
      exact ⟨Nat.le_refl _, ha, by simp⟩
    · rw [if_neg h0] at h
      obtain ⟨c, y1, y2, h1, h2, rfl⟩ := then_ok h
      obtain ⟨z, h3, rfl⟩ := put_ok h1
      obtain ⟨g1, g2, g3⟩ := hi _ _ _ h3
      obtain ⟨k1, k2, k3⟩ := rowGo_good hi f c b y2 g2 h2
      refine ⟨by omega, k2, ?_⟩
      simp only [List.length_append, List.length_cons, List.length_nil]
      omega
theorem opsAt_end {l : List Tok} {row : List Nat} {a : Nat} (h : l.length ≤ a) : opsAt l a row = 0 := by
  rcases Nat.eq_zero_or_pos (opsAt l a row) with h0 | h0
  · exact h0
  · have := opsAt_lt (l := l) (a := a) (row := row) (by omega)
    omega
theorem rowGo_none {l : List Tok} {inner : Nat → PR} {row : List Nat} {a : Nat} (h : opsAt l a row = 0) : ∀ f, rowGo l inner row f a = .ok a []
  | 0 => rfl
  | f + 1 => by rw [rowGo, if_pos h]
theorem rowGo_fuel {l : List Tok} {inner : Nat → PR} {row : List Nat} (hi : GoodP l inner) : ∀ f f' a, l.length - a ≤ f → l.length - a ≤ f' → rowGo l inner row f a = rowGo l inner row f' a := by
  intro f
  induction f with
  | zero =>
    intro f' a h h'
    rw [rowGo_none (opsAt_end (by omega)), rowGo_none (opsAt_end (by omega))]
  | succ f ih =>
    intro f' a h h'
    by_cases h0 : opsAt l a row = 0
    · rw [rowGo_none h0, rowGo_none h0]
    · have hlt := opsAt_lt h0
      obtain ⟨f', rfl⟩ : ∃ k, f' = k + 1 := ⟨f' - 1, by omega⟩
      rw [rowGo, rowGo, if_neg h0, if_neg h0]
      cases hg : inner (a + 1) with
      | no b e => rfl
      | ok b y =>
        obtain ⟨g1, g2, g3⟩ := hi _ _ _ hg
        unfold PR.put PR.then
        simp only
        rw [ih f' b (by omega) (by omega)]
/-- One more operation of the row. -/
theorem rowGo_step {l : List Tok} {inner : Nat → PR} {row : List Nat} {a : Nat} (hi : GoodP l inner) (h0 : opsAt l a row ≠ 0) :
    rowGo l inner row (l.length - a) a = ((inner (a + 1)).put (opP (opsAt l a row))).then fun b => rowGo l inner row (l.length - b) b := by
  have hlt := opsAt_lt h0
  obtain ⟨f, hf⟩ : ∃ k, l.length - a = k + 1 := ⟨l.length - a - 1, by omega⟩
  rw [hf, rowGo, if_neg h0]
  cases hg : inner (a + 1) with
  | no b e => rfl
  | ok b y =>
    obtain ⟨g1, g2, g3⟩ := hi _ _ _ hg
    unfold PR.put PR.then
    simp only
    rw [rowGo_fuel hi f (l.length - b) b (by omega) (by omega)]
theorem then_step {b c : Nat} {y z : List Prt} {p : Prt} {r : PR} {F : Nat → PR} (hF : F b = (r.put p).then F) (hr : r = .ok c z) : (PR.ok b y).then F = (PR.ok c (y ++ (z ++ [p]))).then F := by
  subst hr
  unfold PR.then
  simp only [hF, PR.put]
  unfold PR.then
  simp only
  cases F c with
  | no d e => rfl
  | ok d u => simp
theorem then_no {b c : Nat} {e : Int} {y : List Prt} {p : Prt} {r : PR} {F : Nat → PR} (hF : F b = (r.put p).then F) (hr : r = .no c e) : (PR.ok b y).then F = .no c e := by
  subst hr
  unfold PR.then
  simp only [hF]
  rfl
theorem rowP_good {l : List Tok} {inner : Nat → PR} (row : List Nat) (hi : GoodP l inner) : GoodP l (rowP l inner row) := by
  intro a b y h
  obtain ⟨c, y1, y2, h1, h2, rfl⟩ := then_ok h
  obtain ⟨g1, g2, g3⟩ := hi _ _ _ h1
  obtain ⟨k1, k2, k3⟩ := rowGo_good hi _ c b y2 g2 h2
  refine ⟨by omega, k2, ?_⟩
  rw [List.length_append]
  omega
theorem foldl_good {l : List Tok} : ∀ (rs : List (List Nat)) {un : Nat → PR}, GoodP l un → GoodP l (rs.foldl (rowP l) un)
  | [], _, h => h
  | r :: rs, _, h => foldl_good rs (rowP_good r h)
theorem orP_good {l : List Tok} {un : Nat → PR} (h : GoodP l un) : GoodP l (orP l un) := foldl_good rows7 h
theorem need_ok {l : List Tok} {s : ByteArray} {a b : Nat} {y : List Prt} (h : needP l s a = .ok b y) : b = a + 1 ∧ y = [] ∧ isTok l a 3 s = true := by
  unfold needP at h
  cases ht : isTok l a 3 s with
  | false => rw [ht] at h; cases h
  | true =>
    rw [ht] at h
    injection h with h1 h2
    exact ⟨h1.symm, h2.symm, rfl⟩
theorem within_good {l : List Tok} {or : Option (Nat → PR)} (h : ∀ f, or = some f → GoodP l f) (from_ to : ByteArray) {a b : Nat} {y : List Prt} (hw : withinP l or from_ to a = .ok b y) : a + 2 < b ∧ b ≤ l.length ∧ y.length + 2 ≤ b - a := by
  unfold withinP at hw
  cases ht : isTok l a 3 from_ with
  | false => rw [ht] at hw; cases hw
  | true =>
    rw [ht] at hw
    rw [if_neg (by decide)] at hw
    cases or with
    | none => cases hw
    | some f =>
      simp only at hw
      obtain ⟨c, y1, y2, h1, h2, rfl⟩ := then_ok hw
      obtain ⟨g1, g2, g3⟩ := h f rfl _ _ _ h1
      obtain ⟨rfl, rfl, h4⟩ := need_ok h2
      have := isTok_lt h4
      refine ⟨by omega, by omega, ?_⟩
      rw [List.append_nil]
      omega
theorem named_good {l : List Tok} {or : Option (Nat → PR)} (h : ∀ f, or = some f → GoodP l f) (s : ByteArray) {a b : Nat} {y : List Prt} (ha : a ≤ l.length) (hw : nmdP l or s a = .ok b y) : a ≤ b ∧ b ≤ l.length ∧ y.length ≤ b + 1 - a := by
  unfold nmdP at hw
  split at hw
  · obtain ⟨z, h1, rfl⟩ := put_ok hw
    obtain ⟨g1, g2, g3⟩ := within_good h _ _ h1
    refine ⟨by omega, g2, ?_⟩
    rw [List.length_append, List.length_singleton]
    omega
  · split at hw
    · split at hw
      · rename_i t ht
        have := (List.getElem?_eq_some_iff.1 ht).1
        split at hw
        · injection hw with h1 h2
          subst h1 h2
          refine ⟨by omega, by omega, ?_⟩
          simp only [List.length_cons, List.length_nil]
          omega
        · cases hw
      · cases hw
    · injection hw with h1 h2
      subst h1 h2
      exact ⟨Nat.le_refl _, ha, by simp⟩
theorem prim_good {l : List Tok} {or : Option (Nat → PR)} (h : ∀ f, or = some f → GoodP l f) : GoodP l (primP l or) := by
  intro a b y hw
  unfold primP at hw
  split at hw
  · obtain ⟨g1, g2, g3⟩ := within_good h _ _ hw
    exact ⟨by omega, g2, by omega⟩
  · rename_i t ht
    have hlt := (List.getElem?_eq_some_iff.1 ht).1
    split at hw
    · injection hw with h1 h2
      subst h1 h2
      exact ⟨by omega, by omega, by simp⟩
    · split at hw
      · injection hw with h1 h2
        subst h1 h2
        exact ⟨by omega, by omega, by simp⟩
      · split at hw
        · injection hw with h1 h2
          subst h1 h2
          exact ⟨by omega, by omega, by simp⟩
        · split at hw
          · obtain ⟨z, h1, rfl⟩ := put_ok hw
            obtain ⟨g1, g2, g3⟩ := within_good h _ _ h1
            refine ⟨by omega, g2, ?_⟩
            rw [List.length_append, List.length_singleton]
            omega
          · split at hw
            · obtain ⟨g1, g2, g3⟩ := named_good h _ (by omega) hw
              exact ⟨by omega, g2, by omega⟩
            · obtain ⟨g1, g2, g3⟩ := within_good h _ _ hw
              exact ⟨by omega, g2, by omega⟩
theorem unary_good {l : List Tok} {un or : Option (Nat → PR)} (hu : ∀ f, un = some f → GoodP l f) (h : ∀ f, or = some f → GoodP l f) : GoodP l (unaryP l un or) := by
  intro a b y hw
  unfold unaryP at hw
  have key : ∀ (p : Prt), (match un with | none => PR.no a 2 | some f => (f (a + 1)).put p) = .ok b y → a < b ∧ b ≤ l.length ∧ y.length ≤ b - a := by
    intro p hp
    cases un with
    | none => cases hp
    | some f =>
      simp only at hp
      obtain ⟨z, h1, rfl⟩ := put_ok hp
      obtain ⟨g1, g2, g3⟩ := hu f rfl _ _ _ h1
      refine ⟨by omega, g2, ?_⟩
      rw [List.length_append, List.length_singleton]
      omega
  split at hw
  · exact key _ hw
  · split at hw
    · exact key _ hw
    · exact prim_good h a b y hw
theorem un_good (l : List Tok) : ∀ d, GoodP l (unP l d)
  | 0 => unary_good (fun _ h => by cases h) (fun _ h => by cases h)
  | d + 1 => unary_good (fun f h => by cases h; exact un_good l d) (fun f h => by cases h; exact orP_good (un_good l d))
end Cap
