/- Tokens, and how an expression is read, plainly. -/
import Derived.Test.YtbnelgniekcjdaaGreatDoorCFSpec
set_option linter.unusedSimpArgs false
set_option linter.unusedVariables false
namespace Cap
open Go Go.RowKit

structure Tok where
  k : Int
  s : ByteArray
  n : Int
  ty : Int
  pos : Int
def eqB (a b : ByteArray) : Bool := a.toList == b.toList
/-- The texts of operations. -/
def signTxt : List ByteArray := [⟨#[]⟩, ⟨#[43]⟩, ⟨#[45]⟩, ⟨#[42]⟩, ⟨#[47]⟩, ⟨#[77, 79, 68]⟩, ⟨#[65, 78, 68]⟩, ⟨#[79, 82]⟩, ⟨#[88, 79, 82]⟩, ⟨#[61]⟩, ⟨#[60, 62]⟩, ⟨#[60]⟩, ⟨#[60, 61]⟩, ⟨#[62]⟩, ⟨#[62, 61]⟩, ⟨#[45]⟩, ⟨#[78, 79, 84]⟩]
def signAt (n : Nat) : ByteArray := signTxt.getD n ⟨#[]⟩
/-- Does a token stand at a place? -/
def isTok (l : List Tok) (a : Nat) (k : Int) (s : ByteArray) : Bool := match l[a]? with
  | none => false
  | some t => t.k == k && eqB t.s s
def isOpAt (l : List Tok) (a : Nat) (n : Nat) : Bool :=
  isTok l a 3 (signAt n) || isTok l a 1 (signAt n) || (n == 6 && (isTok l a 3 ⟨#[38]⟩ || isTok l a 1 ⟨#[38]⟩))
/-- One of a row that stands at a place; 0: none. -/
def opsAt (l : List Tok) (a : Nat) : List Nat → Nat
  | [] => 0
  | n :: r => if isOpAt l a n then n else opsAt l a r
/-- What is read: the place behind and the parts; or the place and why not. -/
inductive PR
  | ok (a : Nat) (y : List Prt)
  | no (a : Nat) (e : Int)
/-- The place behind what is read, or where it ended. -/
def PR.at_ : PR → Nat
  | .ok a _ => a
  | .no a _ => a
def PR.put (r : PR) (p : Prt) : PR := match r with
  | .ok a y => .ok a (y ++ [p])
  | .no a e => .no a e
def PR.then (r : PR) (f : Nat → PR) : PR := match r with
  | .no a e => .no a e
  | .ok a y => match f a with
    | .no b e => .no b e
    | .ok b z => .ok b (y ++ z)
/-- The operations of one row behind a value. -/
def rowGo (l : List Tok) (inner : Nat → PR) (row : List Nat) : Nat → Nat → PR
  | 0, a => .ok a []
  | f + 1, a => if opsAt l a row = 0 then .ok a [] else ((inner (a + 1)).put (opP (opsAt l a row))).then (rowGo l inner row f)
def rowP (l : List Tok) (inner : Nat → PR) (row : List Nat) (a : Nat) : PR := (inner a).then fun b => rowGo l inner row (l.length - b) b
def rows7 : List (List Nat) := [[3, 4, 5], [1, 2], [11, 12, 13, 14], [9, 10], [6], [8], [7]]
def orP (l : List Tok) (un : Nat → PR) : Nat → PR := rows7.foldl (rowP l) un
/-- A sign that must stand. -/
def needP (l : List Tok) (s : ByteArray) (a : Nat) : PR := if isTok l a 3 s then .ok (a + 1) [] else .no a 60
/-- Between two signs, what is read deeper being told. -/
def withinP (l : List Tok) (or : Option (Nat → PR)) (from_ to : ByteArray) (a : Nat) : PR :=
  if isTok l a 3 from_ = false then .no a 60 else match or with
    | none => .no a 2
    | some f => (f (a + 1)).then (needP l to)
def nmdP (l : List Tok) (or : Option (Nat → PR)) (s : ByteArray) (a : Nat) : PR :=
  if isTok l a 3 ⟨#[91]⟩ then (withinP l or ⟨#[91]⟩ ⟨#[93]⟩ a).put (indexP s)
  else if isTok l a 3 ⟨#[46]⟩ then match l[a + 1]? with
    | some t => if t.k = 1 then .ok (a + 2) [fieldP s t.s] else .no (a + 1) 60
    | none => .no (a + 1) 60
  else .ok a [varP s]
/-- Which conversion a text is: its type; 0 for an empty text; -1: none. -/
def convOf (s : ByteArray) : Int :=
  if eqB s ⟨#[]⟩ then 0 else if eqB s ⟨#[84, 79, 95, 73, 78, 84]⟩ then 2 else if eqB s ⟨#[84, 79, 95, 68, 73, 78, 84]⟩ then 3 else if eqB s ⟨#[84, 79, 95, 84, 73, 77, 69]⟩ then 4 else -1
def primP (l : List Tok) (or : Option (Nat → PR)) (a : Nat) : PR := match l[a]? with
  | none => withinP l or ⟨#[40]⟩ ⟨#[41]⟩ a
  | some t =>
    if t.k = 2 then .ok (a + 1) [numP t.n t.ty]
    else if t.k = 1 ∧ eqB t.s ⟨#[84, 82, 85, 69]⟩ = true then .ok (a + 1) [numP 1 1]
    else if t.k = 1 ∧ eqB t.s ⟨#[70, 65, 76, 83, 69]⟩ = true then .ok (a + 1) [numP 0 1]
    else if t.k = 1 ∧ 2 ≤ convOf t.s then (withinP l or ⟨#[40]⟩ ⟨#[41]⟩ (a + 1)).put (toP (convOf t.s))
    else if t.k = 1 ∧ isName t.s = true then nmdP l or t.s (a + 1)
    else withinP l or ⟨#[40]⟩ ⟨#[41]⟩ a
def unaryP (l : List Tok) (un or : Option (Nat → PR)) (a : Nat) : PR :=
  if isTok l a 1 ⟨#[78, 79, 84]⟩ then (match un with | none => PR.no a 2 | some f => (f (a + 1)).put (opP 16))
  else if isTok l a 3 ⟨#[45]⟩ then (match un with | none => PR.no a 2 | some f => (f (a + 1)).put (opP 15))
  else primP l or a
/-- A value, so many deeper at most. -/
def unP (l : List Tok) : Nat → Nat → PR
  | 0 => unaryP l none none
  | d + 1 => unaryP l (some (unP l d)) (some (orP l (unP l d)))
/-- What an expression is read as from a place on. -/
inductive Read
  | ok (x : List Prt) (next : Int)
  | no (at_ e : Int)
def parseP (l : List Tok) (a : Int) : Read :=
  if a < 0 ∨ (l.length : Int) < a then .no 0 1 else match orP l (unP l 200) a.toNat with
    | .no b e => .no b e
    | .ok b y => if 500 < y.length ∨ 24 < depthL y then .no a 2 else .ok y b
end Cap
namespace Go.Proofs.YtbnelgniekcjdaaGreatDoor
open Go.RowKit Cap
def encTok (t : Tok) : List Value := [.int .i64 t.k, .string t.s, .int .i64 t.n, .int .i64 t.ty, .int .i64 t.pos]
theorem encTok_len (t : Tok) : (encTok t).length = 5 := rfl
end Go.Proofs.YtbnelgniekcjdaaGreatDoor
