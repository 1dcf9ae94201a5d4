/- How a plain text (words, decimal numbers, signs, blanks; no notes, no '#') is cut into tokens. -/
import Derived.Test.YtbnelgniekcjdaaGreatDoorCEPLaw
set_option linter.unusedSimpArgs false
set_option linter.unusedVariables false
namespace Cap
open Go Go.RowKit

def isLet (c : UInt8) : Bool := (decide (97 ≤ c) && decide (c ≤ 122)) || (decide (65 ≤ c) && decide (c ≤ 90)) || c == 95
def isDig (c : UInt8) : Bool := decide (48 ≤ c) && decide (c ≤ 57)
def isBl (c : UInt8) : Bool := c == 32 || c == 9 || c == 13 || c == 10
def upC (c : UInt8) : UInt8 := if decide (97 ≤ c) && decide (c ≤ 122) then c - 97 + 65 else c
def signs2 : List (List UInt8) := [[58, 61], [60, 61], [62, 61], [60, 62], [42, 42], [46, 46]]
def signs1 : List (List UInt8) := [[40], [41], [91], [93], [44], [59], [58], [46], [43], [45], [42], [47], [61], [60], [62], [38]]
def signL (r : List UInt8) : Option (List UInt8) := (signs2 ++ signs1).find? (fun s => s.isPrefixOf r)
def isNote (r : List UInt8) : Bool := [40, 42].isPrefixOf r || [47, 47].isPrefixOf r || [123].isPrefixOf r
def decL (w : List UInt8) : Nat := w.foldl (fun n c => n * 10 + (c.toNat - 48)) 0
/-- One token of a plain text, and how long it is. -/
def oneS (q : List UInt8) : Option (Tok × Nat) := match q with
  | [] => none
  | c :: _ =>
    if isLet c then
      let w := q.takeWhile (fun c => isLet c || isDig c)
      if 24 < w.length ∨ (q.drop w.length).head? = some 35 then none else some (⟨1, ⟨(w.map upC).toArray⟩, 0, 0, 0⟩, w.length)
    else if isDig c then
      let w := q.takeWhile isDig
      if 2147483648 < decL w ∨ (q.drop w.length).head? = some 35 ∨ (q.drop w.length).head? = some 95 then none else some (⟨2, ⟨#[]⟩, decL w, 0, 0⟩, w.length)
    else match signL q with
      | none => none
      | some s => some (⟨3, ⟨s.toArray⟩, 0, 0, 0⟩, s.length)
/-- The tokens of a plain text from a place on. -/
def tokS : Nat → Nat → List UInt8 → Option (List Tok)
  | 0, _, _ => none
  | f + 1, p, r =>
    let q := r.dropWhile isBl
    let p' := p + (r.length - q.length)
    if isNote q then none else match q with
    | [] => some [⟨4, ⟨#[]⟩, 0, 0, p'⟩]
    | _ :: _ => match oneS q with
      | none => none
      | some (t, n) => match tokS f (p' + n) (q.drop n) with
        | none => none
        | some l => some ({ t with pos := p' } :: l)
/-- The tokens of a plain text of less than 4096 bytes. -/
def textToks (s : ByteArray) : Option (List Tok) := if s.size < 4096 then tokS (s.size + 1) 0 s.data.toList else none
end Cap
