/- Expressions, variables, types of expressions and folding, plainly. -/
import Derived.Test.YtbnelgniekcjdaaGreatDoorCKit
set_option linter.unusedSimpArgs false
set_option linter.unusedVariables false
namespace Cap
open Go Go.RowKit

structure Prt where
  k : Int
  n : Int
  t : Int
  s : ByteArray
  f : ByteArray
structure Vr where
  name : ByteArray
  ty : Int
  len : Int
  init : Int
  dir : Int
/-- Is a text empty? -/
def noS (s : ByteArray) : Bool := s.toList.isEmpty
/-- How many values a part works on (package expr). -/
def takesE (p : Prt) : Nat := if p.k = 3 ∨ p.k = 6 ∨ (p.k = 5 ∧ 15 ≤ p.n ∧ p.n ≤ 16) then 1 else if p.k = 5 then 2 else 0
/-- How many values a part works on (packages typed, fold). -/
def takesT (p : Prt) : Nat := if p.k = 3 ∨ p.k = 6 ∨ (p.k = 5 ∧ 15 ≤ p.n) then 1 else if p.k = 5 then 2 else 0
def maxL : List Int → Int
  | [] => 0
  | x :: r => r.foldl max x
/-- One part's step of the depths. -/
def depthStep (p : Prt) (st : List Int) : List Int := st.take (st.length - takesE p) ++ [1 + if takesE p = 0 then 0 else maxL (st.drop (st.length - takesE p))]
def depthGo : List Prt → List Int → Option (List Int)
  | [], st => some st
  | p :: r, st => if st.length < takesE p then none else depthGo r (depthStep p st)
def depthL (x : List Prt) : Int := match depthGo x [] with
  | some [d] => d
  | _ => 0
/-- May a part be? -/
def mayP (p : Prt) : Bool :=
  if p.k = 1 then (fits p.t p.n || (p.t == 0 && decide (-2147483648 ≤ p.n) && decide (p.n ≤ 2147483648))) && (noS p.s && noS p.f)
  else if p.k = 2 ∨ p.k = 3 then isName p.s && (p.n == 0 && p.t == 0 && noS p.f)
  else if p.k = 4 then isName p.s && isWord p.f && (p.n == 0 && p.t == 0)
  else if p.k = 5 then decide (1 ≤ p.n) && decide (p.n ≤ 16) && (p.t == 0 && noS p.s && noS p.f)
  else p.k == 6 && decide (2 ≤ p.t) && decide (p.t ≤ 4) && (p.n == 0 && noS p.s && noS p.f)
/-- expr.Check. -/
def checkX (x : List Prt) : Int :=
  if 500 < x.length then 2 else if depthL x = 0 ∨ 24 < depthL x ∨ x.any (fun p => !mayP p) = true then 60 else 0
/-- decl.may. -/
def mayV (v : Vr) : Bool :=
  if isName v.name = false ∨ v.dir < 0 ∨ 2 < v.dir then false
  else if 100 < v.ty then (v.dir == 0 && v.init == 0) && decide (v.ty ≤ 110) && v.len == 0
  else if fits v.ty 0 = false then false
  else if v.len ≠ 0 then (v.dir == 0 && v.init == 0) && decide (1 ≤ v.len) && decide (v.len ≤ 32)
  else fits v.ty v.init && (v.ty != 4 || decide (0 ≤ v.init))
/-- typed.wrong. -/
def wrongV (vars : List Vr) : Int := if 64 < vars.length then 2 else if vars.any (fun v => !mayV v) = true then 80 else 0
/-- Parts of each kind. -/
def opP (n : Int) : Prt := ⟨5, n, 0, ⟨#[]⟩, ⟨#[]⟩⟩
def varP (s : ByteArray) : Prt := ⟨2, 0, 0, s, ⟨#[]⟩⟩
def indexP (s : ByteArray) : Prt := ⟨3, 0, 0, s, ⟨#[]⟩⟩
def fieldP (s f : ByteArray) : Prt := ⟨4, 0, 0, s, f⟩
def toP (t : Int) : Prt := ⟨6, 0, t, ⟨#[]⟩, ⟨#[]⟩⟩
def numP (n t : Int) : Prt := ⟨1, n, t, ⟨#[]⟩, ⟨#[]⟩⟩
end Cap
namespace Go.Proofs.YtbnelgniekcjdaaGreatDoor
open Go.RowKit Cap
def encPrt (p : Prt) : List Value := [.int .i64 p.k, .int .i64 p.n, .int .i64 p.t, .string p.s, .string p.f]
def prtV (p : Prt) : Value := .agg #[.int .i64 p.k, .int .i64 p.n, .int .i64 p.t, .string p.s, .string p.f]
def encVr (v : Vr) : List Value := [.string v.name, .int .i64 v.ty, .int .i64 v.len, .int .i64 v.init, .int .i64 v.dir]
def vrV (v : Vr) : Value := .agg #[.string v.name, .int .i64 v.ty, .int .i64 v.len, .int .i64 v.init, .int .i64 v.dir]
theorem encPrt_len (p : Prt) : (encPrt p).length = 5 := rfl
theorem encVr_len (v : Vr) : (encVr v).length = 5 := rfl
end Go.Proofs.YtbnelgniekcjdaaGreatDoor

/- Has a part a name? -/
namespace Cap
open Go Go.RowKit
/-- Has a part a name? -/
def namedP (p : Prt) : Bool := !p.s.toList.isEmpty
end Cap
namespace Go.Proofs.YtbnelgniekcjdaaGreatDoor
open Go.RowKit Cap
theorem ne_i {a b : Int} (h : ¬ a = b) : (a == b) = false := by simpa using h
theorem checkX_ok {x : List Prt} (h : checkX x = 0) : x.length ≤ 500 ∧ (∃ d, depthGo x [] = some [d]) ∧ ∀ p ∈ x, mayP p = true := by
  unfold checkX at h
  by_cases h500 : 500 < x.length
  · rw [if_pos h500] at h
    omega
  · rw [if_neg h500] at h
    by_cases hc : depthL x = 0 ∨ 24 < depthL x ∨ x.any (fun p => !mayP p) = true
    · rw [if_pos hc] at h
      omega
    · refine ⟨by omega, ?_, fun p hp => ?_⟩
      · have hd : depthL x ≠ 0 := fun h' => hc (.inl h')
        unfold depthL at hd
        split at hd
        · rename_i d hq
          exact ⟨d, hq⟩
        · exact absurd rfl hd
      · cases hm : mayP p with
        | true => rfl
        | false =>
          exfalso
          apply hc
          right
          right
          rw [List.any_eq_true]
          exact ⟨p, hp, by rw [hm]; rfl⟩
end Go.Proofs.YtbnelgniekcjdaaGreatDoor
