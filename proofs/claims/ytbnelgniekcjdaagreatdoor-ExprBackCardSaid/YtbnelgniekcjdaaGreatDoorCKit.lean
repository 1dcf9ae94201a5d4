/- Plain functions: the numbers of package num. No program in sight. -/
import Derived.RowKit
import Derived.Laws.BitsLemmas
import Derived.Laws.Bits64
import Derived.IntWalk
import Derived.Lib.SlTrimSet
import Derived.Shelf.Strings.Search3
import Derived.WalkKit
import Derived.WalkSpells
import Derived.WalkLawsBesides
import Derived.Laws.EntriesVeiled
import Derived.Lib.Hide
import Derived.Deep.LoopGhost
import Derived.Deep.QuietTactic
import Derived.BigQuiet
import Derived.Deep.AppendSrc
import Derived.Deep.Upon
import Derived.WalkSmall
set_option linter.unusedSimpArgs false
set_option linter.unusedVariables false
namespace Cap
open Go Go.RowKit

/-! ### package num -/
def known (t : Int) : Bool := decide (1 ≤ t) && decide (t ≤ 4)
def kindsOf (n : Int) : Int := if n ≤ 2 then 28 else if n ≤ 5 then 12 else if n ≤ 8 then 14 else if n ≤ 10 then 30 else if n ≤ 15 then 28 else 14
def oneOf (n : Int) : Bool := decide (15 ≤ n)
def truthOf (n : Int) : Bool := decide (9 ≤ n) && decide (n ≤ 14)
def hasK (k t : Int) : Bool := known t && ((k / 2 ^ t.toNat) % 2 == 1)
def isOp (n : Int) : Bool := decide (1 ≤ n) && decide (n ≤ 16)
def opHas (n t : Int) : Bool := isOp n && hasK (kindsOf n) t
def wrap16 (n : Int) : Int := (n + 32768) % 65536 - 32768
def wrapT (t n : Int) : Int := if t = 1 then n % 2 else if t = 2 then wrap16 n else wrap32 n
def fits (t n : Int) : Bool := known t && (wrapT t n == n)
def flag (b : Bool) : Int := if b then 1 else 0
def opDo (n a b : Int) : Int :=
  if n = 1 then wrap64 (a + b) else if n = 2 then wrap64 (a - b) else if n = 3 then wrap64 (a * b)
  else if n = 4 then wrap64 (a.tdiv b) else if n = 5 then a.tmod b
  else if n = 6 then bits .and .i64 a b else if n = 7 then bits .or .i64 a b else if n = 8 then bits .xor .i64 a b
  else if n = 9 then flag (a == b) else if n = 10 then flag (a != b)
  else if n = 11 then flag (decide (a < b)) else if n = 12 then flag (decide (a ≤ b))
  else if n = 13 then flag (decide (b < a)) else if n = 14 then flag (decide (b ≤ a))
  else if n = 15 then wrap64 (-a) else bits .xor .i64 (-1) a
/-- A number and an error, both told. -/
abbrev NE := Int × Int
def wrapN (t n : Int) : NE := if known t then (wrapT t n, 0) else (0, 40)
def result (n t : Int) : NE := if opHas n t = false then (0, 40) else if truthOf n then (1, 0) else (t, 0)
def does (n t : Int) (one : Bool) (a b : Int) : NE :=
  if isOp n = false then (0, 40) else if (oneOf n == one) = false then (0, 40) else if hasK (kindsOf n) t = false then (0, 40)
  else if fits t a = false then (0, 1) else if fits t b = false then (0, 1)
  else if (n = 4 ∨ n = 5) ∧ b = 0 then (0, 41)
  else if truthOf n then (opDo n a b, 0) else (wrapT t (opDo n a b), 0)
def two (n t a b : Int) : NE := does n t false a b
def one (n t a : Int) : NE := does n t true a a
def numConvert (f t n : Int) : NE :=
  if known f = false then (0, 40) else if known t = false then (0, 40) else if ((f == 1) == (t == 1)) = false then (0, 40)
  else if fits f n = false then (0, 1) else (wrapT t n, 0)

/-- 'n & 1' of an int64. -/
theorem and_one_i64 (n : Int) : bits BinOp.and IntKind.i64 n 1 = n % 2 := by
  unfold bits
  have e : ((BitVec.ofInt IntKind.i64.bits n) &&& (BitVec.ofInt IntKind.i64.bits 1)).toNat = (n % 2).toNat := by
    show ((BitVec.ofInt 64 n) &&& (BitVec.ofInt 64 1)).toNat = (n % 2).toNat
    rw [BitVec.toNat_and, show (BitVec.ofInt 64 1).toNat = 1 from rfl, Nat.and_one_is_mod, BitVec.toNat_ofInt]
    omega
  show IntKind.wrap .i64 (((BitVec.ofInt IntKind.i64.bits n) &&& (BitVec.ofInt IntKind.i64.bits 1)).toNat : Int) = n % 2
  rw [e, IntKind.wrap_i64]
  omega
theorem wrap16_eq (n : Int) : IntKind.i16.wrap n = wrap16 n := by
  unfold IntKind.wrap wrap16 IntKind.bits IntKind.signed
  simp only [Bool.true_and, decide_eq_true_eq]
  split <;> omega
theorem wrap64_16 (n : Int) : wrap64 (wrap16 n) = wrap16 n := by
  unfold wrap64 wrap16
  omega
theorem wrap64_32 (n : Int) : wrap64 (wrap32 n) = wrap32 n := by
  unfold wrap64 wrap32
  omega

/-! ### Words and names (package expr) -/
def kwBytes : List UInt8 := [32, 80, 82, 79, 71, 82, 65, 77, 32, 69, 78, 68, 95, 80, 82, 79, 71, 82, 65, 77, 32, 86, 65, 82, 32, 86, 65, 82, 95, 73, 78, 80, 85, 84, 32, 86, 65, 82, 95, 79, 85, 84, 80, 85, 84, 32, 69, 78, 68, 95, 86, 65, 82, 32, 65, 82, 82, 65, 89, 32, 79, 70, 32, 66, 79, 79, 76, 32, 73, 78, 84, 32, 68, 73, 78, 84, 32, 84, 73, 77, 69, 32, 84, 79, 78, 32, 84, 79, 70, 32, 84, 80, 32, 67, 84, 85, 32, 67, 84, 68, 32, 82, 95, 84, 82, 73, 71, 32, 70, 95, 84, 82, 73, 71, 32, 83, 82, 32, 82, 83, 32, 81, 85, 65, 68, 32, 73, 70, 32, 84, 72, 69, 78, 32, 69, 76, 83, 73, 70, 32, 69, 76, 83, 69, 32, 69, 78, 68, 95, 73, 70, 32, 67, 65, 83, 69, 32, 69, 78, 68, 95, 67, 65, 83, 69, 32, 87, 72, 73, 76, 69, 32, 68, 79, 32, 69, 78, 68, 95, 87, 72, 73, 76, 69, 32, 70, 79, 82, 32, 84, 79, 32, 66, 89, 32, 69, 78, 68, 95, 70, 79, 82, 32, 82, 69, 80, 69, 65, 84, 32, 85, 78, 84, 73, 76, 32, 69, 78, 68, 95, 82, 69, 80, 69, 65, 84, 32, 69, 88, 73, 84, 32, 82, 69, 84, 85, 82, 78, 32, 65, 78, 68, 32, 79, 82, 32, 88, 79, 82, 32, 78, 79, 84, 32, 77, 79, 68, 32, 84, 82, 85, 69, 32, 70, 65, 76, 83, 69, 32, 84, 79, 95, 73, 78, 84, 32, 84, 79, 95, 68, 73, 78, 84, 32, 84, 79, 95, 84, 73, 77, 69, 32]
def wordBytes : List UInt8 := [65, 66, 67, 68, 69, 70, 71, 72, 73, 74, 75, 76, 77, 78, 79, 80, 81, 82, 83, 84, 85, 86, 87, 88, 89, 90, 95, 48, 49, 50, 51, 52, 53, 54, 55, 56, 57]
def numBytes : List UInt8 := [48, 49, 50, 51, 52, 53, 54, 55, 56, 57]
/-- Could a text be a word? -/
def isWord (s : ByteArray) : Bool := !s.toList.isEmpty && decide (s.size ≤ 24) && (Lib.trimS s.data.toList wordBytes).isEmpty && !(Lib.contains numBytes (s.data.toList.take 1))
/-- Is it a name? -/
def isName (s : ByteArray) : Bool := isWord s && !(Lib.contains kwBytes (32 :: s.data.toList ++ [32]))

/-! ### The blocks' fields (package typed) -/
structure Fld where
  name : ByteArray
  ty : Int
  set : Bool
def fieldsOf (kind : Int) : List Fld :=
  if kind = 1 ∨ kind = 2 ∨ kind = 3 then [⟨⟨#[73, 78]⟩, 1, true⟩, ⟨⟨#[80, 84]⟩, 4, true⟩, ⟨⟨#[81]⟩, 1, false⟩, ⟨⟨#[69, 84]⟩, 4, false⟩, ⟨⟨#[83, 84, 65, 82, 84]⟩, 4, false⟩, ⟨⟨#[82, 85, 78]⟩, 1, false⟩]
  else if kind = 4 then [⟨⟨#[67, 85]⟩, 1, true⟩, ⟨⟨#[82]⟩, 1, true⟩, ⟨⟨#[80, 86]⟩, 2, true⟩, ⟨⟨#[81]⟩, 1, false⟩, ⟨⟨#[67, 86]⟩, 2, false⟩, ⟨⟨#[77]⟩, 1, false⟩]
  else if kind = 5 then [⟨⟨#[67, 68]⟩, 1, true⟩, ⟨⟨#[76, 68]⟩, 1, true⟩, ⟨⟨#[80, 86]⟩, 2, true⟩, ⟨⟨#[81]⟩, 1, false⟩, ⟨⟨#[67, 86]⟩, 2, false⟩, ⟨⟨#[77]⟩, 1, false⟩]
  else if kind = 6 ∨ kind = 7 then [⟨⟨#[67, 76, 75]⟩, 1, true⟩, ⟨⟨#[81]⟩, 1, false⟩, ⟨⟨#[77]⟩, 1, false⟩]
  else if kind = 8 then [⟨⟨#[83, 49]⟩, 1, true⟩, ⟨⟨#[82]⟩, 1, true⟩, ⟨⟨#[81, 49]⟩, 1, false⟩]
  else if kind = 9 then [⟨⟨#[83]⟩, 1, true⟩, ⟨⟨#[82, 49]⟩, 1, true⟩, ⟨⟨#[81, 49]⟩, 1, false⟩]
  else if kind = 10 then [⟨⟨#[65]⟩, 1, true⟩, ⟨⟨#[66]⟩, 1, true⟩, ⟨⟨#[82]⟩, 1, true⟩, ⟨⟨#[67, 86]⟩, 3, false⟩, ⟨⟨#[69, 82, 82]⟩, 1, false⟩, ⟨⟨#[76, 65, 83, 84]⟩, 2, false⟩]
  else []
def isBlock (kind : Int) : Bool := decide (1 ≤ kind) && decide (kind ≤ 10)
def fieldsErr (kind : Int) : Int := if isBlock kind then 0 else 92

/-! ### Images (package code) -/
structure Ins where
  op : Int
  a : Int
  b : Int
  n : Int
structure Img where
  name : ByteArray
  types : List Int
  first : List Int
  ins : List Int
  outs : List Int
  code : List Ins
/-- The first place at which p holds; -1: none. -/
def idxP {α : Type} (p : α → Bool) : List α → Int → Int
  | [], _ => -1
  | x :: r, i => if p x then i else idxP p r (i + 1)
/-- Of two lists of one length: is it so of each pair? -/
def eqP {α β : Type} (p : α → β → Bool) : List α → List β → Bool
  | [], [] => true
  | x :: xs, y :: ys => p x y && eqP p xs ys
  | _, _ => false
def cellsOk (x : Img) (a m : Int) : Bool := decide (0 ≤ a) && decide (a < x.types.length) && decide (m ≤ x.types.length - a)
def cellsOf (x : Img) (a m : Int) : List Int := if cellsOk x a m then (x.types.drop a.toNat).take m.toNat else []
def mayArr (x : Img) (i : Ins) : Bool := decide (1 ≤ i.b) && decide (i.b ≤ 32) && cellsOk x i.a i.b && !((cellsOf x i.a i.b).any fun t => t != (cellsOf x i.a i.b).headD 0)
def mayCall (x : Img) (i : Ins) : Bool := isBlock i.a && eqP (fun t (f : Fld) => t == f.ty) (cellsOf x i.b (fieldsOf i.a).length) (fieldsOf i.a)
def mayJump (x : Img) (i : Ins) : Bool := decide (0 ≤ i.a) && decide (i.a < x.code.length)
/-- What the rule of an operation's number asks. -/
def mayF (op : Int) (x : Img) (i : Ins) : Bool :=
  if op = 1 then fits i.a i.n else if op = 2 ∨ op = 3 then cellsOk x i.a 1 else if op = 4 ∨ op = 5 then mayArr x i
  else if op = 6 then (two i.a i.b 1 1).2 == 0 else if op = 7 then (one i.a i.b 1).2 == 0 else if op = 8 then (numConvert i.a i.b 0).2 == 0
  else if op = 9 ∨ op = 10 then mayJump x i else if op = 11 then mayCall x i else true
def ruleA (op : Int) : Bool := decide (op ≠ 12)
def ruleB (op : Int) : Bool := decide (4 ≤ op) && decide (op ≤ 8) || decide (op = 11)
def ruleN (op : Int) : Bool := decide (op = 1)
def mayIns (x : Img) (i : Ins) : Bool :=
  decide (1 ≤ i.op) && decide (i.op ≤ 12) && (ruleA i.op || i.a == 0) && (ruleB i.op || i.b == 0) && (ruleN i.op || i.n == 0) && mayF i.op x i
/-- Does each first value fit its type? -/
def fitsAll : List Int → List Int → Bool
  | t :: ts, n :: ns => fits t n && fitsAll ts ns
  | _, _ => true
/-- Are these cells, each once? -/
def endsOk (n : Int) : List Int → (Int → Bool) → Bool
  | [], _ => true
  | c :: r, f => if c < 0 then false else if n ≤ c then false else if f c then false else endsOk n r (fun d => if d = c then true else f d)
def isSound (x : Img) : Bool :=
  isName x.name && (x.types.length == x.first.length) && decide (x.types.length ≤ 1024) && decide (1 ≤ x.code.length) && decide (x.code.length ≤ 4096) && decide ((x.ins ++ x.outs).length ≤ x.types.length)
    && fitsAll x.types x.first && endsOk x.types.length (x.ins ++ x.outs) (fun _ => false)
/-- What is wrong with an image, and where. -/
def codeCheck (x : Img) : NE :=
  if isSound x = false then (-1, 130) else if 0 ≤ idxP (fun i => !mayIns x i) x.code 0 then (idxP (fun i => !mayIns x i) x.code 0, 130) else (0, 0)

/-! ### Stacks (package verify) -/
def anyEq (of : List Int) (t : Int) : Bool := of.any (· == t)
def pushS (st : List Int) (t : Int) : Option (List Int) := if st.length = 64 then none else some (st ++ [t])
def popS (st : List Int) (of : List Int) : Option (List Int) :=
  match st.getLast? with
  | none => none
  | some t => if anyEq of t then some st.dropLast else none
def tyAt (x : Img) (a : Int) : Int := x.types.getD a.toNat 0
def stepS (x : Img) (i : Ins) (st : List Int) : Option (List Int) :=
  if i.op = 1 then pushS st i.a else if i.op = 2 then pushS st (tyAt x i.a) else if i.op = 3 then popS st [tyAt x i.a]
  else if i.op = 4 then (popS st [2, 3]).bind fun s => pushS s (tyAt x i.a)
  else if i.op = 5 then (popS st [tyAt x i.a]).bind fun s => popS s [2, 3]
  else if i.op = 6 then (popS st [i.b]).bind fun s => (popS s [i.b]).bind fun s => pushS s (result i.a i.b).1
  else if i.op = 7 then (popS st [i.b]).bind fun s => pushS s i.b
  else if i.op = 8 then (popS st [i.a]).bind fun s => pushS s i.b
  else if i.op = 10 then popS st [1] else some st
def goesL (at_ : Int) (i : Ins) : List Int := if i.op = 9 then [i.a] else if i.op = 10 then [at_ + 1, i.a] else if i.op = 12 then [] else [at_ + 1]
theorem popS_nil (of : List Int) : popS [] of = none := rfl
theorem popS_yes {st of : List Int} {t : Int} (h : anyEq of t = true) : popS (st ++ [t]) of = some st := by simp [popS, h]
theorem popS_no {st of : List Int} {t : Int} (h : anyEq of t = false) : popS (st ++ [t]) of = none := by simp [popS, h]
theorem pushS_yes {st : List Int} {t : Int} (h : st.length < 64) : pushS st t = some (st ++ [t]) := by simp [pushS]; omega
theorem pushS_no {st : List Int} {t : Int} (h : st.length = 64) : pushS st t = none := by simp [pushS, h]
theorem snoc_cases (st : List Int) : st = [] ∨ ∃ s t, st = s ++ [t] := by
  rcases List.eq_nil_or_concat st with h | ⟨s, t, h⟩
  · exact .inl h
  · exact .inr ⟨s, t, by simpa using h⟩
theorem stepS_3 (x : Img) (a b n : Int) (st : List Int) : stepS x ⟨3, a, b, n⟩ st = popS st [tyAt x a] := rfl
theorem stepS_4 (x : Img) (a b n : Int) (st : List Int) : stepS x ⟨4, a, b, n⟩ st = (popS st [2, 3]).bind fun s => pushS s (tyAt x a) := rfl
theorem stepS_5 (x : Img) (a b n : Int) (st : List Int) : stepS x ⟨5, a, b, n⟩ st = (popS st [tyAt x a]).bind fun s => popS s [2, 3] := rfl
theorem stepS_6 (x : Img) (a b n : Int) (st : List Int) : stepS x ⟨6, a, b, n⟩ st = (popS st [b]).bind fun s => (popS s [b]).bind fun s => pushS s (result a b).1 := rfl
theorem stepS_7 (x : Img) (a b n : Int) (st : List Int) : stepS x ⟨7, a, b, n⟩ st = (popS st [b]).bind fun s => pushS s b := rfl
theorem stepS_8 (x : Img) (a b n : Int) (st : List Int) : stepS x ⟨8, a, b, n⟩ st = (popS st [a]).bind fun s => pushS s b := rfl
theorem stepS_10 (x : Img) (a b n : Int) (st : List Int) : stepS x ⟨10, a, b, n⟩ st = popS st [1] := rfl
/-! ### What is reached (package verify) -/
def reachS (rs : List Bool) (ss : List (List Int)) (k : Nat) (st : List Int) : Option (List Bool × List (List Int)) :=
  if rs.getD k false then (if ss.getD k [] = st then some (rs, ss) else none) else some (rs.set k true, ss.set k st)
/-- All to which an instruction goes on. -/
def tosL (n : Nat) (at_ : Int) (ds : List Bool) (st : List Int) : List Int → List Bool → List (List Int) → Int → Except NE (List Bool × List (List Int) × Int)
  | [], rs, ss, back => .ok (rs, ss, back)
  | to :: r, rs, ss, back =>
    if (n : Int) ≤ to then .error (at_, 150)
    else match reachS rs ss to.toNat st with
      | none => .error (to, 151)
      | some (rs', ss') => tosL n at_ ds st r rs' ss' (if ds.getD to.toNat false then back else min back to)
/-- The whole look, so many rounds at most. -/
def runL (x : Img) : Nat → List Bool → List (List Int) → Int → List Bool → Nat → Except NE (List Bool × List (List Int) × Int)
  | 0, rs, ss, deep, _, _ => .ok (rs, ss, deep)
  | g + 1, rs, ss, deep, ds, k =>
    if x.code.length ≤ k then .ok (rs, ss, deep)
    else if ds.getD k false || !rs.getD k false then runL x g rs ss deep ds (k + 1)
    else match stepS x (x.code.getD k ⟨0, 0, 0, 0⟩) (ss.getD k []) with
      | none => .error (k, 151)
      | some st =>
        match tosL x.code.length k (ds.set k true) st (goesL k (x.code.getD k ⟨0, 0, 0, 0⟩)) rs ss (k + 1) with
        | .error e => .error e
        | .ok (rs', ss', back) => runL x g rs' ss' (max deep st.length) (ds.set k true) back.toNat
/-- How many rounds there are at most. -/
def fuelL (n : Nat) : Nat := n * (n + 1) + n + 1
def verifyL (x : Img) : Except NE (List Bool × List (List Int) × Int) :=
  if (codeCheck x).2 ≠ 0 then .error (codeCheck x)
  else runL x (fuelL x.code.length) ((List.replicate x.code.length false).set 0 true) (List.replicate x.code.length []) 0 (List.replicate x.code.length false) 0
theorem idxP_neg {α : Type} {p : α → Bool} : ∀ {l : List α} {i : Int}, 0 ≤ i → idxP p l i < 0 → ∀ x ∈ l, p x = false
  | [], _, _, _, x, hx => by simp at hx
  | y :: l, i, h0, h, x, hx => by
    rw [idxP] at h
    cases hp : p y with
    | true => rw [hp, if_pos rfl] at h; omega
    | false =>
      rw [hp, if_neg (by simp)] at h
      rcases List.mem_cons.1 hx with rfl | hx
      · exact hp
      · exact idxP_neg (by omega) h x hx
/-- What a check that finds nothing says. -/
theorem codeCheck_ok {x : Img} (h : (codeCheck x).2 = 0) : isSound x = true ∧ (∀ i ∈ x.code, mayIns x i = true) ∧ codeCheck x = (0, 0) := by
  unfold codeCheck at *
  cases hs : isSound x with
  | false => rw [hs, if_pos rfl] at h; exact absurd h (by decide)
  | true =>
    rw [hs, if_neg (by simp)] at h
    rw [if_neg (by simp)]
    by_cases hq : 0 ≤ idxP (fun i => !mayIns x i) x.code 0
    · rw [if_pos hq] at h; exact absurd h (by simp)
    · rw [if_neg hq]
      refine ⟨rfl, fun i hi => ?_, rfl⟩
      have hlt : idxP (fun i => !mayIns x i) x.code 0 < 0 := by omega
      have := idxP_neg (Int.le_refl 0) hlt i hi
      simpa using this
theorem sound_len {x : Img} (h : isSound x = true) : x.code.length ≤ 4096 ∧ 1 ≤ x.code.length ∧ x.types.length ≤ 1024 := by
  simp only [isSound, Bool.and_eq_true, decide_eq_true_eq] at h
  obtain ⟨⟨⟨⟨⟨⟨⟨_, _⟩, h1⟩, h2⟩, h3⟩, _⟩, _⟩, _⟩ := h
  exact ⟨h3, h2, h1⟩
theorem pushS_len {st st' : List Int} {t : Int} (h : st.length ≤ 64) (hp : pushS st t = some st') : st'.length ≤ 64 := by
  unfold pushS at hp
  split at hp
  · cases hp
  · injection hp with hp; subst hp; simp; omega
theorem popS_len {st st' of : List Int} (h : st.length ≤ 64) (hp : popS st of = some st') : st'.length ≤ 64 := by
  unfold popS at hp
  split at hp
  · cases hp
  · split at hp
    · injection hp with hp; subst hp; simp; omega
    · cases hp
theorem stepS_len {x : Img} {i : Ins} {st st' : List Int} (h : st.length ≤ 64) (hp : stepS x i st = some st') : st'.length ≤ 64 := by
  unfold stepS at hp
  repeat' split at hp
  all_goals (try simp only [Option.bind_eq_some_iff] at hp)
  all_goals first
    | exact pushS_len h hp
    | exact popS_len h hp
    | (obtain ⟨s, h1, h2⟩ := hp; exact pushS_len (popS_len h h1) h2)
    | (obtain ⟨s, h1, h2⟩ := hp; exact popS_len (popS_len h h1) h2)
    | (obtain ⟨s, h1, s', h2, h3⟩ := hp; exact pushS_len (popS_len (popS_len h h1) h2) h3)
    | (injection hp with hp; subst hp; exact h)
theorem goesL_ge {x : Img} {i : Ins} {at_ : Int} (h0 : 0 ≤ at_) (hm : mayIns x i = true) : ∀ to ∈ goesL at_ i, 0 ≤ to := by
  obtain ⟨op, a, b, n⟩ := i
  simp only [mayIns, Bool.and_eq_true] at hm
  have hf := hm.2
  intro to ht
  unfold goesL at ht
  by_cases h9 : op = 9
  · subst h9
    simp [mayF, mayJump] at hf ht
    omega
  by_cases h10 : op = 10
  · subst h10
    simp [mayF, mayJump] at hf ht
    omega
  by_cases h12 : op = 12
  · subst h12; simp at ht
  · simp [h9, h10, h12] at ht; omega
/-- How many are not done. -/
def leftL : List Bool → Nat
  | [] => 0
  | b :: r => (if b then 0 else 1) + leftL r
theorem leftL_set : ∀ (ds : List Bool) (k : Nat), ds[k]? = some false → leftL (ds.set k true) + 1 = leftL ds
  | [], k, h => by simp at h
  | b :: r, 0, h => by
    obtain rfl : b = false := by simpa using h
    simp [leftL]; omega
  | b :: r, k + 1, h => by
    have := leftL_set r k (by simpa using h)
    simp only [List.set_cons_succ, leftL]
    omega
theorem leftL_none : ∀ n : Nat, leftL (List.replicate n false) = n
  | 0 => rfl
  | n + 1 => by rw [List.replicate_succ, leftL, leftL_none n]; simp; omega
/-- What Check and Deep hand back. -/
def verifyNE (x : Img) : NE := match verifyL x with | .error e => e | .ok _ => (0, 0)
def deepNE (x : Img) : NE := match verifyL x with | .error e => (0, e.2) | .ok (_, _, d) => (d, 0)
theorem tosL_err {n : Nat} {at_ : Int} {ds : List Bool} {st : List Int} : ∀ {l : List Int} {rs : List Bool} {ss : List (List Int)} {back a e : Int}, tosL n at_ ds st l rs ss back = .error (a, e) → e ≠ 0
  | [], _, _, _, _, _, h => by simp [tosL] at h
  | to' :: r, rs, ss, back, a, e, h => by
    rw [tosL] at h
    split at h
    · injection h with h; injection h with _ h; omega
    · split at h
      · injection h with h; injection h with _ h; omega
      · exact tosL_err h
theorem runL_err {x : Img} : ∀ {g : Nat} {rs : List Bool} {ss : List (List Int)} {deep : Int} {ds : List Bool} {k : Nat} {a e : Int}, runL x g rs ss deep ds k = .error (a, e) → e ≠ 0
  | 0, _, _, _, _, _, _, _, h => by simp [runL] at h
  | g + 1, rs, ss, deep, ds, k, a, e, h => by
    rw [runL] at h
    split at h
    · cases h
    · split at h
      · exact runL_err h
      · split at h
        · injection h with h; injection h with _ h; omega
        · split at h
          · rename_i e' he
            injection h with h
            subst h
            exact tosL_err he
          · exact runL_err h
theorem verifyL_err {x : Img} {a e : Int} (h : verifyL x = .error (a, e)) : e ≠ 0 := by
  unfold verifyL at h
  split at h
  · rename_i hc
    injection h with h
    rw [h] at hc
    exact hc
  · exact runL_err h
end Cap

/- Small words for all walks: what a call leaves as it was. Over any program. -/
namespace Go.Proofs.YtbnelgniekcjdaaGreatDoor
open Go.RowKit Cap

theorem ret_i {k : IntKind} {a b : Int} (h : a = b) : Ending.returned (.int k a) = .returned (.int k b) := by rw [h]
theorem ret_b {a b : Bool} (h : a = b) : Ending.returned (.bool a) = .returned (.bool b) := by rw [h]
theorem ret_ii {k l : IntKind} {a b c d : Int} (h : a = b) (h' : c = d) : Ending.returned (.tuple #[.int k a, .int l c]) = .returned (.tuple #[.int k b, .int l d]) := by rw [h, h']
theorem bcell {W w1 : World} (hb : Below W.heap.size W w1) : (∀ b o, b < W.heap.size → w1.cell? ⟨b, o, none⟩ = W.cell? ⟨b, o, none⟩) ∧ (∀ b o, b < W.heap.size → w1.frozen? ⟨b, o, none⟩ = W.frozen? ⟨b, o, none⟩) :=
  ⟨fun b o h => hb.cell (p := ⟨b, o, none⟩) h, fun b o h => hb.frozen (p := ⟨b, o, none⟩) h⟩
theorem below_alloc {w W : World} {o : Obj} (h : Below w.heap.size w W) : Below w.heap.size w (W.alloc o) := h.alloc h.size o
theorem below_drew {w W : World} (h : Below w.heap.size w W) : Below w.heap.size w W.drew := ⟨h.os, h.tape, h.output, h.size, h.block⟩
theorem below_drewN {w W : World} {n : Nat} (h : Below w.heap.size w W) : Below w.heap.size w (W.drewN n) := ⟨h.os, h.tape, h.output, h.size, h.block⟩
theorem below_set {w W : World} {a : Addr} {v : Value} (ha : w.heap.size ≤ a.block) (h : Below w.heap.size w W) : Below w.heap.size w (W.setCell a v) := h.setCell ha v
theorem below_call {w w1 w2 : World} (k : Below w1.heap.size w1 w2) (h : Below w.heap.size w w1) : Below w.heap.size w w2 :=
  h.trans ⟨k.os, k.tape, k.output, k.size, fun i hi => k.block i (Nat.lt_of_lt_of_le hi h.size)⟩

/-! ### Slices whose elements' cells are told by a function -/
variable {α : Type}
def Sl (enc : α → List Value) (k : Nat) (w : World) (v : Value) (xs : List α) : Prop :=
  ∃ A c, v = .slice A xs.length c ∧ xs.length ≤ c ∧ c ≤ 9223372036854775807 ∧
    ∀ i x, xs[i]? = some x → ∃ b off, A = some ⟨b, off, none⟩ ∧ b < w.heap.size ∧ ∀ j v, (enc x)[j]? = some v → w.cell? ⟨b, off + i * k + j, none⟩ = some v
theorem Sl.below {enc : α → List Value} {k : Nat} {w w' : World} {v : Value} {xs : List α} (h : Sl enc k w v xs) (hb : Below w.heap.size w w') : Sl enc k w' v xs := by
  obtain ⟨A, c, rfl, h1, h2, h3⟩ := h
  refine ⟨A, c, rfl, h1, h2, fun i x hx => ?_⟩
  obtain ⟨b, off, e, hlt, hc⟩ := h3 i x hx
  exact ⟨b, off, e, Nat.lt_of_lt_of_le hlt hb.size, fun j v hv => (hb.cell (p := ⟨b, off + i * k + j, none⟩) hlt).trans (hc j v hv)⟩
theorem Sl.nil (enc : α → List Value) (k : Nat) (w : World) : Sl enc k w (.slice none 0 0) [] := ⟨none, 0, rfl, Nat.le_refl _, by decide, fun i x hx => by simp at hx⟩
theorem drop_cons {xs : List α} {i : Nat} {x : α} (h : xs[i]? = some x) : xs.drop i = x :: xs.drop (i + 1) := by
  obtain ⟨hi, rfl⟩ := List.getElem?_eq_some_iff.1 h
  exact List.drop_eq_getElem_cons hi
def encI (x : Int) : List Value := [.int .i64 x]
def encB (x : Bool) : List Value := [.bool x]
def encS (x : ByteArray) : List Value := [.string x]
theorem flatMap_at {enc : α → List Value} {k : Nat} (hk : ∀ x, (enc x).length = k) : ∀ (xs : List α) (i : Nat) (x : α) (j : Nat) (v : Value), xs[i]? = some x → (enc x)[j]? = some v → (xs.flatMap enc)[i * k + j]? = some v
  | [], i, x, j, v, h, _ => by simp at h
  | y :: ys, 0, x, j, v, h, hv => by
    obtain rfl : y = x := by simpa using h
    have hj : j < (enc y).length := (List.getElem?_eq_some_iff.1 hv).1
    rw [List.flatMap_cons, Nat.zero_mul, Nat.zero_add, List.getElem?_append_left hj]
    exact hv
  | y :: ys, i + 1, x, j, v, h, hv => by
    have h' : ys[i]? = some x := by simpa using h
    have hi := flatMap_at hk ys i x j v h' hv
    rw [List.flatMap_cons, List.getElem?_append_right (by rw [hk, Nat.succ_mul]; omega), hk]
    rw [show (i + 1) * k + j - k = i * k + j from by rw [Nat.succ_mul]; omega]
    exact hi
theorem Sl.lit {enc : α → List Value} {k : Nat} (hk : ∀ x, (enc x).length = k) (w : World) (cells : Array Value) (T : TypeId) (n : Nat) (xs : List α) (h : cells.toList = xs.flatMap enc) (hn : n = xs.length) (hb : xs.length ≤ 9223372036854775807) :
    Sl enc k (w.alloc (.cells cells T)) (.slice (some ⟨w.heap.size, 0, none⟩) n n) xs := by
  subst hn
  refine ⟨_, _, rfl, Nat.le_refl _, hb, fun i x hx => ⟨_, _, rfl, by simp, fun j v hv => ?_⟩⟩
  have h1 := flatMap_at hk xs i x j v hx hv
  rw [World.cell?_alloc_at _ _ _ _ rfl, ← Array.getElem?_toList, h, Nat.zero_add]
  exact h1
theorem Sl.lit' {enc : α → List Value} {k : Nat} (hk : ∀ x, (enc x).length = k) (w : World) (B : Nat) (cells : Array Value) (T : TypeId) (n : Nat) (xs : List α) (hB : B = w.heap.size) (h : cells.toList = xs.flatMap enc) (hn : n = xs.length) (hb : xs.length ≤ 9223372036854775807) :
    Sl enc k (w.alloc (.cells cells T)) (.slice (some ⟨B, 0, none⟩) n n) xs := by
  subst hB
  exact Sl.lit hk w cells T n xs h hn hb
/-- A predicate handed over as a function value. -/
def PredC (P : Program) (g : Nat) (lb : Array Value) (arg : α → Value) (p : α → Bool) (xs : List α) (w : World) : Prop :=
  ∀ (W : World) (x : α), x ∈ xs → Below w.heap.size w W → Calls P g (#[arg x] ++ lb) W fun e w' => e = .returned (.bool (p x)) ∧ Below W.heap.size W w'
/-- A test of two, handed over as a function value. -/
def PredC2 {β : Type} (P : Program) (g : Nat) (lb : Array Value) (arg : α → Value) (arg2 : β → Value) (p : α → β → Bool) (w : World) : Prop :=
  ∀ (W : World) (x : α) (y : β), Below w.heap.size w W → Calls P g (#[arg x, arg2 y] ++ lb) W fun e w' => e = .returned (.bool (p x y)) ∧ Below W.heap.size W w'
theorem eqP_drop {β : Type} {p : α → β → Bool} {xs : List α} {ys : List β} {i : Nat} {x : α} {y : β} (h : xs[i]? = some x) (h' : ys[i]? = some y) : eqP p (xs.drop i) (ys.drop i) = (p x y && eqP p (xs.drop (i + 1)) (ys.drop (i + 1))) := by
  rw [drop_cons h, drop_cons h', eqP]
theorem eqP_len {β : Type} {p : α → β → Bool} : ∀ (xs : List α) (ys : List β), xs.length ≠ ys.length → eqP p xs ys = false
  | [], [], h => absurd rfl h
  | [], _ :: _, _ => rfl
  | _ :: _, [], _ => rfl
  | x :: xs, y :: ys, h => by
    rw [eqP, eqP_len xs ys (fun e => h (by simp [e])), Bool.and_false]
theorem idxP_drop {p : α → Bool} {xs : List α} {i : Nat} {x : α} (h : xs[i]? = some x) : idxP p (xs.drop i) i = if p x then (i : Int) else idxP p (xs.drop (i + 1)) ((i + 1 : Nat) : Int) := by
  rw [drop_cons h, idxP]
  rfl
def encIns (i : Ins) : List Value := [.int .i64 i.op, .int .i64 i.a, .int .i64 i.b, .int .i64 i.n]
def insV (i : Ins) : Value := .agg #[.int .i64 i.op, .int .i64 i.a, .int .i64 i.b, .int .i64 i.n]
def fldV (f : Fld) : Value := .agg #[.string f.name, .int .i64 f.ty, .bool f.set]
def encFld (f : Fld) : List Value := [.string f.name, .int .i64 f.ty, .bool f.set]
theorem encFld_len (f : Fld) : (encFld f).length = 3 := rfl
theorem encIns_len (i : Ins) : (encIns i).length = 4 := rfl
theorem encI_len (i : Int) : (encI i).length = 1 := rfl
/-- An image as it lies. -/
def ImgV (w : World) (v : Value) (x : Img) : Prop := ∃ vt vf vi vo vc, v = .agg #[.string x.name, vt, vf, vi, vo, vc] ∧
  Sl encI 1 w vt x.types ∧ Sl encI 1 w vf x.first ∧ Sl encI 1 w vi x.ins ∧ Sl encI 1 w vo x.outs ∧ Sl encIns 4 w vc x.code
theorem ImgV.below {w w' : World} {v : Value} {x : Img} (h : ImgV w v x) (hb : Below w.heap.size w w') : ImgV w' v x := by
  obtain ⟨vt, vf, vi, vo, vc, rfl, h1, h2, h3, h4, h5⟩ := h
  exact ⟨vt, vf, vi, vo, vc, rfl, h1.below hb, h2.below hb, h3.below hb, h4.below hb, h5.below hb⟩
end Go.Proofs.YtbnelgniekcjdaaGreatDoor

/- Appending to a row of the call's own, from whatever slice. Over any program. -/
namespace Go.Proofs.YtbnelgniekcjdaaGreatDoor
open Go.RowKit
variable {P : Program} {α : Type}

/-- A type's zero value, how many cells it has, how many bytes. -/
def InfoIs (P : Program) (e : TypeId) (z : Value) (k bytes : Nat) : Prop := (P.info? e).map (fun i => (i.zero, i.size, i.bytes)) = some (some z, k, bytes)
theorem InfoIs.parts {e : TypeId} {z : Value} {k bytes : Nat} (h : InfoIs P e z k bytes) : ∃ i, P.info? e = some i ∧ i.zero = some z ∧ i.size = k ∧ i.bytes = bytes := by
  unfold InfoIs at h
  cases hi : P.info? e with
  | none => rw [hi] at h; cases h
  | some i =>
    rw [hi] at h
    injection h with h
    injection h with h1 h
    injection h with h2 h3
    exact ⟨i, rfl, h1, h2, h3⟩
theorem flatMap_len {enc : α → List Value} {k : Nat} (hk : ∀ x, (enc x).length = k) (xs : List α) : (xs.flatMap enc).length = xs.length * k := by
  induction xs with
  | nil => simp
  | cons x r ih => rw [List.flatMap_cons, List.length_append, hk, ih, List.length_cons, Nat.succ_mul, Nat.add_comm]
theorem Sl.src {enc : α → List Value} {k : Nat} {w : World} {A : Option Addr} {n c : Nat} {xs : List α} (hk : ∀ x, (enc x).length = k) (h : Sl enc k w (.slice A n c) xs) (h0 : 0 < xs.length) :
    ∃ a, A = some a ∧ ∀ j u, (xs.flatMap enc)[j]? = some u → w.cell? (a.add j) = some u := by
  obtain ⟨A', c', e, h1, h2, h3⟩ := h
  injection e with e1 e2 e3
  subst e1 e2 e3
  obtain ⟨b, off, rfl, _⟩ := h3 0 _ (List.getElem?_eq_getElem h0)
  refine ⟨_, rfl, fun j u hu => ?_⟩
  have hj : j < (xs.flatMap enc).length := (List.getElem?_eq_some_iff.1 hu).1
  have hlen := flatMap_len hk xs
  rw [hlen] at hj
  have hk0 : 0 < k := by
    rcases Nat.eq_zero_or_pos k with e | e
    · rw [e, Nat.mul_zero] at hj; omega
    · exact e
  have hi : j / k < xs.length := Nat.div_lt_of_lt_mul (by rw [Nat.mul_comm]; exact hj)
  obtain ⟨x, hx⟩ : ∃ x, xs[j / k]? = some x := ⟨xs[j / k], List.getElem?_eq_getElem hi⟩
  have hm : j % k < k := Nat.mod_lt _ hk0
  obtain ⟨v, hv⟩ : ∃ v, (enc x)[j % k]? = some v := ⟨(enc x)[j % k]'(by rw [hk]; exact hm), List.getElem?_eq_getElem _⟩
  have hf := flatMap_at hk xs (j / k) x (j % k) v hx hv
  have hd : j / k * k + j % k = j := by rw [Nat.mul_comm]; exact Nat.div_add_mod j k
  rw [hd, hu] at hf
  injection hf with hf
  subst hf
  obtain ⟨b', off', e', hlt, hc⟩ := h3 (j / k) x hx
  injection e' with e'
  injection e' with eb eo
  subst eb eo
  have := hc (j % k) u hv
  rw [Addr.add_lit]
  rw [show off + j = off + j / k * k + j % k from by omega]
  exact this

/-- 'append(row, src...)' to a row of the call's own. -/
theorem run_own_app (w : World) (base : Nat) (t ty e : TypeId) (z : Value) (k bytes : Nat) (ht : P.underlying t = some (.slice e)) (hi : InfoIs P e z k bytes) (hzs : z.cells.size = k) (hsz : 0 < k)
    (v : Value) (n : Nat) (xs : List Value) (hown : w.ownsRow base e k v n xs) (enc : α → List Value) (hk : ∀ x, (enc x).length = k) (h1 : ∀ x, ∀ u ∈ enc x, u.oneCell' = true) (x : Value) (ys : List α) (hs : Sl enc k w x ys)
    (h63 : n + ys.length ≤ maxLen) (hbytes : (n + ys.length) * bytes ≤ 140737488355328) (hbase : base ≤ w.heap.size) :
    ∃ v' w', (Builtin.append_ #[t, t] ty #[v, x]).run P w = .ok v' w' ∧ w'.ownsRow base e k v' (n + ys.length) (xs ++ ys.flatMap enc) ∧ w.grownBy w' v.ownBlock := by
  obtain ⟨i, hi1, hi2, hi3, hi4⟩ := hi.parts
  have hlen := flatMap_len hk ys
  have hs' := hs
  obtain ⟨A, c, rfl, h2, h3, _⟩ := hs
  rcases Nat.eq_zero_or_pos ys.length with h0 | h0
  · obtain rfl : ys = [] := List.eq_nil_of_length_eq_zero h0
    cases A with
    | none =>
      have hv : ∃ a c', v = .slice a n c' ∧ n ≤ c' := by
        rcases hown.2 with ⟨rfl, rfl⟩ | ⟨g, cap, cur, rfl, _, _, hc, _⟩
        · exact ⟨none, 0, rfl, Nat.le_refl _⟩
        · exact ⟨_, cap, rfl, hc⟩
      obtain ⟨a, c', rfl, hc'⟩ := hv
      refine ⟨_, w, run_append_nothing w t t ty e i ht hi1 a n c' hc' _ (Src.ofNil w ht c), by simpa using hown, ⟨rfl, rfl, rfl, Nat.le_refl _, fun _ _ _ => rfl⟩⟩
    | some a =>
      obtain ⟨v', w', hr, ho, hg, _⟩ := run_append_own (P := P) w base t ty e i z k bytes ht hi1 hi2 hi3 hi4 hzs hsz v n xs hown a 0 c [] (by simp) (by simp) (by simp) (by simpa using h63) (by simpa using hbytes) hbase
      exact ⟨v', w', hr, by simpa using ho, hg⟩
  · obtain ⟨a, rfl, hcs⟩ := Sl.src hk hs' h0
    obtain ⟨v', w', hr, ho, hg, _⟩ := run_append_own (P := P) w base t ty e i z k bytes ht hi1 hi2 hi3 hi4 hzs hsz v n xs hown a ys.length c (ys.flatMap enc) hlen hcs
      (fun u hu => by
        obtain ⟨y, _, hy⟩ := List.mem_flatMap.1 hu
        exact h1 y u hy) h63 hbytes hbase
    exact ⟨v', w', hr, ho, hg⟩

/-- .. at the operation. -/
theorem wpList_app {ops : Array Oper} {rest : List Oper} {o : Oper} {a : Act} {Q : Exit → Act → World → Prop} (w : World) (hgd : o.guard = none) (s x : Operand) (t : TypeId)
    (ho : o.op = .call { callee := .builtin .append, args := #[s, x], argTypes := #[t, t] })
    (base : Nat) (e : TypeId) (z : Value) (k bytes : Nat) (ht : P.underlying t = some (.slice e)) (hi : InfoIs P e z k bytes) (hzs : z.cells.size = k) (hsz : 0 < k)
    (enc : α → List Value) (hk : ∀ x, (enc x).length = k) (h1 : ∀ x, ∀ u ∈ enc x, u.oneCell' = true)
    (v : Value) (n : Nat) (xs : List Value) (hs : a.eval s = v) (hown : w.ownsRow base e k v n xs)
    (vx : Value) (ys : List α) (hx : a.eval x = vx) (hsl : Sl enc k w vx ys)
    (h63 : n + ys.length ≤ maxLen) (hbytes : (n + ys.length) * bytes ≤ 140737488355328) (hbase : base ≤ w.heap.size)
    (h : ∀ v' w', w'.ownsRow base e k v' (n + ys.length) (xs ++ ys.flatMap enc) → w.grownBy w' v.ownBlock → wpList P ops Q rest (a.put o.dst v') w') : wpList P ops Q (o :: rest) a w := by
  refine wpList_plain hgd fun K' hK' => ?_
  obtain ⟨v', w', hr, h2, h3⟩ := run_own_app (P := P) w base t o.type e z k bytes ht hi hzs hsz v n xs hown enc hk h1 vx ys hsl h63 hbytes hbase
  unfold Oper.wp execOp
  simp only [ho, resolve, invoke, builtin, Sem.run_bind, Sem.run_pure, Result.andThen_ok, List.map_toArray, List.map_cons, List.map_nil, hs, hx, hr]
  exact hK' _ _ (h v' w' h2 h3)

/-- A row of the call's own, read. -/
theorem Sl.own {enc : α → List Value} {k : Nat} (hk : ∀ x, (enc x).length = k) {w : World} {base : Nat} {e : TypeId} {v : Value} {n : Nat} {xs : List α} (h : w.ownsRow base e k v n (xs.flatMap enc)) (hn : n = xs.length) : Sl enc k w v xs := by
  subst hn
  rcases h.2 with ⟨rfl, h0⟩ | ⟨g, cap, cur, rfl, hb, hg, hc, hm, hs, ht⟩
  · obtain rfl : xs = [] := List.eq_nil_of_length_eq_zero h0
    exact Sl.nil _ _ _
  · unfold maxLen at hm
    refine ⟨_, _, rfl, hc, by omega, fun i x hx => ⟨g, 0, rfl, (Array.getElem?_eq_some_iff.1 hg).1, fun j u hu => ?_⟩⟩
    have h1 := flatMap_at hk xs i x j u hx hu
    have h2 := h.cells (g := g) rfl (i * k + j) u h1
    rw [Addr.add_lit] at h2
    simpa [Nat.add_assoc] using h2
theorem own_base {w : World} {base base' : Nat} {e : TypeId} {k : Nat} {v : Value} {n : Nat} {xs : List Value} (h : w.ownsRow base e k v n xs) (hb : base' ≤ base) : w.ownsRow base' e k v n xs := by
  refine ⟨h.1, ?_⟩
  rcases h.2 with h | ⟨g, cap, cur, h1, h2, h3⟩
  · exact .inl h
  · exact .inr ⟨g, cap, cur, h1, Nat.le_trans hb h2, h3⟩
theorem below_grown {w W W' : World} {row : Option Nat} (h : Below w.heap.size w W) (hg : W.grownBy W' row) (hr : ∀ g, row = some g → w.heap.size ≤ g) : Below w.heap.size w W' := h.grown hg h.size hr
theorem own_ge {w W : World} {base : Nat} {e : TypeId} {k : Nat} {v : Value} {n : Nat} {xs : List Value} (h : W.ownsRow base e k v n xs) (hb : w.heap.size ≤ base) : ∀ g, v.ownBlock = some g → w.heap.size ≤ g := by
  intro g hg
  rcases h.2 with ⟨rfl, _⟩ | ⟨g', cap, cur, rfl, hb', _⟩
  · simp [Value.ownBlock] at hg
  · simp [Value.ownBlock] at hg
    omega
theorem own_below {W W' : World} {base : Nat} {e : TypeId} {k : Nat} {v : Value} {n : Nat} {xs : List Value} (h : W.ownsRow base e k v n xs) (hb : Below W.heap.size W W') : W'.ownsRow base e k v n xs :=
  h.kept (row := none) ⟨hb.os, hb.tape, hb.output, hb.size, fun i hi _ => hb.block i hi⟩ (by cases v.ownBlock <;> simp)
end Go.Proofs.YtbnelgniekcjdaaGreatDoor
