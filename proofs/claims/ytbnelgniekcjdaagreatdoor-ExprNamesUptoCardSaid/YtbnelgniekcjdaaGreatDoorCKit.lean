/- Small words for all walks: what a call leaves as it was. Over any program. -/
import Derived.Test.YtbnelgniekcjdaaGreatDoorCSpec
import Derived.WalkKit
import Derived.WalkSpells
import Derived.WalkLawsBesides
import Derived.Laws.EntriesVeiled
import Derived.Lib.Hide
import Derived.Deep.LoopGhost
import Derived.Deep.QuietTactic
import Derived.BigQuiet
set_option linter.unusedSimpArgs false
set_option linter.unusedVariables false
namespace Go.Proofs.YtbnelgniekcjdaaGreatDoor
open Go.RowKit Cap

theorem ret_i {k : IntKind} {a b : Int} (h : a = b) : Ending.returned (.int k a) = .returned (.int k b) := by rw [h]
theorem ret_b {a b : Bool} (h : a = b) : Ending.returned (.bool a) = .returned (.bool b) := by rw [h]
theorem ret_ii {k l : IntKind} {a b c d : Int} (h : a = b) (h' : c = d) : Ending.returned (.tuple #[.int k a, .int l c]) = .returned (.tuple #[.int k b, .int l d]) := by rw [h, h']
theorem bcell {W w1 : World} (hb : Below W.heap.size W w1) : (∀ b o, b < W.heap.size → w1.cell? ⟨b, o, none⟩ = W.cell? ⟨b, o, none⟩) ∧ (∀ b o, b < W.heap.size → w1.frozen? ⟨b, o, none⟩ = W.frozen? ⟨b, o, none⟩) :=
  ⟨fun b o h => hb.cell (p := ⟨b, o, none⟩) h, fun b o h => hb.frozen (p := ⟨b, o, none⟩) h⟩
theorem below_alloc {w W : World} {o : Obj} (h : Below w.heap.size w W) : Below w.heap.size w (W.alloc o) := h.alloc h.size o
theorem below_drew {w W : World} (h : Below w.heap.size w W) : Below w.heap.size w W.drew := ⟨h.os, h.tape, h.output, h.size, h.block⟩
theorem below_drewN {w W : World} {n : Nat} (h : Below w.heap.size w W) : Below w.heap.size w (W.drewN n) := ⟨h.os, h.tape, h.output, h.size, h.block⟩
theorem below_set {w W : World} {a : Addr} {v : Value} (ha : w.heap.size ≤ a.block) (h : Below w.heap.size w W) : Below w.heap.size w (W.setCell a v) := h.setCell ha v
theorem below_call {w w1 w2 : World} (k : Below w1.heap.size w1 w2) (h : Below w.heap.size w w1) : Below w.heap.size w w2 :=
  h.trans ⟨k.os, k.tape, k.output, k.size, fun i hi => k.block i (Nat.lt_of_lt_of_le hi h.size)⟩

/-! ### Slices whose elements' cells are told by a function -/
variable {α : Type}
def Sl (enc : α → List Value) (k : Nat) (w : World) (v : Value) (xs : List α) : Prop :=
  ∃ A c, v = .slice A xs.length c ∧ xs.length ≤ c ∧ c ≤ 9223372036854775807 ∧
    ∀ i x, xs[i]? = some x → ∃ b off, A = some ⟨b, off, none⟩ ∧ b < w.heap.size ∧ ∀ j v, (enc x)[j]? = some v → w.cell? ⟨b, off + i * k + j, none⟩ = some v
theorem Sl.below {enc : α → List Value} {k : Nat} {w w' : World} {v : Value} {xs : List α} (h : Sl enc k w v xs) (hb : Below w.heap.size w w') : Sl enc k w' v xs := by
  obtain ⟨A, c, rfl, h1, h2, h3⟩ := h
  refine ⟨A, c, rfl, h1, h2, fun i x hx => ?_⟩
  obtain ⟨b, off, e, hlt, hc⟩ := h3 i x hx
  exact ⟨b, off, e, Nat.lt_of_lt_of_le hlt hb.size, fun j v hv => (hb.cell (p := ⟨b, off + i * k + j, none⟩) hlt).trans (hc j v hv)⟩
theorem Sl.nil (enc : α → List Value) (k : Nat) (w : World) : Sl enc k w (.slice none 0 0) [] := ⟨none, 0, rfl, Nat.le_refl _, by decide, fun i x hx => by simp at hx⟩
theorem drop_cons {xs : List α} {i : Nat} {x : α} (h : xs[i]? = some x) : xs.drop i = x :: xs.drop (i + 1) := by
  obtain ⟨hi, rfl⟩ := List.getElem?_eq_some_iff.1 h
  exact List.drop_eq_getElem_cons hi
def encI (x : Int) : List Value := [.int .i64 x]
def encB (x : Bool) : List Value := [.bool x]
def encS (x : ByteArray) : List Value := [.string x]
theorem flatMap_at {enc : α → List Value} {k : Nat} (hk : ∀ x, (enc x).length = k) : ∀ (xs : List α) (i : Nat) (x : α) (j : Nat) (v : Value), xs[i]? = some x → (enc x)[j]? = some v → (xs.flatMap enc)[i * k + j]? = some v
  | [], i, x, j, v, h, _ => by simp at h
  | y :: ys, 0, x, j, v, h, hv => by
    obtain rfl : y = x := by simpa using h
    have hj : j < (enc y).length := (List.getElem?_eq_some_iff.1 hv).1
    rw [List.flatMap_cons, Nat.zero_mul, Nat.zero_add, List.getElem?_append_left hj]
    exact hv
  | y :: ys, i + 1, x, j, v, h, hv => by
    have h' : ys[i]? = some x := by simpa using h
    have hi := flatMap_at hk ys i x j v h' hv
    rw [List.flatMap_cons, List.getElem?_append_right (by rw [hk, Nat.succ_mul]; omega), hk]
    rw [show (i + 1) * k + j - k = i * k + j from by rw [Nat.succ_mul]; omega]
    exact hi
theorem Sl.lit {enc : α → List Value} {k : Nat} (hk : ∀ x, (enc x).length = k) (w : World) (cells : Array Value) (T : TypeId) (n : Nat) (xs : List α) (h : cells.toList = xs.flatMap enc) (hn : n = xs.length) (hb : xs.length ≤ 9223372036854775807) :
    Sl enc k (w.alloc (.cells cells T)) (.slice (some ⟨w.heap.size, 0, none⟩) n n) xs := by
  subst hn
  refine ⟨_, _, rfl, Nat.le_refl _, hb, fun i x hx => ⟨_, _, rfl, by simp, fun j v hv => ?_⟩⟩
  have h1 := flatMap_at hk xs i x j v hx hv
  rw [World.cell?_alloc_at _ _ _ _ rfl, ← Array.getElem?_toList, h, Nat.zero_add]
  exact h1
theorem Sl.lit' {enc : α → List Value} {k : Nat} (hk : ∀ x, (enc x).length = k) (w : World) (B : Nat) (cells : Array Value) (T : TypeId) (n : Nat) (xs : List α) (hB : B = w.heap.size) (h : cells.toList = xs.flatMap enc) (hn : n = xs.length) (hb : xs.length ≤ 9223372036854775807) :
    Sl enc k (w.alloc (.cells cells T)) (.slice (some ⟨B, 0, none⟩) n n) xs := by
  subst hB
  exact Sl.lit hk w cells T n xs h hn hb
/-- A predicate handed over as a function value. -/
def PredC (P : Program) (g : Nat) (lb : Array Value) (arg : α → Value) (p : α → Bool) (xs : List α) (w : World) : Prop :=
  ∀ (W : World) (x : α), x ∈ xs → Below w.heap.size w W → Calls P g (#[arg x] ++ lb) W fun e w' => e = .returned (.bool (p x)) ∧ Below W.heap.size W w'
/-- A test of two, handed over as a function value. -/
def PredC2 {β : Type} (P : Program) (g : Nat) (lb : Array Value) (arg : α → Value) (arg2 : β → Value) (p : α → β → Bool) (w : World) : Prop :=
  ∀ (W : World) (x : α) (y : β), Below w.heap.size w W → Calls P g (#[arg x, arg2 y] ++ lb) W fun e w' => e = .returned (.bool (p x y)) ∧ Below W.heap.size W w'
theorem eqP_drop {β : Type} {p : α → β → Bool} {xs : List α} {ys : List β} {i : Nat} {x : α} {y : β} (h : xs[i]? = some x) (h' : ys[i]? = some y) : eqP p (xs.drop i) (ys.drop i) = (p x y && eqP p (xs.drop (i + 1)) (ys.drop (i + 1))) := by
  rw [drop_cons h, drop_cons h', eqP]
theorem eqP_len {β : Type} {p : α → β → Bool} : ∀ (xs : List α) (ys : List β), xs.length ≠ ys.length → eqP p xs ys = false
  | [], [], h => absurd rfl h
  | [], _ :: _, _ => rfl
  | _ :: _, [], _ => rfl
  | x :: xs, y :: ys, h => by
    rw [eqP, eqP_len xs ys (fun e => h (by simp [e])), Bool.and_false]
theorem idxP_drop {p : α → Bool} {xs : List α} {i : Nat} {x : α} (h : xs[i]? = some x) : idxP p (xs.drop i) i = if p x then (i : Int) else idxP p (xs.drop (i + 1)) ((i + 1 : Nat) : Int) := by
  rw [drop_cons h, idxP]
  rfl
def encIns (i : Ins) : List Value := [.int .i64 i.op, .int .i64 i.a, .int .i64 i.b, .int .i64 i.n]
def insV (i : Ins) : Value := .agg #[.int .i64 i.op, .int .i64 i.a, .int .i64 i.b, .int .i64 i.n]
def fldV (f : Fld) : Value := .agg #[.string f.name, .int .i64 f.ty, .bool f.set]
def encFld (f : Fld) : List Value := [.string f.name, .int .i64 f.ty, .bool f.set]
theorem encFld_len (f : Fld) : (encFld f).length = 3 := rfl
theorem encIns_len (i : Ins) : (encIns i).length = 4 := rfl
theorem encI_len (i : Int) : (encI i).length = 1 := rfl
/-- An image as it lies. -/
def ImgV (w : World) (v : Value) (x : Img) : Prop := ∃ vt vf vi vo vc, v = .agg #[.string x.name, vt, vf, vi, vo, vc] ∧
  Sl encI 1 w vt x.types ∧ Sl encI 1 w vf x.first ∧ Sl encI 1 w vi x.ins ∧ Sl encI 1 w vo x.outs ∧ Sl encIns 4 w vc x.code
theorem ImgV.below {w w' : World} {v : Value} {x : Img} (h : ImgV w v x) (hb : Below w.heap.size w w') : ImgV w' v x := by
  obtain ⟨vt, vf, vi, vo, vc, rfl, h1, h2, h3, h4, h5⟩ := h
  exact ⟨vt, vf, vi, vo, vc, rfl, h1.below hb, h2.below hb, h3.below hb, h4.below hb, h5.below hb⟩
end Go.Proofs.YtbnelgniekcjdaaGreatDoor
