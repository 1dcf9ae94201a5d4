/- Slices in a list, one behind the other: plain words for slices.Concat. -/
import Derived.Test.YtbnelgniekcjdaaGreatDoorCFBase
import Derived.Test.YtbnelgniekcjdaaGreatDoorCOwn
set_option linter.unusedSimpArgs false
set_option linter.unusedVariables false
namespace Go.Proofs.YtbnelgniekcjdaaGreatDoor
open Go.RowKit Cap

/-- Slices in a list. -/
def Slices {α : Type} (enc : α → List Value) (k : Nat) (w : World) (vs : List Value) (xss : List (List α)) : Prop :=
  vs.length = xss.length ∧ ∀ (j : Nat) u xs, vs[j]? = some u → xss[j]? = some xs → Sl enc k w u xs
def lensTo {α : Type} (xss : List (List α)) (k : Nat) : Nat := (xss.take k).flatten.length
theorem take_flat {α : Type} {xss : List (List α)} {k : Nat} {xs : List α} (h : xss[k]? = some xs) : (xss.take (k + 1)).flatten = (xss.take k).flatten ++ xs := by
  obtain ⟨hk, rfl⟩ := List.getElem?_eq_some_iff.1 h
  rw [List.take_succ_eq_append_getElem hk, List.flatten_append]
  simp
theorem lensTo_succ {α : Type} {xss : List (List α)} {k : Nat} {xs : List α} (h : xss[k]? = some xs) : lensTo xss (k + 1) = lensTo xss k + xs.length := by
  rw [lensTo, take_flat h, List.length_append, lensTo]
theorem lensTo_le {α : Type} (xss : List (List α)) (k : Nat) : lensTo xss k ≤ xss.flatten.length := by
  have e : xss.flatten = (xss.take k).flatten ++ (xss.drop k).flatten := by rw [← List.flatten_append, List.take_append_drop]
  rw [lensTo, e, List.length_append]
  omega

def ConcatR {α : Type} (enc : α → List Value) (k : Nat) (T : TypeId) (ys : List α) (w : World) (e : Ending) (w' : World) : Prop :=
  ∃ v, e = .returned v ∧ w'.ownsRow w.heap.size T k v ys.length (ys.flatMap enc) ∧ Below w.heap.size w w'
end Go.Proofs.YtbnelgniekcjdaaGreatDoor
