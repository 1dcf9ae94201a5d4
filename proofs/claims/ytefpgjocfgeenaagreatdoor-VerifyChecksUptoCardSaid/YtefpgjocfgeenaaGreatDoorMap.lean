/- A map of the call's own with whole numbers as keys and bools as values: what it holds, as a function. Over any program. -/
import Derived.Test.YtefpgjocfgeenaaGreatDoorKit
import Derived.Maps.OwnOps
import Derived.Maps.OwnSet
import Derived.Maps.Views
namespace Go.Proofs.YtefpgjocfgeenaaGreatDoor
open Go.RowKit Go.Maps
variable {P : Program}

/-- How a bool in a map is read. -/
def boolR (v : Value) : Option (DataW Unit × List MemPlace) :=
  match v with
  | .bool x => some (.lit (.bool x), [])
  | _ => none
theorem boolR_inv {v : Value} {d : DataW Unit} {ps : List MemPlace} (h : boolR v = some (d, ps)) : ∃ x, v = .bool x ∧ d = .lit (.bool x) := by
  unfold boolR at h
  split at h
  · injection h with h
    injection h with h1 h2
    exact ⟨_, rfl, h1.symm⟩
  · cases h
def wfI (c : Int) : Prop := (Lit.int .i64 c).wf = true
theorem wfI_of {c : Int} (h0 : -9223372036854775808 ≤ c) (h1 : c ≤ 9223372036854775807) : wfI c := by
  have h := wrap64_wf c
  rw [show wrap64 c = c from by unfold wrap64; omega] at h
  exact h
/-- The map in block b holds f; at most n keys were stored. -/
def MapIB (P : Program) (K : TypeId) (w : World) (b n : Nat) (f : Int → Bool) : Prop :=
  ∃ D : DataW Unit, w.ownsMap P K boolR b n D ∧ IsMap D ∧ ∀ c, wfI c → D.atKey (.int .i64 c) (.lit (.bool false)) = .lit (.bool (f c))
theorem MapIB.made (w : World) (K : TypeId) : MapIB P K (w.alloc (.map #[] 0)) w.heap.size 0 (fun _ => false) :=
  ⟨.map [], World.ownsMap_made _ _ _ _, ⟨_, rfl⟩, fun c _ => rfl⟩
theorem MapIB.kept {w w' : World} {K : TypeId} {b n : Nat} {f : Int → Bool} {row : Option Nat} (h : MapIB P K w b n f) (hg : w.grownBy w' row) (hne : some b ≠ row) : MapIB P K w' b n f := by
  obtain ⟨D, h1, h2, h3⟩ := h
  exact ⟨D, h1.kept hg hne, h2, h3⟩
theorem MapIB.lt {w : World} {K : TypeId} {b n : Nat} {f : Int → Bool} (h : MapIB P K w b n f) : b < w.heap.size := by
  obtain ⟨D, h1, h2, h3⟩ := h
  exact h1.lt
theorem MapIB.look {w : World} {K T E : TypeId} {b n : Nat} {f : Int → Bool} (h : MapIB P K w b n f) (hK : P.underlying K = some (.int .i64)) (hT : P.underlying T = some (.map K E)) (hz : (zeroValue E).run P w = .ok (.bool false) w) {c : Int} (hc : wfI c) :
    (Instr.lookup T (.map (some b)) (.int .i64 c) false).run P w = .ok (.bool (f c)) w := by
  obtain ⟨D, h1, h2, h3⟩ := h
  obtain ⟨v, ps, hr, hv⟩ := h1.lookup (int_keyed hK) hT hz (zd := .lit (.bool false)) (zp := []) rfl (keyOf_int_mk hK hc)
  rw [h3 c hc] at hv
  obtain ⟨x, rfl, hd⟩ := boolR_inv hv
  injection hd with hd
  injection hd with hd
  rw [hr, hd]
theorem MapIB.put {w : World} {K T E : TypeId} {b n : Nat} {f : Int → Bool} (h : MapIB P K w b n f) (hK : P.underlying K = some (.int .i64)) (hT : P.underlying T = some (.map K E)) (hn : n < maxLen) {c : Int} (hc : wfI c) (x : Bool) :
    ∃ w', (Instr.mapUpdate T (.map (some b)) (.int .i64 c) (.bool x)).run P w = .ok () w' ∧ MapIB P K w' b (n + 1) (fun d => if d = c then x else f d) ∧ w.grownBy w' (some b) := by
  obtain ⟨D, h1, h2, h3⟩ := h
  obtain ⟨w', hr, ho, hg⟩ := h1.update (int_keyed hK) hT hn (keyOf_int_mk hK hc) (val := .bool x) (d := .lit (.bool x)) (ps := []) rfl
  refine ⟨w', hr, ⟨_, ho, h2.put _ _, fun d hd => ?_⟩, hg⟩
  show _ = DataW.lit (.bool (if d = c then x else f d))
  by_cases e : d = c
  · rw [e, if_pos rfl]
    exact atKey_put_same h2 (show WideAt.IsKeyLit (.int .i64 c) from trivial) _ _
  · rw [if_neg e, atKey_put_other (by intro he; injection he with _ he; exact e he), h3 d hd]
end Go.Proofs.YtefpgjocfgeenaaGreatDoor
