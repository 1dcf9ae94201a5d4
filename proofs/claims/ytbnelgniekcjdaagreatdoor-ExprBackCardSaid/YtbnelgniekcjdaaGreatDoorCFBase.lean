/- Small words that several layers' walks use. -/
import Derived.Test.YtbnelgniekcjdaaGreatDoorCKit
import Derived.Test.YtbnelgniekcjdaaGreatDoorProg
import Derived.ChangeKeysEq
import Derived.Deep.DeepCutAuto
import Derived.Deep.MidRow
import Derived.Deep.RegionHeld3
import Derived.KernelRfl
import Derived.Laws.IdiomCopy
import Derived.Laws.MakeOwn
import Derived.Laws.Rows
import Derived.RegionTactic
set_option linter.unusedSimpArgs false
set_option linter.unusedVariables false
namespace Go.Proofs.YtbnelgniekcjdaaGreatDoor
open Go.RowKit Cap
set_option maxRecDepth 100000

theorem info_int : InfoIs Tryz.prog 3 (.int .i64 0) 1 8 := by unfold InfoIs; kernel_rfl
theorem one_I : ∀ x, ∀ u ∈ encI x, u.oneCell' = true := fun x u hu => by
  simp only [encI, List.mem_singleton] at hu
  subst hu
  rfl
/-- A take whose slot is told. -/
theorem take_at {P : Program} {ops : Array Oper} {Q : Exit → Act → World → Prop} {md : Region.Mode} {S : World → Prop} {i : Nat} {oi : Oper} {v : Value} {fuel : Nat} {listed : Array Bool} {a : Act} {w : World} (d : Option Tmp) (hi : ops[i]? = some oi) (hd : oi.dst = d)
    (hs : Region.noSelect ops = true) (hf : Region.free md ops listed i = true) (hr : (Region.ready md ops listed).contains i = true)
    (hQ : ∀ c a w, Q (.panic c) (a.put d v) w → Q (.panic c) a w) (hy : YieldsIf P ops S oi v a) (hS : S w)
    (h : wpAnyH P md ops Q S fuel (listed.setIfInBounds i true) (a.put d v) w) : wpAnyH P md ops Q S (fuel + 1) listed a w := by
  subst hd
  exact wpAnyH_take hi hs hf hr hQ hy hS h
theorem madeCells_rows (zs : Array Value) (m n : Nat) (hm : zs.size = m) (h0 : 0 < m) : (madeCells zs (n * m)).toList = (List.replicate n ()).flatMap (fun _ => zs.toList) := by
  have hl := flatMap_len (enc := fun _ : Unit => zs.toList) (k := m) (fun _ => by simpa using hm) (List.replicate n ())
  rw [List.length_replicate] at hl
  apply List.ext_getElem?
  intro j
  by_cases hj : j < n * m
  · have hi : j / m < n := Nat.div_lt_of_lt_mul (by rw [Nat.mul_comm]; exact hj)
    have hmod : j % m < m := Nat.mod_lt _ h0
    have h1 := flatMap_at (enc := fun _ : Unit => zs.toList) (k := m) (fun _ => by simpa using hm) (List.replicate n ()) (j / m) () (j % m) (zs[j % m]'(by omega)) (by simp [hi]) (by simp [hm, hmod])
    rw [show j / m * m + j % m = j from by rw [Nat.mul_comm]; exact Nat.div_add_mod j m] at h1
    rw [h1]
    simp [madeCells, hj, hm, hmod]
  · rw [List.getElem?_eq_none (by rw [Array.length_toList, size_madeCells]; omega), List.getElem?_eq_none (by rw [hl]; omega)]
theorem own_slice {w : World} {base : Nat} {e : TypeId} {k : Nat} {v : Value} {n : Nat} {xs : List Value} (h : w.ownsRow base e k v n xs) : ∃ A c, v = .slice A n c := by
  rcases h.2 with ⟨rfl, h0⟩ | ⟨g, cap, cur, rfl, _⟩
  · exact ⟨none, 0, by rw [h0]⟩
  · exact ⟨_, cap, rfl⟩
theorem any_idxP {α : Type} (p : α → Bool) (xs : List α) : xs.any p = decide (0 ≤ idxP p xs 0) := by
  have h : ∀ (xs : List α) (i : Int), 0 ≤ i → xs.any p = decide (0 ≤ idxP p xs i) := by
    intro xs
    induction xs with
    | nil => intro i _; simp [idxP]
    | cons x r ih =>
      intro i hi
      rw [List.any_cons, idxP]
      cases hp : p x with
      | true => simp [hi]
      | false => simpa using ih (i + 1) (by omega)
  exact h xs 0 (Int.le_refl _)
end Go.Proofs.YtbnelgniekcjdaaGreatDoor
