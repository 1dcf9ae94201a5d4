/- From a row's list of laid variables to the cells that a walk reads: arrays of texts, arrays of numbers. Over any program. -/
import Derived.Lib.LaidU8
import Derived.Lib.LaidTab
import Derived.OpenShut
import Derived.ChangeArms
import Derived.Shelf.Vars
set_option linter.unusedSimpArgs false
set_option linter.unusedVariables false
namespace Go.Proofs.YtbnelgniekcjdaaGreatDoor
open Go Go.Lib
/-- An array of texts that reads as a list of texts holds them, cell for cell. -/
theorem strs_laid {P : Program} {w : World} {name : String} {ss : List (List UInt8)} {g : Nat} {t e : TypeId} {n : Nat} (hg : P.globalNamed name = some g) (hty : (P.globals[g]?).map (·.type) = some t)
    (ht : P.underlying t = some (.array n e)) (he : P.underlying e = some .string) (hce : P.cellsOf e = 1) (h : VarReads P w name (.agg (ss.map fun s => .lit (.string s)))) :
    ∀ (i : Nat) (s : List UInt8), ss[i]? = some s → w.cell? ⟨g, i, none⟩ = some (.string ⟨s.toArray⟩) := by
  obtain ⟨g', t', cs, fuel, p, hg', ht', hv, hd⟩ := h
  obtain rfl := Option.some.inj (hg.symm.trans hg')
  obtain rfl := Option.some.inj (hty.symm.trans ht')
  intro i s hs
  obtain ⟨xs, m, _, ex, _, hl, hel⟩ := DataW.trod_array ht hd
  have hx := (DataW.agg.inj (Prod.mk.inj ex).1).symm
  have hlen : xs.length = ss.length := by
    have := congrArg List.length hx
    simpa using this
  have hi : i < n := by
    have := (List.getElem?_eq_some_iff.1 hs).1
    omega
  have hE := hel i hi
  rw [hce, Nat.mul_one, List.getElem?_eq_getElem (by omega)] at hE
  obtain ⟨u, e1, e2, _⟩ := DataW.trod_string he hE
  have e4 : (xs.map (·.1))[i]? = (ss.map fun s => (DataW.lit (.string s) : DataW Unit))[i]? := by rw [hx]
  rw [List.getElem?_map, List.getElem?_map, List.getElem?_eq_getElem (by omega : i < xs.length), hs, e2] at e4
  have hz : u.data.toList = s := by
    simpa using e4
  rw [World.var?_cell hg hv i]
  have hc : cs.toList[i]? = some (.string u) := by
    have h0 : ((cs.toList.drop i).take 1)[0]? = some (.string u) := by rw [e1]; rfl
    simpa using h0
  rw [← hz]
  simpa using hc
theorem ints_laid {P : Program} {w : World} {name : String} {k : IntKind} {zs : List Int} {g : Nat} {t e : TypeId} {n : Nat} (hg : P.globalNamed name = some g) (hty : (P.globals[g]?).map (·.type) = some t)
    (ht : P.underlying t = some (.array n e)) (he : P.underlying e = some (.int k)) (hce : P.cellsOf e = 1) (hct : P.cellsOf t = n) (h : VarReads P w name (.agg (zs.map fun z => .lit (.int k z)))) :
    ∀ (i : Nat) (z : Int), zs[i]? = some z → w.cell? ⟨g, i, none⟩ = some (.int k z) := by
  obtain ⟨g', t', cs, fuel, p, hg', ht', hv, hd⟩ := h
  obtain rfl := Option.some.inj (hg.symm.trans hg')
  obtain rfl := Option.some.inj (hty.symm.trans ht')
  intro i z hz
  have hc := cells_of_tab (zs := zs) ht he hce hct hd
  rw [World.var?_cell hg hv i]
  have h2 : cs.toList[i]? = some (.int k z) := by rw [hc, List.getElem?_map, hz]; rfl
  simpa using h2
end Go.Proofs.YtbnelgniekcjdaaGreatDoor
