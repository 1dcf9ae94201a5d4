/- From a row's list of laid variables to the cells that a walk reads: arrays of texts, arrays of numbers. Over any program. -/
import Derived.Lib.LaidU8
import Derived.Lib.LaidTab
import Derived.OpenShut
import Derived.ChangeArms
import Derived.Shelf.Vars
import Derived.Test.YtbnelgniekcjdaaGreatDoorRows
import Derived.Test.YtbnelgniekcjdaaGreatDoorCE06A
import Derived.MakeChecks
set_option linter.unusedSimpArgs false
set_option linter.unusedVariables false
namespace Go.Proofs.YtbnelgniekcjdaaGreatDoor
open Go Go.Lib
/-- An array of texts that reads as a list of texts holds them, cell for cell. -/
theorem strs_laid {P : Program} {w : World} {name : String} {ss : List (List UInt8)} {g : Nat} {t e : TypeId} {n : Nat} (hg : P.globalNamed name = some g) (hty : (P.globals[g]?).map (·.type) = some t)
    (ht : P.underlying t = some (.array n e)) (he : P.underlying e = some .string) (hce : P.cellsOf e = 1) (h : VarReads P w name (.agg (ss.map fun s => .lit (.string s)))) :
    ∀ (i : Nat) (s : List UInt8), ss[i]? = some s → w.cell? ⟨g, i, none⟩ = some (.string ⟨s.toArray⟩) := by
  obtain ⟨g', t', cs, fuel, p, hg', ht', hv, hd⟩ := h
  obtain rfl := Option.some.inj (hg.symm.trans hg')
  obtain rfl := Option.some.inj (hty.symm.trans ht')
  intro i s hs
  obtain ⟨xs, m, _, ex, _, hl, hel⟩ := DataW.trod_array ht hd
  have hx := (DataW.agg.inj (Prod.mk.inj ex).1).symm
  have hlen : xs.length = ss.length := by
    have := congrArg List.length hx
    simpa using this
  have hi : i < n := by
    have := (List.getElem?_eq_some_iff.1 hs).1
    omega
  have hE := hel i hi
  rw [hce, Nat.mul_one, List.getElem?_eq_getElem (by omega)] at hE
  obtain ⟨u, e1, e2, _⟩ := DataW.trod_string he hE
  have e4 : (xs.map (·.1))[i]? = (ss.map fun s => (DataW.lit (.string s) : DataW Unit))[i]? := by rw [hx]
  rw [List.getElem?_map, List.getElem?_map, List.getElem?_eq_getElem (by omega : i < xs.length), hs, e2] at e4
  have hz : u.data.toList = s := by
    simpa using e4
  rw [World.var?_cell hg hv i]
  have hc : cs.toList[i]? = some (.string u) := by
    have h0 : ((cs.toList.drop i).take 1)[0]? = some (.string u) := by rw [e1]; rfl
    simpa using h0
  rw [← hz]
  simpa using hc
theorem ints_laid {P : Program} {w : World} {name : String} {k : IntKind} {zs : List Int} {g : Nat} {t e : TypeId} {n : Nat} (hg : P.globalNamed name = some g) (hty : (P.globals[g]?).map (·.type) = some t)
    (ht : P.underlying t = some (.array n e)) (he : P.underlying e = some (.int k)) (hce : P.cellsOf e = 1) (hct : P.cellsOf t = n) (h : VarReads P w name (.agg (zs.map fun z => .lit (.int k z)))) :
    ∀ (i : Nat) (z : Int), zs[i]? = some z → w.cell? ⟨g, i, none⟩ = some (.int k z) := by
  obtain ⟨g', t', cs, fuel, p, hg', ht', hv, hd⟩ := h
  obtain rfl := Option.some.inj (hg.symm.trans hg')
  obtain rfl := Option.some.inj (hty.symm.trans ht')
  intro i z hz
  have hc := cells_of_tab (zs := zs) ht he hce hct hd
  rw [World.var?_cell hg hv i]
  have h2 : cs.toList[i]? = some (.int k z) := by rw [hc, List.getElem?_map, hz]; rfl
  simpa using h2
end Go.Proofs.YtbnelgniekcjdaaGreatDoor

/- What the listed variables of law 6 hold, as the walks read it. -/
namespace Go.Proofs.YtbnelgniekcjdaaGreatDoor
open Go.RowKit Go.Proofs.YtbnelgniekcjdaaGreatDoor Cap
set_option maxRecDepth 100000
theorem gE_of {W : World} (h : W.ShapedOpen Tryz.prog) : G W :=
  Go.Proofs.cell_of_shapedOpen_int (zero := #[.int .i64 0]) (t := 3) h (of_decide_eq_true (by kernel_rfl)) (by kernel_rfl) rfl (by kernel_rfl) (by kernel_rfl) Tryz.underlying3
def spZ : List Int := (List.range 256).map fun c => if Go.Lib.isSp (UInt8.ofNat c) then 1 else 0
theorem ge_of {W : World} (hs : W.ShapedOpen Tryz.prog) (h1 : Go.Lib.VarReads Tryz.prog W "capstan/expr.signs" Rows.laid_capstan_expr_signs) (h2 : Go.Lib.VarReads Tryz.prog W "capstan/expr.conversions" Rows.laid_capstan_expr_conversions)
    (h3 : Go.Lib.VarReads Tryz.prog W "strings.asciiSpace" Rows.laid_strings_asciiSpace) : GE W := by
  have e1 := strs_laid (ss := signTxt.map fun s => s.data.toList) (g := 1) (t := 66) (e := 9) (n := 17) (by kernel_rfl) (by kernel_rfl) (by kernel_rfl) (by kernel_rfl) (by kernel_rfl) h1
  have e2 := strs_laid (ss := convTxt.map fun s => s.data.toList) (g := 0) (t := 65) (e := 9) (n := 5) (by kernel_rfl) (by kernel_rfl) (by kernel_rfl) (by kernel_rfl) (by kernel_rfl) h2
  have e3 := ints_laid (zs := spZ) (k := .u8) (g := 2) (t := 127) (e := 5) (n := 256) (by kernel_rfl) (by kernel_rfl) (by kernel_rfl) (by kernel_rfl) (by kernel_rfl) (by kernel_rfl) h3
  refine ⟨⟨gE_of hs, fun i s hi => ?_, fun i s hi => ?_⟩, fun c hc => ?_⟩
  · exact e1 i s.data.toList (by rw [List.getElem?_map, hi]; rfl)
  · exact e2 i s.data.toList (by rw [List.getElem?_map, hi]; rfl)
  · exact e3 c _ (by unfold spZ; rw [List.getElem?_map, List.getElem?_range hc]; rfl)
end Go.Proofs.YtbnelgniekcjdaaGreatDoor
