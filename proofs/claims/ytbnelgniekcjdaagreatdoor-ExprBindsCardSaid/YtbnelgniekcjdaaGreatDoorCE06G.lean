/- What the listed variables of law 6 hold, as the walks read it. -/
import Derived.Test.YtbnelgniekcjdaaGreatDoorRows
import Derived.Test.YtbnelgniekcjdaaGreatDoorCE06A
import Derived.Test.YtbnelgniekcjdaaGreatDoorCLaid
import Derived.MakeChecks
set_option linter.unusedSimpArgs false
set_option linter.unusedVariables false
namespace Go.Proofs.YtbnelgniekcjdaaGreatDoor
open Go.RowKit Go.Proofs.YtbnelgniekcjdaaGreatDoor Cap
set_option maxRecDepth 100000
theorem gE_of {W : World} (h : W.ShapedOpen Tryz.prog) : G W :=
  Go.Proofs.cell_of_shapedOpen_int (zero := #[.int .i64 0]) (t := 3) h (of_decide_eq_true (by kernel_rfl)) (by kernel_rfl) rfl (by kernel_rfl) (by kernel_rfl) Tryz.underlying3
def spZ : List Int := (List.range 256).map fun c => if Go.Lib.isSp (UInt8.ofNat c) then 1 else 0
theorem ge_of {W : World} (hs : W.ShapedOpen Tryz.prog) (h1 : Go.Lib.VarReads Tryz.prog W "capstan/expr.signs" Rows.laid_capstan_expr_signs) (h2 : Go.Lib.VarReads Tryz.prog W "capstan/expr.conversions" Rows.laid_capstan_expr_conversions)
    (h3 : Go.Lib.VarReads Tryz.prog W "strings.asciiSpace" Rows.laid_strings_asciiSpace) : GE W := by
  have e1 := strs_laid (ss := signTxt.map fun s => s.data.toList) (g := 1) (t := 66) (e := 9) (n := 17) (by kernel_rfl) (by kernel_rfl) (by kernel_rfl) (by kernel_rfl) (by kernel_rfl) h1
  have e2 := strs_laid (ss := convTxt.map fun s => s.data.toList) (g := 0) (t := 65) (e := 9) (n := 5) (by kernel_rfl) (by kernel_rfl) (by kernel_rfl) (by kernel_rfl) (by kernel_rfl) h2
  have e3 := ints_laid (zs := spZ) (k := .u8) (g := 2) (t := 127) (e := 5) (n := 256) (by kernel_rfl) (by kernel_rfl) (by kernel_rfl) (by kernel_rfl) (by kernel_rfl) (by kernel_rfl) h3
  refine ⟨⟨gE_of hs, fun i s hi => ?_, fun i s hi => ?_⟩, fun c hc => ?_⟩
  · exact e1 i s.data.toList (by rw [List.getElem?_map, hi]; rfl)
  · exact e2 i s.data.toList (by rw [List.getElem?_map, hi]; rfl)
  · exact e3 c _ (by unfold spZ; rw [List.getElem?_map, List.getElem?_range hc]; rfl)
end Go.Proofs.YtbnelgniekcjdaaGreatDoor
