/- VerifyChecks answers true for every image of bulk at most 1048576, and leaves it as it was. Conditions: the row lists two tables of unicode/utf8 as the program lays them (tied by the card); of internal/bytealg.MaxLen it speaks for every value. -/
import Derived.Test.YtefpgjocfgeenaaGreatDoorRows
import Derived.Test.YtefpgjocfgeenaaGreatDoorCards
import Derived.Test.YtefpgjocfgeenaaGreatDoorTie
import Derived.Test.YtefpgjocfgeenaaGreatDoorChecks
import Derived.Test.YtefpgjocfgeenaaGreatDoorOpen
import Derived.Shelf.Vars
import Derived.SevenTiedAt
import Derived.MakeChecks
import Derived.Deep.DeepHandedRow
namespace Go.Proofs.YtefpgjocfgeenaaGreatDoor.verifyChecks
open Go.ChangeShapes Go.WideShapes Go.ChangeAt Go.RowKit Go.Proofs.YtefpgjocfgeenaaGreatDoor
set_option linter.unusedVariables false
theorem own : ownKnob Tryz.prog.godebug = none := by kernel_rfl
theorem g_of {W : World} (h : W.ShapedOpen Tryz.prog) : G W :=
  Go.Proofs.cell_of_shapedOpen_int (zero := #[.int .i64 0]) (t := 3) h (of_decide_eq_true (by kernel_rfl)) (by kernel_rfl) rfl (by kernel_rfl) (by kernel_rfl) Tryz.underlying3
theorem fits (os : Os) : (World.holding Tryz.prog os ⟨#[], #[], []⟩).layFits Tryz.prog Rows.verifyChecksUptoRow.laid [] = true := by kernel_rfl
theorem ifaces (os : Os) : (World.holding Tryz.prog os ⟨#[], #[], []⟩).layIfaces Tryz.prog Rows.verifyChecksUptoRow.laid (World.laidAll Tryz.prog os Rows.verifyChecksUptoRow.laid) = true := by kernel_rfl
/-- The arguments of the witness: nothing at all. -/
def none2 : Array Value := #[.agg #[.string ⟨#[]⟩, .slice none 0 0, .slice none 0 0, .slice none 0 0, .slice none 0 0, .slice none 0 0]]
/-- A world that meets the condition: the settled one, the listed variables laid. -/
noncomputable def laidWorld (os : Os) : World := World.laidAll Tryz.prog os Rows.verifyChecksUptoRow.laid
theorem laid_shaped (os : Os) : ((laidWorld os).forCall (fun _ _ => 0) ⟨#[], none2, []⟩).Shaped Tryz.prog :=
  World.shaped_of_ZipB (by kernel_rfl) (by kernel_rfl)
theorem laid_met (os : Os) (args : Array Value) : laidMetH Tryz.prog Rows.verifyChecksUptoRow.laid ((laidWorld os).forCall (fun _ _ => 0) ⟨#[], args, []⟩).memory := by
  rw [Go.MakeChecks.laidMetH_plain _ _ _ (by kernel_rfl)]
  exact laidMet_laidAll args (fits os) (ifaces os)
theorem reads (os : Os) {H : Type} (enc : TypeId × Value → H) : ∃ places, DataW.whole enc Tryz.prog ((laidWorld os).forCall (fun _ _ => 0) ⟨#[], none2, []⟩).memory Tryz.f3.params.toList Rows.verifyChecksSpec.vars false none2.toList 8 = some ([.agg [.lit (.string []), .nil, .nil, .nil, .nil, .nil]], [], places) :=
  ⟨[], by kernel_rfl⟩
theorem one_le {H : Type} (d : DataW H) : 1 ≤ Rows.uptoBulk d := by
  cases d with
  | lit l => cases l <;> simp [Rows.uptoBulk]
  | _ => simp [Rows.uptoBulk]
theorem length_le {H : Type} (l : List (DataW H)) : l.length ≤ Rows.uptoBulkAll l := by
  induction l with
  | nil => simp [Rows.uptoBulkAll]
  | cons x r ih => have := one_le x; simp only [Rows.uptoBulkAll, List.length_cons]; omega
theorem lenD_le {H : Type} (d : DataW H) : lenD d ≤ Rows.uptoBulk d := by
  cases d with
  | slice elems spare =>
    have := length_le elems
    simp only [lenD, Rows.uptoBulk]
    omega
  | _ => simp [lenD]
set_option maxRecDepth 100000 in
theorem contract (H : Type) (enc : TypeId × Value → H) (W : World) (base : Nat) (args : Array Value) (ds gs : List (DataW H)) (before : List MemPlace)
    (hval : ∀ (j : Nat) t v, Tryz.f3.params[j]? = some t → args[j]? = some v → Value.okWide Tryz.prog W .any base t v)
    (hW : DataW.Whole enc Tryz.prog Tryz.f3.params.toList Rows.verifyChecksSpec.vars false W args.toList ds gs before) (hk : Rows.uptoSmall H (ds ++ gs) = true) (hsh : W.ShapedOpen Tryz.prog) :
    Calls Tryz.prog 3 args W fun e W' => ∃ v, e = .returned v ∧ Rows.verifyChecksSpec.post enc Tryz.prog Tryz.f3 false true false false W args v W' := by
  have hW' := hW
  obtain ⟨p, q, hA0, hV, rfl, hfz, hnd⟩ := hW
  have hA : DataW.TrodAll enc Tryz.prog W 0 (fun _ => true) true Tryz.f3.params.toList args.toList ds p := hA0
  rw [Tryz.params3] at hA hval
  obtain ⟨v0, vs0, d0, ds0, p0, q0, hargs, rfl, rfl, h0, r0⟩ := trodAll_cons hA
  obtain ⟨rfl, rfl, rfl⟩ := trodAll_nil r0
  obtain rfl : args = #[v0] := by cases args; simp_all
  obtain ⟨rfl, rfl⟩ := trodVars_none hV
  obtain ⟨x, e0, e1, e2, e3, e4, e5, hx, hok, hname, rfl, rfl, n3, n4, n1, n2, n5⟩ := open_imgL h0
  have hb : x.types.length ≤ 1048576 ∧ x.first.length ≤ 1048576 ∧ x.ins.length + x.outs.length ≤ 1048576 ∧ x.code.length ≤ 1048576 := by
    have h : Rows.uptoBulkAll [DataW.agg (H := H) [.lit (.string x.name.data.toList), e1, e2, e3, e4, e5]] ≤ 1048576 := by simpa [Rows.uptoSmall] using hk
    simp only [Rows.uptoBulkAll, Rows.uptoBulk] at h
    have a1 := lenD_le e1
    have a2 := lenD_le e2
    have a3 := lenD_le e3
    have a4 := lenD_le e4
    have a5 := lenD_le e5
    omega
  have hn : x.name.size ≤ 1048576 := by
    have h : Rows.uptoBulkAll [DataW.agg (H := H) [.lit (.string x.name.data.toList), e1, e2, e3, e4, e5]] ≤ 1048576 := by simpa [Rows.uptoSmall] using hk
    simp only [Rows.uptoBulkAll, Rows.uptoBulk] at h
    have e : x.name.data.toList.length = x.name.size := by rw [Array.length_toList]; rfl
    omega
  obtain ⟨hb1, hb2, hb3, hb4⟩ := hb
  refine (checks_c x v0 W ⟨hx, by omega, by omega, hok⟩ ⟨by omega, by omega, by omega, by omega, by omega⟩ (g_of hsh)).mono fun e W' ⟨he, hbw⟩ => ?_
  subst he
  exact ⟨_, rfl, post_true hW' rfl rfl 4 (by kernel_rfl) 4 (by kernel_rfl) Tryz.underlying4 hbw⟩
set_option maxRecDepth 100000 in
theorem lifted (os : Os) (started : os.Started) (H : Type) (enc : TypeId × Value → H) (F : Stop.Interp) :
    ReturnsInHanded {} Tryz.checked os 3 .any ((Rows.OpenSpec.upto Rows.verifyChecksSpec).preRow enc Tryz.prog Tryz.f3 Rows.verifyChecksUptoRow.domain false Rows.verifyChecksUptoRow.laid) (((Rows.OpenSpec.upto Rows.verifyChecksSpec).at F).post enc Tryz.prog Tryz.f3 false true false false) := by
  obtain ⟨places, hx⟩ := reads os enc
  refine returnsInHanded_of_row (C := Tryz.checked) (s := Rows.OpenSpec.upto Rows.verifyChecksSpec) own started (by kernel_rfl) Tryz.func3
    ⟨laidWorld os, fun _ _ => 0, ⟨#[], none2, []⟩, World.laidAll_os _ _ _, laid_shaped os, rfl, (Input.okWide_of_okWideB (base := (laidWorld os).heap.size) (by kernel_rfl)).2,
      OpenSpec.preRow_of_cond 8 hx (by kernel_rfl) (fun k hk => by cases hk; kernel_rfl) (by kernel_rfl) (laid_met os _), by
      simp only [Assume.holds]
      exact ⟨by simp, by simp, fun _ => Modest.zero, by simp, by simp⟩⟩ ?_
  intro W base args ds gs before hval hW _ hcond _ _ hsh _
  exact contract H enc W base args ds gs before hval hW (hcond _ rfl) hsh
theorem over : Rows.VerifyChecksUptoSaid :=
  OpenClaim.holds_of_cond 3 Tryz.f3 rfl rfl rfl rfl rfl rfl rfl ⟨rfl, rfl, rfl, rfl, rfl⟩ rfl rfl rfl rfl rfl (by kernel_rfl) Tryz.func3 (by kernel_rfl)
    (of_decide_eq_true (by kernel_rfl)) (by unfold Func.isWrapper; rw [if_neg (of_decide_eq_false (by kernel_rfl))]; exact ⟨rfl, rfl⟩)
    (fun os started H enc _ F => by rw [OpenClaim.pre_eq_preRow]; exact lifted os started H enc F)
/-- ████ THE STATEMENT ████ -/
theorem proved : Rows.VerifyChecksUptoCardSaid :=
  Claim7.holds_tied_plain_at .later [] [.data, .pinned] true (true, "f90b226613f2c0bdeb8ba5420aed1f6226642885f9579c014a60da58164ce402") false
    over (fun _ h => by cases h) (by kernel_rfl) (fun _ h => by cases h) verifyChecksUpto_row_tie rfl ⟨rfl, rfl⟩ (by kernel_rfl) rfl
    (fun f fn hf hfn => by
      obtain rfl : f = 3 := Option.some.inj ((show Tryz.prog.funcNamed "capstan/capstanlaw15.VerifyChecks" = some 3 by kernel_rfl).symm.trans hf) |>.symm
      obtain rfl : fn = Tryz.f3 := (Option.some.inj (Tryz.func3.symm.trans hfn)).symm
      exact ⟨by kernel_rfl, fun j t ht => by
        rw [Tryz.params3] at ht
        have h3 : t = 26 := by
          rcases j with _ | j
          · simpa using ht.symm
          · simp at ht
        subst h3
        exact (show Tryz.prog.wantsStandIn 26 = false by kernel_rfl)⟩)
    (by kernel_rfl)
#print axioms proved
end Go.Proofs.YtefpgjocfgeenaaGreatDoor.verifyChecks
