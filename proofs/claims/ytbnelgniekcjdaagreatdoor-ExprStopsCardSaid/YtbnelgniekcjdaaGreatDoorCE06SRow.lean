/- ExprStops answers true for every slice of tokens and every int and leaves its arguments as they were. Conditions: the row lists the tables that package expr and the library lay, as the program lays them (tied by the card); of internal/bytealg.MaxLen it speaks for every value. -/
import Derived.Test.YtbnelgniekcjdaaGreatDoorRows
import Derived.Test.YtbnelgniekcjdaaGreatDoorCards
import Derived.Test.YtbnelgniekcjdaaGreatDoorTie
import Derived.Test.YtbnelgniekcjdaaGreatDoorCE06S
import Derived.Test.YtbnelgniekcjdaaGreatDoorCOpenT
import Derived.Test.YtbnelgniekcjdaaGreatDoorCE06G
import Derived.Test.YtbnelgniekcjdaaGreatDoorCRow
import Derived.ProofKit
import Derived.OpenShut
import Derived.Shelf.Vars
import Derived.SevenTiedAt
import Derived.MakeChecks
set_option linter.unusedSimpArgs false
set_option linter.unusedVariables false
namespace Go.Proofs.YtbnelgniekcjdaaGreatDoor.exprStops
open Go.ChangeShapes Go.WideShapes Go.ChangeAt Go.RowKit Go.Proofs.YtbnelgniekcjdaaGreatDoor
set_option linter.unusedVariables false
theorem own : ownKnob Tryz.prog.godebug = none := by kernel_rfl
theorem fits (os : Os) : (World.holding Tryz.prog os ⟨#[], #[], []⟩).layFits Tryz.prog Rows.exprStopsRow.laid [] = true := by kernel_rfl
theorem ifaces (os : Os) : (World.holding Tryz.prog os ⟨#[], #[], []⟩).layIfaces Tryz.prog Rows.exprStopsRow.laid (World.laidAll Tryz.prog os Rows.exprStopsRow.laid) = true := by kernel_rfl
def none2 : Array Value := #[.slice none 0 0, .int .i64 0]
/-- A world that meets the condition: the settled one, the listed variables laid. -/
noncomputable def laidWorld (os : Os) : World := World.laidAll Tryz.prog os Rows.exprStopsRow.laid
theorem laid_shaped (os : Os) : ((laidWorld os).forCall (fun _ _ => 0) ⟨#[], none2, []⟩).Shaped Tryz.prog :=
  World.shaped_of_ZipB (by kernel_rfl) (by kernel_rfl)
theorem laid_met (os : Os) (args : Array Value) : laidMetH Tryz.prog Rows.exprStopsRow.laid ((laidWorld os).forCall (fun _ _ => 0) ⟨#[], args, []⟩).memory := by
  rw [Go.MakeChecks.laidMetH_plain _ _ _ (by kernel_rfl)]
  exact laidMet_laidAll args (fits os) (ifaces os)
theorem ge_row {W : World} (hs : W.ShapedOpen Tryz.prog) (hm : laidMetH Tryz.prog Rows.exprStopsRow.laid W) : GE W := by
  rw [Go.MakeChecks.laidMetH_plain _ _ _ (by kernel_rfl)] at hm
  unfold Rows.exprStopsRow at hm
  exact ge_of hs (Go.Lib.laidMet.reads hm (by simp)) (Go.Lib.laidMet.reads hm (by simp)) (Go.Lib.laidMet.reads hm (by simp))
set_option maxRecDepth 100000 in
theorem lifted (os : Os) (started : os.Started) (H : Type) (enc : TypeId × Value → H) :
    ReturnsInHanded {} Tryz.checked os 4 .any (fun w args => (Rows.exprStopsSpec.pre enc Tryz.prog Tryz.f4 Rows.exprStopsRow.domain false w args ∧ laidMetH Tryz.prog Rows.exprStopsRow.laid w) ∧ sizedMet enc Tryz.prog Tryz.f4 (OpenSpec.ofChange Rows.exprStopsSpec) false w args)
      (Rows.exprStopsSpec.post enc Tryz.prog Tryz.f4 false true false false) := by
  refine handed_and_shaped (C := Tryz.checked) (X := fun w _ => laidMetH Tryz.prog Rows.exprStopsRow.laid w) (fun _ _ _ hh h => h.of_heap hh) own started (by kernel_rfl) Tryz.func4
    (ChangeSpec.witness_shaped (enc := enc) (C := Tryz.checked) (os := os) (X := fun w _ => laidMetH Tryz.prog Rows.exprStopsRow.laid w) false (laidWorld os) none2 8 (World.laidAll_os _ _ _) (laid_shaped os) (by kernel_rfl) (by kernel_rfl) (by kernel_rfl) (laid_met os _)) ?_
  intro W base args ds gs before hval0 hW _ hsz hmet hsh
  have hval : ∀ (j : Nat) t v, Tryz.f4.params[j]? = some t → args[j]? = some v → Value.okWide Tryz.prog W .any base t v := hval0
  have hW' := hW
  obtain ⟨p, q, hA0, hV0, rfl, hfz, hnd⟩ := hW
  have hA : DataW.TrodAll enc Tryz.prog W 0 (fun _ => true) true Tryz.f4.params.toList args.toList ds p := hA0
  rw [Tryz.params4] at hA hval hsz
  obtain ⟨v0, vs0, d0, ds0, p0, q0, hargs, rfl, rfl, h0, r0⟩ := trodAll_cons hA
  obtain ⟨v1, vs1, d1, ds1, p1, q1, rfl, rfl, rfl, h1, r1⟩ := trodAll_cons r0
  obtain ⟨rfl, rfl, rfl⟩ := trodAll_nil r1
  obtain rfl : args = #[v0, v1] := by cases args; simp_all
  obtain ⟨A0, n0, c0, rfl⟩ := okWide_slice Tryz.underlying31 (hval 0 31 v0 rfl rfl)
  obtain ⟨b, rfl, rfl, rfl, hwb⟩ := open_int Tryz.underlying3 (hval 1 3 v1 rfl rfl) h1
  obtain ⟨rfl, rfl⟩ := trodVars_none hV0
  have hsz0 : (DataW.weightsEach Tryz.prog [31, 3] ([d0, .lit (.int .i64 b)] : List (DataW H))).all (· ≤ reachBytes) = true := hsz
  have hwt : ∀ m ∈ d0.weights Tryz.prog 31, m ≤ reachBytes := fun m hm => by
    have hmem : m ∈ DataW.weightsEach Tryz.prog [31, 3] ([d0, .lit (.int .i64 b)] : List (DataW H)) := DataW.weights_mem_each (show [31, 3][0]? = some 31 from rfl) (show ([d0, .lit (.int .i64 b)] : List (DataW H))[0]? = some d0 from rfl) m hm
    have := List.all_eq_true.1 hsz0 m hmem
    simpa using this
  obtain ⟨l, hl, hm, hts⟩ := open_tokl h0 rfl hwt
  refine (stops_c l b _ W hl hm hts (ge_row hsh hmet)).mono fun e W' ⟨he, hb⟩ => ?_
  subst he
  exact ⟨_, rfl, post_true hW' rfl rfl 8 (by kernel_rfl) 4 (by kernel_rfl) Tryz.underlying4 hb⟩
theorem over : Rows.ExprStopsSaid :=
  OpenClaim.holds_of_wide 4 Tryz.f4 rfl rfl rfl rfl rfl rfl rfl ⟨rfl, rfl, rfl, rfl, rfl⟩ rfl rfl rfl rfl rfl (by kernel_rfl) Tryz.func4 (by kernel_rfl)
    (of_decide_eq_true (by kernel_rfl)) (by unfold Func.isWrapper; rw [if_neg (of_decide_eq_false (by kernel_rfl))]; exact ⟨rfl, rfl⟩)
    (fun os started H enc _ => lifted os started H enc)
/-- ████ THE STATEMENT ████ -/
theorem proved : Rows.ExprStopsCardSaid :=
  Claim7.holds_tied_plain_at .later [] [.data, .data, .data, .data, .listed, .data, .data, .widerDeep, .pinned] true (true, "130ef55bbd5bdc66cbe75456cd2e5cb8ce119f135b26a7621cd11c592241e447") true
    over (fun _ h => by cases h) (by kernel_rfl) (fun _ h => by cases h) exprStops_row_tie rfl ⟨rfl, rfl⟩ (by kernel_rfl) rfl
    (fun f fn hf hfn => by
      obtain rfl : f = 4 := Option.some.inj ((show Tryz.prog.funcNamed "capstan/capstanlaw06.ExprStops" = some 4 by kernel_rfl).symm.trans hf) |>.symm
      obtain rfl : fn = Tryz.f4 := (Option.some.inj (Tryz.func4.symm.trans hfn)).symm
      exact ⟨by kernel_rfl, fun j t ht => by
        rw [Tryz.params4] at ht
        have h3 : t = 31 ∨ t = 3 := by
          rcases j with _ | _ | j
          · exact .inl (by simpa using ht.symm)
          · exact .inr (by simpa using ht.symm)
          · simp at ht
        rcases h3 with rfl | rfl
        · exact (show Tryz.prog.wantsStandIn 31 = false by kernel_rfl)
        · exact (show Tryz.prog.wantsStandIn 3 = false by kernel_rfl)⟩)
    (by kernel_rfl)
#print axioms proved
end Go.Proofs.YtbnelgniekcjdaaGreatDoor.exprStops
