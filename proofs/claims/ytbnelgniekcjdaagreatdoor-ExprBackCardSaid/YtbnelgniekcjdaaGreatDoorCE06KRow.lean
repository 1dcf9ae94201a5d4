/- ExprBack answers true for every slice of parts and every slice of tokens and leaves its arguments as they were. Conditions: the row lists the tables that package expr and the library lay, as the program lays them (tied by the card); of internal/bytealg.MaxLen it speaks for every value. -/
import Derived.Test.YtbnelgniekcjdaaGreatDoorRows
import Derived.Test.YtbnelgniekcjdaaGreatDoorCards
import Derived.Test.YtbnelgniekcjdaaGreatDoorTie
import Derived.Test.YtbnelgniekcjdaaGreatDoorCE06K
import Derived.Test.YtbnelgniekcjdaaGreatDoorCOpenF
import Derived.Test.YtbnelgniekcjdaaGreatDoorCE06G
import Derived.Test.YtbnelgniekcjdaaGreatDoorCRow
import Derived.ProofKit
import Derived.OpenShut
import Derived.Shelf.Vars
import Derived.SevenTiedAt
import Derived.MakeChecks
set_option linter.unusedSimpArgs false
set_option linter.unusedVariables false
namespace Go.Proofs.YtbnelgniekcjdaaGreatDoor.exprBack
open Go.ChangeShapes Go.WideShapes Go.ChangeAt Go.RowKit Go.Proofs.YtbnelgniekcjdaaGreatDoor
set_option linter.unusedVariables false
theorem own : ownKnob Tryz.prog.godebug = none := by kernel_rfl
theorem fits (os : Os) : (World.holding Tryz.prog os ⟨#[], #[], []⟩).layFits Tryz.prog Rows.exprBackRow.laid [] = true := by kernel_rfl
theorem ifaces (os : Os) : (World.holding Tryz.prog os ⟨#[], #[], []⟩).layIfaces Tryz.prog Rows.exprBackRow.laid (World.laidAll Tryz.prog os Rows.exprBackRow.laid) = true := by kernel_rfl
def none2 : Array Value := #[.slice none 0 0, .slice none 0 0]
/-- A world that meets the condition: the settled one, the listed variables laid. -/
noncomputable def laidWorld (os : Os) : World := World.laidAll Tryz.prog os Rows.exprBackRow.laid
theorem laid_shaped (os : Os) : ((laidWorld os).forCall (fun _ _ => 0) ⟨#[], none2, []⟩).Shaped Tryz.prog :=
  World.shaped_of_ZipB (by kernel_rfl) (by kernel_rfl)
theorem laid_met (os : Os) (args : Array Value) : laidMetH Tryz.prog Rows.exprBackRow.laid ((laidWorld os).forCall (fun _ _ => 0) ⟨#[], args, []⟩).memory := by
  rw [Go.MakeChecks.laidMetH_plain _ _ _ (by kernel_rfl)]
  exact laidMet_laidAll args (fits os) (ifaces os)
theorem ge_row {W : World} (hs : W.ShapedOpen Tryz.prog) (hm : laidMetH Tryz.prog Rows.exprBackRow.laid W) : GE W := by
  rw [Go.MakeChecks.laidMetH_plain _ _ _ (by kernel_rfl)] at hm
  unfold Rows.exprBackRow at hm
  exact ge_of hs (Go.Lib.laidMet.reads hm (by simp)) (Go.Lib.laidMet.reads hm (by simp)) (Go.Lib.laidMet.reads hm (by simp))
set_option maxRecDepth 100000 in
theorem lifted (os : Os) (started : os.Started) (H : Type) (enc : TypeId × Value → H) :
    ReturnsInHanded {} Tryz.checked os 5 .any (fun w args => (Rows.exprBackSpec.pre enc Tryz.prog Tryz.f5 Rows.exprBackRow.domain false w args ∧ laidMetH Tryz.prog Rows.exprBackRow.laid w) ∧ sizedMet enc Tryz.prog Tryz.f5 (OpenSpec.ofChange Rows.exprBackSpec) false w args)
      (Rows.exprBackSpec.post enc Tryz.prog Tryz.f5 false true false false) := by
  refine handed_and_shaped (C := Tryz.checked) (X := fun w _ => laidMetH Tryz.prog Rows.exprBackRow.laid w) (fun _ _ _ hh h => h.of_heap hh) own started (by kernel_rfl) Tryz.func5
    (ChangeSpec.witness_shaped (enc := enc) (C := Tryz.checked) (os := os) (X := fun w _ => laidMetH Tryz.prog Rows.exprBackRow.laid w) false (laidWorld os) none2 8 (World.laidAll_os _ _ _) (laid_shaped os) (by kernel_rfl) (by kernel_rfl) (by kernel_rfl) (laid_met os _)) ?_
  intro W base args ds gs before hval0 hW _ hsz hmet hsh
  have hval : ∀ (j : Nat) t v, Tryz.f5.params[j]? = some t → args[j]? = some v → Value.okWide Tryz.prog W .any base t v := hval0
  have hW' := hW
  obtain ⟨p, q, hA0, hV0, rfl, hfz, hnd⟩ := hW
  have hA : DataW.TrodAll enc Tryz.prog W 0 (fun _ => true) true Tryz.f5.params.toList args.toList ds p := hA0
  rw [Tryz.params5] at hA hval hsz
  obtain ⟨v0, vs0, d0, ds0, p0, q0, hargs, rfl, rfl, h0, r0⟩ := trodAll_cons hA
  obtain ⟨v1, vs1, d1, ds1, p1, q1, rfl, rfl, rfl, h1, r1⟩ := trodAll_cons r0
  obtain ⟨rfl, rfl, rfl⟩ := trodAll_nil r1
  obtain rfl : args = #[v0, v1] := by cases args; simp_all
  obtain ⟨A0, n0, c0, rfl⟩ := okWide_slice Tryz.underlying26 (hval 0 26 v0 rfl rfl)
  obtain ⟨A1, n1, c1, rfl⟩ := okWide_slice Tryz.underlying31 (hval 1 31 v1 rfl rfl)
  obtain ⟨rfl, rfl⟩ := trodVars_none hV0
  have hsz0 : (DataW.weightsEach Tryz.prog [26, 31] ([d0, d1] : List (DataW H))).all (· ≤ reachBytes) = true := hsz
  have hwt : ∀ (j : Nat) (t : TypeId) (d : DataW H), [26, 31][j]? = some t → ([d0, d1] : List (DataW H))[j]? = some d → ∀ m ∈ d.weights Tryz.prog t, m ≤ reachBytes := fun j t d ht hd m hm => by
    have hmem : m ∈ DataW.weightsEach Tryz.prog [26, 31] ([d0, d1] : List (DataW H)) := DataW.weights_mem_each ht hd m hm
    have := List.all_eq_true.1 hsz0 m hmem
    simpa using this
  obtain ⟨x, hx, hox⟩ := open_prtl h0 rfl (hwt 0 _ _ rfl rfl)
  obtain ⟨l, hl, hm, hts⟩ := open_tokl h1 rfl (hwt 1 _ _ rfl rfl)
  refine (back_c x l _ _ W hx hox hl hm hts (ge_row hsh hmet)).mono fun e W' ⟨he, hb⟩ => ?_
  subst he
  exact ⟨_, rfl, post_true hW' rfl rfl 8 (by kernel_rfl) 4 (by kernel_rfl) Tryz.underlying4 hb⟩
theorem over : Rows.ExprBackSaid :=
  OpenClaim.holds_of_wide 5 Tryz.f5 rfl rfl rfl rfl rfl rfl rfl ⟨rfl, rfl, rfl, rfl, rfl⟩ rfl rfl rfl rfl rfl (by kernel_rfl) Tryz.func5 (by kernel_rfl)
    (of_decide_eq_true (by kernel_rfl)) (by unfold Func.isWrapper; rw [if_neg (of_decide_eq_false (by kernel_rfl))]; exact ⟨rfl, rfl⟩)
    (fun os started H enc _ => lifted os started H enc)
/-- ████ THE STATEMENT ████ -/
theorem proved : Rows.ExprBackCardSaid :=
  Claim7.holds_tied_plain_at .later [] [.data, .data, .data, .data, .listed, .data, .data, .widerDeep, .pinned] true (true, "130ef55bbd5bdc66cbe75456cd2e5cb8ce119f135b26a7621cd11c592241e447") true
    over (fun _ h => by cases h) (by kernel_rfl) (fun _ h => by cases h) exprBack_row_tie rfl ⟨rfl, rfl⟩ (by kernel_rfl) rfl
    (fun f fn hf hfn => by
      obtain rfl : f = 5 := Option.some.inj ((show Tryz.prog.funcNamed "capstan/capstanlaw06.ExprBack" = some 5 by kernel_rfl).symm.trans hf) |>.symm
      obtain rfl : fn = Tryz.f5 := (Option.some.inj (Tryz.func5.symm.trans hfn)).symm
      exact ⟨by kernel_rfl, fun j t ht => by
        rw [Tryz.params5] at ht
        have h3 : t = 26 ∨ t = 31 := by
          rcases j with _ | _ | j
          · exact .inl (by simpa using ht.symm)
          · exact .inr (by simpa using ht.symm)
          · simp at ht
        rcases h3 with rfl | rfl
        · exact (show Tryz.prog.wantsStandIn 26 = false by kernel_rfl)
        · exact (show Tryz.prog.wantsStandIn 31 = false by kernel_rfl)⟩)
    (by kernel_rfl)
#print axioms proved
end Go.Proofs.YtbnelgniekcjdaaGreatDoor.exprBack
