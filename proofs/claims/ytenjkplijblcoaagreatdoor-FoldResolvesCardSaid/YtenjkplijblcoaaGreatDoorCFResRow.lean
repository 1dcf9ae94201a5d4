/- FoldResolves answers true for every slice of variables, every slice of parts and every int, and leaves its arguments as they were. Conditions: the row lists two tables of unicode/utf8 as the program lays them (tied by the card); of internal/bytealg.MaxLen it speaks for every value. -/
import Derived.Test.YtenjkplijblcoaaGreatDoorRows
import Derived.Test.YtenjkplijblcoaaGreatDoorCards
import Derived.Test.YtenjkplijblcoaaGreatDoorTie
import Derived.Test.YtenjkplijblcoaaGreatDoorCResw
import Derived.Test.YtenjkplijblcoaaGreatDoorCOpenW
import Derived.Shelf.Vars
import Derived.SevenTiedAt
import Derived.MakeChecks
set_option linter.unusedSimpArgs false
set_option linter.unusedVariables false
namespace Go.Proofs.YtenjkplijblcoaaGreatDoor.foldResolves
open Go.ChangeShapes Go.WideShapes Go.ChangeAt Go.RowKit Go.Proofs.YtenjkplijblcoaaGreatDoor
set_option linter.unusedVariables false
theorem own : ownKnob Tryz.prog.godebug = none := by kernel_rfl
theorem g_of {W : World} (h : W.ShapedOpen Tryz.prog) : G W :=
  Go.Proofs.cell_of_shapedOpen_int (zero := #[.int .i64 0]) (t := 3) h (of_decide_eq_true (by kernel_rfl)) (by kernel_rfl) rfl (by kernel_rfl) (by kernel_rfl) Tryz.underlying3
theorem fits (os : Os) : (World.holding Tryz.prog os ⟨#[], #[], []⟩).layFits Tryz.prog Rows.foldResolvesRow.laid [] = true := by kernel_rfl
theorem ifaces (os : Os) : (World.holding Tryz.prog os ⟨#[], #[], []⟩).layIfaces Tryz.prog Rows.foldResolvesRow.laid (World.laidAll Tryz.prog os Rows.foldResolvesRow.laid) = true := by kernel_rfl
/-- The arguments of the witness: nothing at all. -/
def none3 : Array Value := #[.slice none 0 0, .slice none 0 0, .int .i64 0]
/-- A world that meets the condition: the settled one, the listed variables laid. -/
noncomputable def laidWorld (os : Os) : World := World.laidAll Tryz.prog os Rows.foldResolvesRow.laid
theorem laid_shaped (os : Os) : ((laidWorld os).forCall (fun _ _ => 0) ⟨#[], none3, []⟩).Shaped Tryz.prog :=
  World.shaped_of_ZipB (by kernel_rfl) (by kernel_rfl)
theorem laid_met (os : Os) (args : Array Value) : laidMetH Tryz.prog Rows.foldResolvesRow.laid ((laidWorld os).forCall (fun _ _ => 0) ⟨#[], args, []⟩).memory := by
  rw [Go.MakeChecks.laidMetH_plain _ _ _ (by kernel_rfl)]
  exact laidMet_laidAll args (fits os) (ifaces os)
set_option maxRecDepth 100000 in
theorem lifted (os : Os) (started : os.Started) (H : Type) (enc : TypeId × Value → H) :
    ReturnsInHanded {} Tryz.checked os 3 .any (fun w args => (Rows.foldResolvesSpec.pre enc Tryz.prog Tryz.f3 Rows.foldResolvesRow.domain false w args ∧ laidMetH Tryz.prog Rows.foldResolvesRow.laid w) ∧ sizedMet enc Tryz.prog Tryz.f3 (OpenSpec.ofChange Rows.foldResolvesSpec) false w args)
      (Rows.foldResolvesSpec.post enc Tryz.prog Tryz.f3 false true false false) := by
  refine handed_and_shaped (C := Tryz.checked) (X := fun w _ => laidMetH Tryz.prog Rows.foldResolvesRow.laid w) (fun _ _ _ hh h => h.of_heap hh) own started (by kernel_rfl) Tryz.func3
    (ChangeSpec.witness_shaped (enc := enc) (C := Tryz.checked) (os := os) (X := fun w _ => laidMetH Tryz.prog Rows.foldResolvesRow.laid w) false (laidWorld os) none3 8 (World.laidAll_os _ _ _) (laid_shaped os) (by kernel_rfl) (by kernel_rfl) (by kernel_rfl) (laid_met os _)) ?_
  intro W base args ds gs before hval0 hW _ hsz _ hsh
  have hval : ∀ (j : Nat) t v, Tryz.f3.params[j]? = some t → args[j]? = some v → Value.okWide Tryz.prog W .any base t v := hval0
  have hW' := hW
  obtain ⟨p, q, hA0, hV0, rfl, hfz, hnd⟩ := hW
  have hA : DataW.TrodAll enc Tryz.prog W 0 (fun _ => true) true Tryz.f3.params.toList args.toList ds p := hA0
  rw [Tryz.params3] at hA hval hsz
  obtain ⟨v0, vs0, d0, ds0, p0, q0, hargs, rfl, rfl, h0, r0⟩ := trodAll_cons hA
  obtain ⟨v1, vs1, d1, ds1, p1, q1, rfl, rfl, rfl, h1, r1⟩ := trodAll_cons r0
  obtain ⟨v2, vs2, d2, ds2, p2, q2, rfl, rfl, rfl, h2, r2⟩ := trodAll_cons r1
  obtain ⟨rfl, rfl, rfl⟩ := trodAll_nil r2
  obtain rfl : args = #[v0, v1, v2] := by cases args; simp_all
  obtain ⟨rfl, rfl⟩ := trodVars_none hV0
  obtain ⟨A0, n0, c0, rfl⟩ := okWide_slice Tryz.underlying22 (hval 0 22 v0 rfl rfl)
  obtain ⟨A1, n1, c1, rfl⟩ := okWide_slice Tryz.underlying23 (hval 1 23 v1 rfl rfl)
  obtain ⟨n, rfl, rfl, rfl, hwn⟩ := open_int Tryz.underlying3 (hval 2 3 v2 rfl rfl) h2
  have hsz0 : (DataW.weightsEach Tryz.prog [22, 23, 3] ([d0, d1, .lit (.int .i64 n)] : List (DataW H))).all (· ≤ reachBytes) = true := hsz
  have hwt : ∀ (j : Nat) (t : TypeId) (d : DataW H), [22, 23, 3][j]? = some t → ([d0, d1, .lit (.int .i64 n)] : List (DataW H))[j]? = some d → ∀ m ∈ d.weights Tryz.prog t, m ≤ reachBytes := fun j t d ht hd m hm => by
    have hmem : m ∈ DataW.weightsEach Tryz.prog [22, 23, 3] ([d0, d1, .lit (.int .i64 n)] : List (DataW H)) := DataW.weights_mem_each ht hd m hm
    have := List.all_eq_true.1 hsz0 m hmem
    simpa using this
  obtain ⟨vars, hs, hvo⟩ := open_vrl h0 rfl (hwt 0 _ _ rfl rfl)
  obtain ⟨x, hx, hox⟩ := open_prtl h1 rfl (hwt 1 _ _ rfl rfl)
  refine (foldResolves_c vars x n _ _ W hs hvo hx hox (open_vr_len h0 rfl (hwt 0 _ _ rfl rfl) hs) (open_prt_len h1 rfl (hwt 1 _ _ rfl rfl) hx) (g_of hsh)).mono fun e W' ⟨he, hb⟩ => ?_
  subst he
  exact ⟨_, rfl, post_true hW' rfl rfl 4 (by kernel_rfl) 4 (by kernel_rfl) Tryz.underlying4 hb⟩
theorem over : Rows.FoldResolvesSaid :=
  OpenClaim.holds_of_wide 3 Tryz.f3 rfl rfl rfl rfl rfl rfl rfl ⟨rfl, rfl, rfl, rfl, rfl⟩ rfl rfl rfl rfl rfl (by kernel_rfl) Tryz.func3 (by kernel_rfl)
    (of_decide_eq_true (by kernel_rfl)) (by unfold Func.isWrapper; rw [if_neg (of_decide_eq_false (by kernel_rfl))]; exact ⟨rfl, rfl⟩)
    (fun os started H enc _ => lifted os started H enc)
/-- ████ THE STATEMENT ████ -/
theorem proved : Rows.FoldResolvesCardSaid :=
  Claim7.holds_tied_plain_at .later [] [.data, .pinned] true (true, "03121249e2e15d3bc37250182a9649593313cd70d95f5d2f6885bd0a0ca1361d") false
    over (fun _ h => by cases h) (by kernel_rfl) (fun _ h => by cases h) foldResolves_row_tie rfl ⟨rfl, rfl⟩ (by kernel_rfl) rfl
    (fun f fn hf hfn => by
      obtain rfl : f = 3 := Option.some.inj ((show Tryz.prog.funcNamed "capstan/capstanlaw10.FoldResolves" = some 3 by kernel_rfl).symm.trans hf) |>.symm
      obtain rfl : fn = Tryz.f3 := (Option.some.inj (Tryz.func3.symm.trans hfn)).symm
      exact ⟨by kernel_rfl, fun j t ht => by
        rw [Tryz.params3] at ht
        have h3 : t = 22 ∨ t = 23 ∨ t = 3 := by
          rcases j with _ | _ | _ | j
          · exact .inl (by simpa using ht.symm)
          · exact .inr (.inl (by simpa using ht.symm))
          · exact .inr (.inr (by simpa using ht.symm))
          · simp at ht
        rcases h3 with rfl | rfl | rfl
        · exact (show Tryz.prog.wantsStandIn 22 = false by kernel_rfl)
        · exact (show Tryz.prog.wantsStandIn 23 = false by kernel_rfl)
        · exact (show Tryz.prog.wantsStandIn 3 = false by kernel_rfl)⟩)
    (by kernel_rfl)
#print axioms proved
end Go.Proofs.YtenjkplijblcoaaGreatDoor.foldResolves
