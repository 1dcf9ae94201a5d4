/- ExprNames answers true for every two slices of parts of bulk at most 1048576 together and every int and leaves its arguments as they were. Conditions: the row lists the tables that package expr and the library lay, as the program lays them (tied by the card); of internal/bytealg.MaxLen it speaks for every value. -/
import Derived.Test.YtbnelgniekcjdaaGreatDoorRows
import Derived.Test.YtbnelgniekcjdaaGreatDoorCards
import Derived.Test.YtbnelgniekcjdaaGreatDoorTie
import Derived.Test.YtbnelgniekcjdaaGreatDoorCE06NW
import Derived.Test.YtbnelgniekcjdaaGreatDoorCOpenF
import Derived.Test.YtbnelgniekcjdaaGreatDoorCE06G
import Derived.Test.YtbnelgniekcjdaaGreatDoorCRow
import Derived.ProofKit
import Derived.OpenShut
import Derived.Shelf.Vars
import Derived.SevenTiedAt
import Derived.MakeChecks
import Derived.Deep.DeepHandedRow
set_option linter.unusedSimpArgs false
set_option linter.unusedVariables false
namespace Go.Proofs.YtbnelgniekcjdaaGreatDoor.exprNames
open Go.ChangeShapes Go.WideShapes Go.ChangeAt Go.RowKit Go.Proofs.YtbnelgniekcjdaaGreatDoor
set_option linter.unusedVariables false
theorem own : ownKnob Tryz.prog.godebug = none := by kernel_rfl
theorem fits (os : Os) : (World.holding Tryz.prog os ⟨#[], #[], []⟩).layFits Tryz.prog Rows.exprNamesUptoRow.laid [] = true := by kernel_rfl
theorem ifaces (os : Os) : (World.holding Tryz.prog os ⟨#[], #[], []⟩).layIfaces Tryz.prog Rows.exprNamesUptoRow.laid (World.laidAll Tryz.prog os Rows.exprNamesUptoRow.laid) = true := by kernel_rfl
/-- The arguments of the witness: nothing at all. -/
def none3 : Array Value := #[.slice none 0 0, .slice none 0 0, .int .i64 0]
/-- A world that meets the condition: the settled one, the listed variables laid. -/
noncomputable def laidWorld (os : Os) : World := World.laidAll Tryz.prog os Rows.exprNamesUptoRow.laid
theorem laid_shaped (os : Os) : ((laidWorld os).forCall (fun _ _ => 0) ⟨#[], none3, []⟩).Shaped Tryz.prog :=
  World.shaped_of_ZipB (by kernel_rfl) (by kernel_rfl)
theorem laid_met (os : Os) (args : Array Value) : laidMetH Tryz.prog Rows.exprNamesUptoRow.laid ((laidWorld os).forCall (fun _ _ => 0) ⟨#[], args, []⟩).memory := by
  rw [Go.MakeChecks.laidMetH_plain _ _ _ (by kernel_rfl)]
  exact laidMet_laidAll args (fits os) (ifaces os)
theorem ge_row {W : World} (hs : W.ShapedOpen Tryz.prog) (hm : laidMetH Tryz.prog Rows.exprNamesUptoRow.laid W) : GE W := by
  rw [Go.MakeChecks.laidMetH_plain _ _ _ (by kernel_rfl)] at hm
  unfold Rows.exprNamesUptoRow at hm
  exact ge_of hs (Go.Lib.laidMet.reads hm (by simp)) (Go.Lib.laidMet.reads hm (by simp)) (Go.Lib.laidMet.reads hm (by simp))
theorem reads (os : Os) {H : Type} (enc : TypeId × Value → H) : ∃ places, DataW.whole enc Tryz.prog ((laidWorld os).forCall (fun _ _ => 0) ⟨#[], none3, []⟩).memory Tryz.f6.params.toList Rows.exprNamesSpec.vars false none3.toList 8 = some ([.nil, .nil, .lit (.int .i64 0)], [], places) :=
  ⟨[], by kernel_rfl⟩
theorem one_le {H : Type} (d : DataW H) : 1 ≤ Rows.uptoBulk d := by
  cases d with
  | lit l => cases l <;> simp [Rows.uptoBulk]
  | _ => simp [Rows.uptoBulk]
theorem length_le {H : Type} (l : List (DataW H)) : l.length ≤ Rows.uptoBulkAll l := by
  induction l with
  | nil => simp [Rows.uptoBulkAll]
  | cons x r ih => have := one_le x; simp only [Rows.uptoBulkAll, List.length_cons]; omega
theorem lenS_le {H : Type} (d : DataW H) : lenS d ≤ Rows.uptoBulk d := by
  cases d with
  | slice elems spare =>
    have := length_le elems
    simp only [lenS, Rows.uptoBulk]
    omega
  | _ => simp [lenS]
set_option maxRecDepth 100000 in
theorem contract (H : Type) (enc : TypeId × Value → H) (W : World) (base : Nat) (args : Array Value) (ds gs : List (DataW H)) (before : List MemPlace)
    (hval : ∀ (j : Nat) t v, Tryz.f6.params[j]? = some t → args[j]? = some v → Value.okWide Tryz.prog W .any base t v)
    (hW : DataW.Whole enc Tryz.prog Tryz.f6.params.toList Rows.exprNamesSpec.vars false W args.toList ds gs before) (hk : Rows.uptoSmall H (ds ++ gs) = true)
    (hsz : (DataW.weightsEach Tryz.prog Tryz.f6.params.toList ds).all (· ≤ reachBytes) = true) (hmet : laidMetH Tryz.prog Rows.exprNamesUptoRow.laid W) (hsh : W.ShapedOpen Tryz.prog) :
    Calls Tryz.prog 6 args W fun e W' => ∃ v, e = .returned v ∧ Rows.exprNamesSpec.post enc Tryz.prog Tryz.f6 false true false false W args v W' := by
  have hW' := hW
  obtain ⟨p, q, hA0, hV, rfl, hfz, hnd⟩ := hW
  have hA : DataW.TrodAll enc Tryz.prog W 0 (fun _ => true) true Tryz.f6.params.toList args.toList ds p := hA0
  rw [Tryz.params6] at hA hval hsz
  obtain ⟨v0, vs0, d0, ds0, p0, q0, hargs, rfl, rfl, h0, r0⟩ := trodAll_cons hA
  obtain ⟨v1, vs1, d1, ds1, p1, q1, rfl, rfl, rfl, h1, r1⟩ := trodAll_cons r0
  obtain ⟨v2, vs2, d2, ds2, p2, q2, rfl, rfl, rfl, h2, r2⟩ := trodAll_cons r1
  obtain ⟨rfl, rfl, rfl⟩ := trodAll_nil r2
  obtain rfl : args = #[v0, v1, v2] := by cases args; simp_all
  obtain ⟨rfl, rfl⟩ := trodVars_none hV
  obtain ⟨A0, n0, c0, rfl⟩ := okWide_slice Tryz.underlying26 (hval 0 26 v0 rfl rfl)
  obtain ⟨A1, n1, c1, rfl⟩ := okWide_slice Tryz.underlying26 (hval 1 26 v1 rfl rfl)
  obtain ⟨n, rfl, rfl, rfl, hwn⟩ := open_int Tryz.underlying3 (hval 2 3 v2 rfl rfl) h2
  have hsz0 : (DataW.weightsEach Tryz.prog [26, 26, 3] ([d0, d1, .lit (.int .i64 n)] : List (DataW H))).all (· ≤ reachBytes) = true := hsz
  have hwt : ∀ (j : Nat) (t : TypeId) (d : DataW H), [26, 26, 3][j]? = some t → ([d0, d1, .lit (.int .i64 n)] : List (DataW H))[j]? = some d → ∀ m ∈ d.weights Tryz.prog t, m ≤ reachBytes := fun j t d ht hd m hm => by
    have hmem : m ∈ DataW.weightsEach Tryz.prog [26, 26, 3] ([d0, d1, .lit (.int .i64 n)] : List (DataW H)) := DataW.weights_mem_each ht hd m hm
    have := List.all_eq_true.1 hsz0 m hmem
    simpa using this
  obtain ⟨x, hx, hox, hlx⟩ := open_prtl2 h0 rfl (hwt 0 _ _ rfl rfl)
  obtain ⟨y, hy, hoy, hly⟩ := open_prtl2 h1 rfl (hwt 1 _ _ rfl rfl)
  have hb : Rows.uptoBulk d0 + Rows.uptoBulk d1 ≤ 1048576 := by
    have h : Rows.uptoBulkAll [d0, d1, DataW.lit (H := H) (.int .i64 n)] ≤ 1048576 := by simpa [Rows.uptoSmall] using hk
    simp only [Rows.uptoBulkAll] at h
    omega
  have b0 := lenS_le d0
  have b1 := lenS_le d1
  refine (exprNames_c x y n _ _ W hx hy hox hoy (by omega) (by omega) (ge_row hsh hmet)).mono fun e W' ⟨he, hbw⟩ => ?_
  subst he
  exact ⟨_, rfl, post_true hW' rfl rfl 8 (by kernel_rfl) 4 (by kernel_rfl) Tryz.underlying4 hbw⟩
set_option maxRecDepth 100000 in
theorem lifted (os : Os) (started : os.Started) (H : Type) (enc : TypeId × Value → H) (F : Stop.Interp) :
    ReturnsInHanded {} Tryz.checked os 6 .any ((Rows.OpenSpec.upto Rows.exprNamesSpec).preRow enc Tryz.prog Tryz.f6 Rows.exprNamesUptoRow.domain false Rows.exprNamesUptoRow.laid) (((Rows.OpenSpec.upto Rows.exprNamesSpec).at F).post enc Tryz.prog Tryz.f6 false true false false) := by
  obtain ⟨places, hx⟩ := reads os enc
  refine returnsInHanded_of_row (C := Tryz.checked) (s := Rows.OpenSpec.upto Rows.exprNamesSpec) own started (by kernel_rfl) Tryz.func6
    ⟨laidWorld os, fun _ _ => 0, ⟨#[], none3, []⟩, World.laidAll_os _ _ _, laid_shaped os, rfl, (Input.okWide_of_okWideB (base := (laidWorld os).heap.size) (by kernel_rfl)).2,
      OpenSpec.preRow_of_cond 8 hx (by kernel_rfl) (fun k hk => by cases hk; kernel_rfl) (by kernel_rfl) (laid_met os _), by
      simp only [Assume.holds]
      exact ⟨by simp, by simp, fun _ => Modest.zero, by simp, by simp⟩⟩ ?_
  intro W base args ds gs before hval hW _ hcond hsz hmet hsh _
  have hgs : gs = [] := by
    obtain ⟨p, q, _, hV, _⟩ := hW
    exact (trodVars_none hV).1
  subst hgs
  have hsz' : (DataW.weightsEach Tryz.prog (Tryz.f6.params.toList ++ []) (ds ++ [])).all (· ≤ reachBytes) = true := hsz
  rw [List.append_nil, List.append_nil] at hsz'
  exact contract H enc W base args ds [] before hval hW (hcond _ rfl) hsz' hmet hsh
theorem over : Rows.ExprNamesUptoSaid :=
  OpenClaim.holds_of_cond 6 Tryz.f6 rfl rfl rfl rfl rfl rfl rfl ⟨rfl, rfl, rfl, rfl, rfl⟩ rfl rfl rfl rfl rfl (by kernel_rfl) Tryz.func6 (by kernel_rfl)
    (of_decide_eq_true (by kernel_rfl)) (by unfold Func.isWrapper; rw [if_neg (of_decide_eq_false (by kernel_rfl))]; exact ⟨rfl, rfl⟩)
    (fun os started H enc _ F => by rw [OpenClaim.pre_eq_preRow]; exact lifted os started H enc F)
/-- ████ THE STATEMENT ████ -/
theorem proved : Rows.ExprNamesUptoCardSaid :=
  Claim7.holds_tied_plain_at .later [] [.data, .data, .data, .data, .listed, .data, .data, .widerDeep, .pinned] true (true, "130ef55bbd5bdc66cbe75456cd2e5cb8ce119f135b26a7621cd11c592241e447") true
    over (fun _ h => by cases h) (by kernel_rfl) (fun _ h => by cases h) exprNamesUpto_row_tie rfl ⟨rfl, rfl⟩ (by kernel_rfl) rfl
    (fun f fn hf hfn => by
      obtain rfl : f = 6 := Option.some.inj ((show Tryz.prog.funcNamed "capstan/capstanlaw06.ExprNames" = some 6 by kernel_rfl).symm.trans hf) |>.symm
      obtain rfl : fn = Tryz.f6 := (Option.some.inj (Tryz.func6.symm.trans hfn)).symm
      exact ⟨by kernel_rfl, fun j t ht => by
        rw [Tryz.params6] at ht
        have h3 : t = 26 ∨ t = 3 := by
          rcases j with _ | _ | _ | j
          · exact .inl (by simpa using ht.symm)
          · exact .inl (by simpa using ht.symm)
          · exact .inr (by simpa using ht.symm)
          · simp at ht
        rcases h3 with rfl | rfl
        · exact (show Tryz.prog.wantsStandIn 26 = false by kernel_rfl)
        · exact (show Tryz.prog.wantsStandIn 3 = false by kernel_rfl)⟩)
    (by kernel_rfl)
#print axioms proved
end Go.Proofs.YtbnelgniekcjdaaGreatDoor.exprNames
