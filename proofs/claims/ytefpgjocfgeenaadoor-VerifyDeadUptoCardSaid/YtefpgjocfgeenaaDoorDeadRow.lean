/- VerifyDead answers true for every image and every list of instructions of bulk at most 1048576 together, and leaves its arguments as they were. Conditions: the row lists two tables of unicode/utf8 as the program lays them (tied by the card); of internal/bytealg.MaxLen it speaks for every value. -/
import Derived.Test.YtefpgjocfgeenaaDoorRows
import Derived.Test.YtefpgjocfgeenaaDoorCards
import Derived.Test.YtefpgjocfgeenaaDoorTie
import Derived.Test.YtefpgjocfgeenaaDoorDead
import Derived.Test.YtefpgjocfgeenaaDoorOpen
import Derived.Shelf.Vars
import Derived.SevenTiedAt
import Derived.MakeChecks
import Derived.Deep.DeepHandedRow
namespace Go.Proofs.YtefpgjocfgeenaaDoor.verifyDead
open Go.ChangeShapes Go.WideShapes Go.ChangeAt Go.RowKit Go.Proofs.YtefpgjocfgeenaaDoor
set_option linter.unusedVariables false
theorem own : ownKnob Tryd.prog.godebug = none := by kernel_rfl
theorem g_of {W : World} (h : W.ShapedOpen Tryd.prog) : G W :=
  Go.Proofs.cell_of_shapedOpen_int (zero := #[.int .i64 0]) (t := 3) h (of_decide_eq_true (by kernel_rfl)) (by kernel_rfl) rfl (by kernel_rfl) (by kernel_rfl) Tryd.underlying3
theorem fits (os : Os) : (World.holding Tryd.prog os ⟨#[], #[], []⟩).layFits Tryd.prog Rows.verifyDeadUptoRow.laid [] = true := by kernel_rfl
theorem ifaces (os : Os) : (World.holding Tryd.prog os ⟨#[], #[], []⟩).layIfaces Tryd.prog Rows.verifyDeadUptoRow.laid (World.laidAll Tryd.prog os Rows.verifyDeadUptoRow.laid) = true := by kernel_rfl
/-- The arguments of the witness: nothing at all. -/
def none2 : Array Value := #[.agg #[.string ⟨#[]⟩, .slice none 0 0, .slice none 0 0, .slice none 0 0, .slice none 0 0, .slice none 0 0], .slice none 0 0]
/-- A world that meets the condition: the settled one, the listed variables laid. -/
noncomputable def laidWorld (os : Os) : World := World.laidAll Tryd.prog os Rows.verifyDeadUptoRow.laid
theorem laid_shaped (os : Os) : ((laidWorld os).forCall (fun _ _ => 0) ⟨#[], none2, []⟩).Shaped Tryd.prog :=
  World.shaped_of_ZipB (by kernel_rfl) (by kernel_rfl)
theorem laid_met (os : Os) (args : Array Value) : laidMetH Tryd.prog Rows.verifyDeadUptoRow.laid ((laidWorld os).forCall (fun _ _ => 0) ⟨#[], args, []⟩).memory := by
  rw [Go.MakeChecks.laidMetH_plain _ _ _ (by kernel_rfl)]
  exact laidMet_laidAll args (fits os) (ifaces os)
theorem reads (os : Os) {H : Type} (enc : TypeId × Value → H) : ∃ places, DataW.whole enc Tryd.prog ((laidWorld os).forCall (fun _ _ => 0) ⟨#[], none2, []⟩).memory Tryd.f4.params.toList Rows.verifyDeadSpec.vars false none2.toList 8 = some ([.agg [.lit (.string []), .nil, .nil, .nil, .nil, .nil], .nil], [], places) :=
  ⟨[], by kernel_rfl⟩
theorem one_le {H : Type} (d : DataW H) : 1 ≤ Rows.uptoBulk d := by
  cases d with
  | lit l => cases l <;> simp [Rows.uptoBulk]
  | _ => simp [Rows.uptoBulk]
theorem length_le {H : Type} (l : List (DataW H)) : l.length ≤ Rows.uptoBulkAll l := by
  induction l with
  | nil => simp [Rows.uptoBulkAll]
  | cons x r ih => have := one_le x; simp only [Rows.uptoBulkAll, List.length_cons]; omega
theorem lenD_le {H : Type} (d : DataW H) : lenD d ≤ Rows.uptoBulk d := by
  cases d with
  | slice elems spare =>
    have := length_le elems
    simp only [lenD, Rows.uptoBulk]
    omega
  | _ => simp [lenD]
set_option maxRecDepth 100000 in
theorem contract (H : Type) (enc : TypeId × Value → H) (W : World) (base : Nat) (args : Array Value) (ds gs : List (DataW H)) (before : List MemPlace)
    (hval : ∀ (j : Nat) t v, Tryd.f4.params[j]? = some t → args[j]? = some v → Value.okWide Tryd.prog W .any base t v)
    (hW : DataW.Whole enc Tryd.prog Tryd.f4.params.toList Rows.verifyDeadSpec.vars false W args.toList ds gs before) (hk : Rows.uptoSmall H (ds ++ gs) = true) (hsh : W.ShapedOpen Tryd.prog) :
    Calls Tryd.prog 4 args W fun e W' => ∃ v, e = .returned v ∧ Rows.verifyDeadSpec.post enc Tryd.prog Tryd.f4 false true false false W args v W' := by
  have hW' := hW
  obtain ⟨p, q, hA0, hV, rfl, hfz, hnd⟩ := hW
  have hA : DataW.TrodAll enc Tryd.prog W 0 (fun _ => true) true Tryd.f4.params.toList args.toList ds p := hA0
  rw [Tryd.params4] at hA hval
  obtain ⟨v0, vs0, d0, ds0, p0, q0, hargs, rfl, rfl, h0, r0⟩ := trodAll_cons hA
  obtain ⟨v1, vs1, d1, ds1, p1, q1, rfl, rfl, rfl, h1, r1⟩ := trodAll_cons r0
  obtain ⟨rfl, rfl, rfl⟩ := trodAll_nil r1
  obtain rfl : args = #[v0, v1] := by cases args; simp_all
  obtain ⟨rfl, rfl⟩ := trodVars_none hV
  obtain ⟨x, e0, e1, e2, e3, e4, e5, hx, hok, hname, rfl, rfl, n3, n4⟩ := open_img h0
  obtain ⟨sa, sl, sc, hsv⟩ := okWide_slice Tryd.underlying24 (hval 1 24 v1 rfl rfl)
  obtain ⟨l, hl, hli⟩ := open_insl h1 (by rw [hsv]; rfl)
  have hb : x.ins.length + x.outs.length ≤ 1048576 := by
    have h : Rows.uptoBulkAll [DataW.agg (H := H) [.lit (.string x.name.data.toList), e1, e2, e3, e4, e5], d1] ≤ 1048576 := by simpa [Rows.uptoSmall] using hk
    simp only [Rows.uptoBulkAll, Rows.uptoBulk] at h
    have a3 := lenD_le e3
    have a4 := lenD_le e4
    omega
  have hn : x.name.size ≤ 1048576 := by
    have h : Rows.uptoBulkAll [DataW.agg (H := H) [.lit (.string x.name.data.toList), e1, e2, e3, e4, e5], d1] ≤ 1048576 := by simpa [Rows.uptoSmall] using hk
    simp only [Rows.uptoBulkAll, Rows.uptoBulk] at h
    have e : x.name.data.toList.length = x.name.size := by rw [Array.length_toList]; rfl
    omega
  refine (dead_c x v0 l v1 W ⟨hx, by omega, by omega, hok⟩ hl hli (g_of hsh)).mono fun e W' ⟨he, hbw⟩ => ?_
  subst he
  exact ⟨_, rfl, post_true hW' rfl rfl 4 (by kernel_rfl) 4 (by kernel_rfl) Tryd.underlying4 hbw⟩
set_option maxRecDepth 100000 in
theorem lifted (os : Os) (started : os.Started) (H : Type) (enc : TypeId × Value → H) (F : Stop.Interp) :
    ReturnsInHanded {} Tryd.checked os 4 .any ((Rows.OpenSpec.upto Rows.verifyDeadSpec).preRow enc Tryd.prog Tryd.f4 Rows.verifyDeadUptoRow.domain false Rows.verifyDeadUptoRow.laid) (((Rows.OpenSpec.upto Rows.verifyDeadSpec).at F).post enc Tryd.prog Tryd.f4 false true false false) := by
  obtain ⟨places, hx⟩ := reads os enc
  refine returnsInHanded_of_row (C := Tryd.checked) (s := Rows.OpenSpec.upto Rows.verifyDeadSpec) own started (by kernel_rfl) Tryd.func4
    ⟨laidWorld os, fun _ _ => 0, ⟨#[], none2, []⟩, World.laidAll_os _ _ _, laid_shaped os, rfl, (Input.okWide_of_okWideB (base := (laidWorld os).heap.size) (by kernel_rfl)).2,
      OpenSpec.preRow_of_cond 8 hx (by kernel_rfl) (fun k hk => by cases hk; kernel_rfl) (by kernel_rfl) (laid_met os _), by
      simp only [Assume.holds]
      exact ⟨by simp, by simp, fun _ => Modest.zero, by simp, by simp⟩⟩ ?_
  intro W base args ds gs before hval hW _ hcond _ _ hsh _
  exact contract H enc W base args ds gs before hval hW (hcond _ rfl) hsh
theorem over : Rows.VerifyDeadUptoSaid :=
  OpenClaim.holds_of_cond 4 Tryd.f4 rfl rfl rfl rfl rfl rfl rfl ⟨rfl, rfl, rfl, rfl, rfl⟩ rfl rfl rfl rfl rfl (by kernel_rfl) Tryd.func4 (by kernel_rfl)
    (of_decide_eq_true (by kernel_rfl)) (by unfold Func.isWrapper; rw [if_neg (of_decide_eq_false (by kernel_rfl))]; exact ⟨rfl, rfl⟩)
    (fun os started H enc _ F => by rw [OpenClaim.pre_eq_preRow]; exact lifted os started H enc F)
/-- ████ THE STATEMENT ████ -/
theorem proved : Rows.VerifyDeadUptoCardSaid :=
  Claim7.holds_tied_plain_at .later [] [.data, .pinned] true (true, "03971629d32b4c465ecafa82889687ec6f9ffc6253b4bc84195c7edf16dde41d") false
    over (fun _ h => by cases h) (by kernel_rfl) (fun _ h => by cases h) verifyDeadUpto_row_tie rfl ⟨rfl, rfl⟩ (by kernel_rfl) rfl
    (fun f fn hf hfn => by
      obtain rfl : f = 4 := Option.some.inj ((show Tryd.prog.funcNamed "capstan/capstanlaw15.VerifyDead" = some 4 by kernel_rfl).symm.trans hf) |>.symm
      obtain rfl : fn = Tryd.f4 := (Option.some.inj (Tryd.func4.symm.trans hfn)).symm
      exact ⟨by kernel_rfl, fun j t ht => by
        rw [Tryd.params4] at ht
        have h3 : t = 33 ∨ t = 24 := by
          rcases j with _ | _ | j
          · left; simpa using ht.symm
          · right; simpa using ht.symm
          · simp at ht
        rcases h3 with rfl | rfl
        · exact (show Tryd.prog.wantsStandIn 33 = false by kernel_rfl)
        · exact (show Tryd.prog.wantsStandIn 24 = false by kernel_rfl)⟩)
    (by kernel_rfl)
#print axioms proved
end Go.Proofs.YtefpgjocfgeenaaDoor.verifyDead
