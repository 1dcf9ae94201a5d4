/- capstanref15.run: the walk. -/
import Derived.Test.YtefpgjocfgeenaaGreatDoorRef15e
import Derived.Test.YtefpgjocfgeenaaGreatDoorRef13f
namespace Go.Proofs.YtefpgjocfgeenaaGreatDoor
open Go.RowKit Cap
set_option maxRecDepth 100000

/-- What run leaves. -/
inductive RRunR (w : World) (n : Nat) : Except NE (List Bool × List (List Int) × Int) → Ending → World → Prop
  | err {at_ e : Int} {w' : World} (h : Below w.heap.size w w') : RRunR w n (.error (at_, e)) (.returned (.tuple #[.pointer none, .int .i64 at_, .int .i64 e])) w'
  | ok {rs ds : List Bool} {ss : List (List Int)} {deep : Int} {base bl bs bt : Nat} {v0 v1 v2 v3 v4 v5 : Value} {w' : World} (h : Below w.heap.size w w') (hl : RLook base bl bs bt n v0 v1 v2 v3 v4 v5 rs ds ss deep w') (hc : Clear rs ds n) (hd : ∀ j, ds.getD j false = true → rs.getD j false = true) :
    RRunR w n (.ok (rs, ss, deep)) (.returned (.tuple #[.pointer (some ⟨bl, 0, none⟩), .int .i64 0, .int .i64 0])) w'
theorem Chg3.below {b1 b2 b3 : Nat} {w0 w w' : World} (h : Chg3 b1 b2 b3 w w') (hb : Below w0.heap.size w0 w) (h1 : w0.heap.size ≤ b1) (h2 : w0.heap.size ≤ b2) (h3 : w0.heap.size ≤ b3) : Below w0.heap.size w0 w' :=
  ⟨h.os.trans hb.os, h.tape.trans hb.tape, h.output.trans hb.output, Nat.le_trans hb.size h.size, fun i hi => (h.block i (Nat.lt_of_lt_of_le hi hb.size) (by omega) (by omega) (by omega)).trans (hb.block i hi)⟩
theorem dsub_set {rs ds : List Bool} {k : Nat} (hrk : rs.getD k false = true) (h : ∀ j, ds.getD j false = true → rs.getD j false = true) : ∀ j, (ds.set k true).getD j false = true → rs.getD j false = true := by
  intro j hj
  by_cases e : k = j
  · subst e; exact hrk
  · rw [List.getD_eq_getElem?_getD, List.getElem?_set_ne e, ← List.getD_eq_getElem?_getD] at hj
    exact h j hj
set_option maxHeartbeats 4000000 in
theorem rrun_c (x : Img) (vx : Value) (w : World) (hx : ImgV w vx x) (hl : x.ins.length + x.outs.length ≤ 1099511627776) (hi : ImgOk x) :
    Calls Tryz.prog 36 #[vx] w (RRunR w x.code.length (verifyL x)) := by
  have HX := Lib.hid hx
  obtain ⟨vt, vf, vi, vo, vc, rfl, -, -, -, -, h5⟩ := hx
  obtain ⟨Ac, cc, rfl, hcc1, hcc2, -⟩ := h5
  have HCC := Lib.hid (fun W (hW : Below w.heap.size w W) => rcheck_c x _ W (HX.out.below hW) hl hi)
  by_cases he : (codeCheck x).2 = 0
  case neg =>
    have HR := Lib.hid (show verifyL x = .error (codeCheck x) by rw [verifyL, if_pos he])
    go_enter Tryz.func36, Tryz.ntmps36
    go_wp2_with (go_at_call 66; refine (HCC.out _ (by (repeat' (first | (with_reducible exact Below.refl _ _) | (with_reducible refine below_alloc ?_) | (with_reducible refine below_drew ?_) | (with_reducible refine below_drewN ?_) | (with_reducible refine below_set (by simp; omega) ?_) | (with_reducible refine below_call (by with_reducible assumption) ?_))))).mono ?_; rintro e w1 ⟨rfl, hb⟩; obtain ⟨hc, hf⟩ := bcell hb; have hz := hb.size; (try simp at hz); (try have hz1 := Nat.lt_of_succ_le hz); (try have hz2 := Nat.lt_of_succ_lt hz1); (try have hz3 := Nat.lt_of_succ_lt hz2); (try have hz4 := Nat.lt_of_succ_lt hz3))
    go_ret3
    rw [HR.out]
    exact RRunR.err (by (repeat' (first | (with_reducible exact Below.refl _ _) | (with_reducible refine below_alloc ?_) | (with_reducible refine below_drew ?_) | (with_reducible refine below_drewN ?_) | (with_reducible refine below_set (by simp; omega) ?_) | (with_reducible refine below_call (by with_reducible assumption) ?_))))
  have HR := Lib.hid (show verifyL x = runL x (fuelL x.code.length) ((List.replicate x.code.length false).set 0 true) (List.replicate x.code.length []) 0 (List.replicate x.code.length false) 0 by rw [verifyL, if_neg (by simp [he])])
  obtain ⟨hsd, hmay, -⟩ := codeCheck_ok he
  obtain ⟨hco, hc1, -⟩ := sound_len hsd
  have hmk1 := make_ints x.code.length hco
  have hmk2 := make_sls x.code.length hco
  have HE := Lib.hid he
  have HSD := Lib.hid hsd
  have HMAY := Lib.hid hmay
  clear he hsd hmay
  go_enter Tryz.func36, Tryz.ntmps36
  go_upto_region 4 with (go_at_call 66; refine (HCC.out _ (by (repeat' (first | (with_reducible exact Below.refl _ _) | (with_reducible refine below_alloc ?_) | (with_reducible refine below_drew ?_) | (with_reducible refine below_drewN ?_) | (with_reducible refine below_set (by simp; omega) ?_) | (with_reducible refine below_call (by with_reducible assumption) ?_))))).mono ?_; rintro e w1 ⟨rfl, hb⟩; rw [HE.out]; obtain ⟨hc, hf⟩ := bcell hb; have hz := hb.size; (try simp at hz); (try have hz1 := Nat.lt_of_succ_le hz); (try have hz2 := Nat.lt_of_succ_lt hz1); (try have hz3 := Nat.lt_of_succ_lt hz2); (try have hz4 := Nat.lt_of_succ_lt hz3))
  have c0 : w1.cell? ⟨w.heap.size, 0, none⟩ = some (.string x.name) := by rw [hc _ _ (by simp), World.cell?_alloc_at _ _ _ _ rfl]; rfl
  have c1 : w1.cell? ⟨w.heap.size, 1, none⟩ = some vt := by rw [hc _ _ (by simp), World.cell?_alloc_at _ _ _ _ rfl]; rfl
  have c2 : w1.cell? ⟨w.heap.size, 2, none⟩ = some vf := by rw [hc _ _ (by simp), World.cell?_alloc_at _ _ _ _ rfl]; rfl
  have c3 : w1.cell? ⟨w.heap.size, 3, none⟩ = some vi := by rw [hc _ _ (by simp), World.cell?_alloc_at _ _ _ _ rfl]; rfl
  have c4 : w1.cell? ⟨w.heap.size, 4, none⟩ = some vo := by rw [hc _ _ (by simp), World.cell?_alloc_at _ _ _ _ rfl]; rfl
  have c5 : w1.cell? ⟨w.heap.size, 5, none⟩ = some (.slice Ac x.code.length cc) := by rw [hc _ _ (by simp), World.cell?_alloc_at _ _ _ _ rfl]; rfl
  have hB1 : Below w.heap.size w w1 := by (repeat' (first | (with_reducible exact Below.refl _ _) | (with_reducible refine below_alloc ?_) | (with_reducible refine below_drew ?_) | (with_reducible refine below_drewN ?_) | (with_reducible refine below_set (by simp; omega) ?_) | (with_reducible refine below_call (by with_reducible assumption) ?_)))
  clear hc hf hb
  go_cut [7] (fun s7 wx => ∃ base bl bs bt : Nat, s7 = .pointer (some ⟨bl, 0, none⟩) ∧ Aside (RLook base bl bs bt x.code.length (.string x.name) vt vf vi vo (.slice Ac x.code.length cc) (List.replicate x.code.length false) (List.replicate x.code.length false) (List.replicate x.code.length []) 0 wx ∧ w.heap.size ≤ bl ∧ w.heap.size ≤ bs ∧ w.heap.size ≤ bt ∧ base ≤ wx.heap.size ∧ Below w.heap.size w wx))
  case first =>
    go_region
    · go_wp2_with fail
      go_meet
      exact ⟨_, _, _, _, rfl, (rlook_made w1 x.code.length (.string x.name) vt vf vi vo (.slice Ac x.code.length cc)).drewN_, by omega, by omega, by omega, by simp, below_drewN (below_alloc (below_alloc (below_alloc hB1)))⟩
    · go_wp2_with fail
      go_meet
      exact ⟨_, _, _, _, rfl, (rlook_made2 w1 x.code.length (.string x.name) vt vf vi vo (.slice Ac x.code.length cc)).drewN_, by omega, by omega, by omega, by simp, below_drewN (below_alloc (below_alloc (below_alloc hB1)))⟩
  case rest =>
    obtain ⟨base, bl, bs, bt, rfl, hlk, hgl, hgs, hgt, hbase, hBc⟩ := hcut
    have HLK := Lib.hid hlk
    have g7 : wc.cell? ⟨bl, 7, none⟩ = some (.slice (some ⟨bt, 0, none⟩) x.code.length x.code.length) := cell_of_row _ _ 7 _ _ _ hlk.look
    have e0 : wc.cell? ⟨bt, 0, none⟩ = some (.int .i64 0) := by
      have h := hlk.st_at (k := 0) hc1
      rw [h]
      cases hq : x.code.length <;> rfl
    have f0 := frozen_of_row 0 hlk.sts
    have hc1z : (0 : Int) < (x.code.length : Int) := by omega
    clear hlk
    go_upto_region 6 with fail
    have HL1 := Lib.hid (HLK.out.reach_ (k := 0) hc1 (by cases hq : x.code.length <;> rfl))
    have HB1 := Lib.hid (hBc.setCell (p := ⟨bt, 0, none⟩) hgt (.int .i64 1))
    have hbase1 : base ≤ (wc.setCell ⟨bt, 0, none⟩ (.int .i64 1)).heap.size := by simpa using hbase
    generalize wc.setCell ⟨bt, 0, none⟩ (.int .i64 1) = W1 at HL1 HB1 hbase1 ⊢
    clear g7 e0 f0 hBc HLK hbase hmk1 hmk2
    go_wp2_with fail
    go_loopg [8] x.code.length (fun gg s8 wr => ∃ (z : Int) (rs ds : List Bool) (ss : List (List Int)) (deep : Int), s8 = .int .i64 z ∧ leftL ds ≤ gg ∧ Aside (RLook base bl bs bt x.code.length (.string x.name) vt vf vi vo (.slice Ac x.code.length cc) rs ds ss deep wr) ∧ Aside (Below w.heap.size w wr ∧ base ≤ wr.heap.size) ∧ Aside (∀ j, ds.getD j false = true → rs.getD j false = true) ∧ Aside (∀ s ∈ ss, s.length ≤ 64) ∧ Aside (NextR x rs ds ss deep z))
    case atStart =>
      refine ⟨0, _, _, _, _, rfl, ?_, HL1.out, ⟨HB1.out, hbase1⟩, ?_, ?_, ?_⟩
      · rw [leftL_none]; exact Nat.le_refl _
      · show Aside _
        intro j hj
        rw [List.getD_eq_getElem?_getD, List.getElem?_replicate] at hj
        split at hj <;> cases hj
      · show Aside _
        intro s hs
        rw [(List.mem_replicate.1 hs).2]
        exact Nat.zero_le _
      · show Aside _
        refine .inr ⟨0, fuelL x.code.length, rfl, hc1, ?_, ?_, ?_, ?_, HR.out.symm⟩
        · cases hq : x.code.length with
          | zero => omega
          | succ m => rfl
        · cases hq : x.code.length <;> rfl
        · intro j hj; omega
        · unfold left fuelL
          rw [leftL_none, Nat.sub_zero]
          exact Nat.le_refl _
    case round =>
      obtain ⟨z, rs, ds, ss, deep, rfl, hgg, HL, HBB, HDR, H64, HNX⟩ := hrel
      have hBr := HBB.out.1
      have hbr := HBB.out.2
      rcases HNX.out with ⟨rfl, hver, hcl⟩ | ⟨k, g, rfl, hk, hrk, hdk, hcl, hlg, hfu⟩
      · have HV := Lib.hid hver
        have HCL := Lib.hid hcl
        clear hver hcl HR
        go_wp2
        go_ret3
        rw [HV.out]
        exact RRunR.ok hBr HL.out HCL.out HDR.out
      · have REH := Lib.hid (round_eq HSD.out HMAY.out hk hrk hdk hcl hlg hfu H64.out HL.out.ld HL.out.ls HDR.out)
        have g7 : wr.cell? ⟨bl, 7, none⟩ = some (.slice (some ⟨bt, 0, none⟩) x.code.length x.code.length) := cell_of_row _ _ 7 _ _ _ HL.out.look
        have e0 : wr.cell? ⟨bt, k, none⟩ = some (.int .i64 1) := by rw [HL.out.st_at hk, hrk, hdk]; rfl
        have f0 := frozen_of_row k HL.out.sts
        have hk0 : (0 : Int) ≤ (k : Int) := Int.natCast_nonneg _
        have hkz : (k : Int) < (x.code.length : Int) := by omega
        have hk96 : (k : Int) ≤ 4096 := by omega
        have HDS := Lib.hid (dsub_set hrk HDR.out)
        have hmeas : leftL (ds.set k true) < leftL ds := by
          have hdk' : ds[k]? = some false := by
            have hld := HL.out.ld
            rw [List.getElem?_eq_getElem (by omega)]
            rw [List.getD_eq_getElem?_getD, List.getElem?_eq_getElem (by omega)] at hdk
            simpa using hdk
          have := leftL_set ds k hdk'
          omega
        clear hrk hdk hcl hlg hfu HNX HR
        go_upto_region 10 with fail
        have HL2 := Lib.hid (HL.out.done_ hk)
        have HB2 := Lib.hid (hBr.setCell (p := ⟨bt, k, none⟩) hgt (.int .i64 2))
        have hb2 : base ≤ (wr.setCell ⟨bt, k, none⟩ (.int .i64 2)).heap.size := by simpa using hbr
        generalize wr.setCell ⟨bt, k, none⟩ (.int .i64 2) = W2 at HL2 HB2 hb2 ⊢
        have HAT := Lib.hid (rat_c x base bl bs bt k vt vf vi vo (.slice Ac x.code.length cc) rs (ds.set k true) ss deep ((k : Int) + 1) W2 (HX.out.below HB2.out) HL2.out hco hk HMAY.out H64.out hb2 HDS.out)
        clear g7 e0 f0 hBr hbr HL HBB H64 HL2 HDS HDR
        cases hat : atL x k rs (ds.set k true) ss deep ((k : Int) + 1) with
        | error ae =>
          obtain ⟨a, er⟩ := ae
          have hv := REH.out.1 _ hat
          have hne : er ≠ 0 := verifyL_err hv
          have HV := Lib.hid hv
          have HQ := Lib.hid hat
          clear hv hat
          go_wp2_with (go_at_call 68; refine (HAT.out).mono ?_; rw [HQ.out]; rintro e w3 (⟨hc3⟩ | _))
          go_ret3
          rw [HV.out]
          exact RRunR.err (hc3.below HB2.out hgl hgs hgt)
        | ok r =>
          obtain ⟨rs', ss', deep', back'⟩ := r
          have HQ := Lib.hid hat
          clear hat
          go_wp2_with (first
            | (go_at_call 68; refine (HAT.out).mono ?_; rw [HQ.out]; rintro e w3 (_ | ⟨hc3, hl3⟩); have HL3 := Lib.hid hl3; have HB3 := Lib.hid (hc3.below HB2.out hgl hgs hgt); have hb3 := Nat.le_trans hb2 hc3.size; clear hl3 hc3)
            | (go_at_call 67; refine (rleast_c _ HL3.out hco).mono ?_; rintro e w4 ⟨rfl, hb4⟩))
          go_roundg (leftL (ds.set k true))
          case measure => omega
          case rel =>
            obtain ⟨h1, h2, h3⟩ := REH.out.2 _ _ _ _ HQ.out HL3.out.lr
            exact ⟨_, rs', _, ss', deep', rfl, Nat.le_refl _, HL3.out.below hb4, ⟨below_call hb4 HB3.out, Nat.le_trans hb3 hb4.size⟩, h3, h2, h1⟩
end Go.Proofs.YtefpgjocfgeenaaGreatDoor
