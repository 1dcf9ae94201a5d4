/- verify.run: the walk. -/
import Derived.Test.YtefpgjocfgeenaaGreatDoorRunA
import Derived.Deep.DeepCutAuto
namespace Go.Proofs.YtefpgjocfgeenaaGreatDoor
open Go.RowKit Cap
set_option maxRecDepth 100000

/-- What run leaves. -/
inductive RunR (w : World) (n : Nat) : Except NE (List Bool × List (List Int) × Int) → Ending → World → Prop
  | err {at_ e : Int} {w' : World} (h : Below w.heap.size w w') : RunR w n (.error (at_, e)) (.returned (.tuple #[.pointer none, .int .i64 at_, .int .i64 e])) w'
  | ok {rs : List Bool} {ss : List (List Int)} {deep : Int} {bl br bs : Nat} {w' : World} (h : Below w.heap.size w w') (hl : LookAt bl br bs n rs ss deep w') (h1 : w.heap.size ≤ bl) (h2 : w.heap.size ≤ br) :
    RunR w n (.ok (rs, ss, deep)) (.returned (.tuple #[.pointer (some ⟨bl, 0, none⟩), .int .i64 0, .int .i64 0])) w'

set_option maxHeartbeats 4000000 in
theorem run_c (x : Img) (vx : Value) (w : World) (hx : ImgV w vx x) (hG : G w) (hn : x.name.size ≤ 140737488351232) (hl : x.ins.length + x.outs.length ≤ 1099511627776) (hi : ImgOk x) :
    Calls Tryz.prog 35 #[vx] w (RunR w x.code.length (verifyL x)) := by
  have HX := Lib.hid hx
  obtain ⟨vt, vf, vi, vo, vc, rfl, -, -, -, -, h5⟩ := hx
  have H5 := Lib.hid h5
  obtain ⟨Ac, cc, rfl, hcc1, hcc2, -⟩ := h5
  have hc := fun W (hW : Below w.heap.size w W) => codeCheck_c x _ W (HX.out.below hW) (hG.below hW) hn hl hi
  have HCC := Lib.hid hc
  clear hc
  by_cases he : (codeCheck x).2 = 0
  case neg =>
    have HR := Lib.hid (show verifyL x = .error (codeCheck x) by rw [verifyL, if_pos he])
    go_enter Tryz.func35, Tryz.ntmps35
    go_wp2_with (go_at_call 62; refine (HCC.out _ (by (repeat' (first | (with_reducible exact Below.refl _ _) | (with_reducible refine below_alloc ?_) | (with_reducible refine below_drew ?_) | (with_reducible refine below_drewN ?_) | (with_reducible refine below_set (by simp; omega) ?_) | (with_reducible refine below_call (by with_reducible assumption) ?_))))).mono ?_; rintro e w1 ⟨rfl, hb⟩; obtain ⟨hc, hf⟩ := bcell hb; have hz := hb.size; (try simp at hz); (try have hz1 := Nat.lt_of_succ_le hz); (try have hz2 := Nat.lt_of_succ_lt hz1); (try have hz3 := Nat.lt_of_succ_lt hz2); (try have hz4 := Nat.lt_of_succ_lt hz3))
    go_ret3
    rw [HR.out]
    exact RunR.err (by (repeat' (first | (with_reducible exact Below.refl _ _) | (with_reducible refine below_alloc ?_) | (with_reducible refine below_drew ?_) | (with_reducible refine below_drewN ?_) | (with_reducible refine below_set (by simp; omega) ?_) | (with_reducible refine below_call (by with_reducible assumption) ?_))))
  have HR := Lib.hid (show verifyL x = runL x (fuelL x.code.length) ((List.replicate x.code.length false).set 0 true) (List.replicate x.code.length []) 0 (List.replicate x.code.length false) 0 by rw [verifyL, if_neg (by simp [he])])
  obtain ⟨hsd, hmay, -⟩ := codeCheck_ok he
  obtain ⟨hco, hc1, -⟩ := sound_len hsd
  have hmk1 := make_bools x.code.length hco
  have hmk2 := make_stks x.code.length hco
  have HE := Lib.hid he
  clear he
  go_enter Tryz.func35, Tryz.ntmps35
  go_upto_region 4 with (go_at_call 62; refine (HCC.out _ (by (repeat' (first | (with_reducible exact Below.refl _ _) | (with_reducible refine below_alloc ?_) | (with_reducible refine below_drew ?_) | (with_reducible refine below_drewN ?_) | (with_reducible refine below_set (by simp; omega) ?_) | (with_reducible refine below_call (by with_reducible assumption) ?_))))).mono ?_; rintro e w1 ⟨rfl, hb⟩; rw [HE.out]; obtain ⟨hc, hf⟩ := bcell hb; have hz := hb.size; (try simp at hz); (try have hz1 := Nat.lt_of_succ_le hz); (try have hz2 := Nat.lt_of_succ_lt hz1); (try have hz3 := Nat.lt_of_succ_lt hz2); (try have hz4 := Nat.lt_of_succ_lt hz3))
  have c5 : w1.cell? ⟨w.heap.size, 5, none⟩ = some (.slice Ac x.code.length cc) := by rw [hc _ _ (by simp), World.cell?_alloc_at _ _ _ _ rfl]; rfl
  have hB1 : Below w.heap.size w w1 := by (repeat' (first | (with_reducible exact Below.refl _ _) | (with_reducible refine below_alloc ?_) | (with_reducible refine below_drew ?_) | (with_reducible refine below_drewN ?_) | (with_reducible refine below_set (by simp; omega) ?_) | (with_reducible refine below_call (by with_reducible assumption) ?_)))
  have hbox : w1.heap[w.heap.size]? = some (.cells #[.string x.name, vt, vf, vi, vo, .slice Ac x.code.length cc] 26 (0, 0)) := by
    rw [hb.block _ (by simp)]
    exact heap_alloc_new w _
  clear hc hf hb
  go_cut [2] (fun s2 wx => ∃ bl br bs : Nat, s2 = .pointer (some ⟨bl, 0, none⟩) ∧ Aside (LookAt bl br bs x.code.length (List.replicate x.code.length false) (List.replicate x.code.length []) 0 wx ∧ w1.heap.size ≤ bl ∧ w1.heap.size ≤ br ∧ w1.heap.size ≤ bs ∧ Below w1.heap.size w1 wx))
  case first =>
    go_region
    · go_wp2_with fail
      go_meet
      exact ⟨_, _, _, rfl, look_made w1 _, by omega, by omega, by omega, by (repeat' (first | (with_reducible exact Below.refl _ _) | (with_reducible refine below_alloc ?_) | (with_reducible refine below_drew ?_) | (with_reducible refine below_drewN ?_) | (with_reducible refine below_set (by simp; omega) ?_) | (with_reducible refine below_call (by with_reducible assumption) ?_)))⟩
    · go_wp2_with fail
      go_meet
      exact ⟨_, _, _, rfl, look_made2 w1 _, by omega, by omega, by omega, by (repeat' (first | (with_reducible exact Below.refl _ _) | (with_reducible refine below_alloc ?_) | (with_reducible refine below_drew ?_) | (with_reducible refine below_drewN ?_) | (with_reducible refine below_set (by simp; omega) ?_) | (with_reducible refine below_call (by with_reducible assumption) ?_)))⟩
  case rest =>
    obtain ⟨bl, br, bs, rfl, hlk, hgl, hgr, hgs, hbc⟩ := hcut
    have c5 : wc.cell? ⟨w.heap.size, 5, none⟩ = some (.slice Ac x.code.length cc) := (hbc.cell (p := ⟨w.heap.size, 5, none⟩) hz1).trans c5
    have hsz := hbc.size
    have hst0 := fun (W : World) (hW : Below wc.heap.size wc W) => reach_yes bl br bs x.code.length 0 _ _ 0 [] W _ _ (reach_first x.code.length hc1) (hlk.keep (hW.block _ (lt_of_blk hlk.look)) (hW.block _ (lt_of_blk hlk.rows)) (hW.block _ (lt_of_blk hlk.stks))) hco hc1 (by simp)
    have HST := Lib.hid hst0
    clear hst0
    go_wp2_with (go_at_call 63; refine (HST.out _ (by (repeat' (first | (with_reducible exact Below.refl _ _) | (with_reducible refine below_alloc ?_) | (with_reducible refine below_drew ?_) | (with_reducible refine below_drewN ?_) | (with_reducible refine below_set (by simp; omega) ?_) | (with_reducible refine below_call (by with_reducible assumption) ?_))))).mono ?_; rintro e w2 ⟨rfl, hch, hlk2⟩)
    have hR1 : RunSt w #[.string x.name, vt, vf, vi, vo, .slice Ac x.code.length cc] w.heap.size bl br bs wc.heap.size x.code.length (List.replicate x.code.length false) (List.replicate x.code.length []) 0 (List.replicate x.code.length false) (wc.alloc (Obj.cells (List.flatMap encB (List.replicate x.code.length false)).toArray 4)) := by
      have l1 := lt_of_blk hlk.look
      have l2 := lt_of_blk hlk.rows
      have l3 := lt_of_blk hlk.stks
      exact
        { below := below_alloc (below_call hbc hB1)
          box := (heap_alloc_old _ _ (by omega)).trans ((hbc.block _ hz1).trans hbox)
          look := hlk.keep (heap_alloc_old _ _ l1) (heap_alloc_old _ _ l2) (heap_alloc_old _ _ l3)
          done := heap_alloc_new _ _
          ld := by simp
          gB := Nat.le_refl _
          gl := by omega
          gr := by omega
          gs := by omega
          gd := by omega
          Bl := by omega
          Br := by omega
          Bs := by omega
          Bd := by omega
          dl := by omega
          dr := by omega
          ds' := by omega }
    have hR := hR1.reach hch hlk2
    have HRS := Lib.hid hR
    clear hR hR1 hch hlk2 HST hsz c5 hbc hgl hgr hgs hlk hbox hB1 hz hz1 hmk1 hmk2
    generalize wc.heap.size = bd at HRS ⊢
    generalize w.heap.size = B at HRS ⊢
    have hnz : (0 : Int) ≤ (x.code.length : Int) := Int.natCast_nonneg _
    go_loopg [2, 8] (fuelL x.code.length) (fun gg s2 s8 wr => ∃ (k : Nat) (rs : List Bool) (ss : List (List Int)) (deep : Int) (ds : List Bool), s2 = .pointer (some ⟨bl, 0, none⟩) ∧ s8 = .int .i64 k ∧ Aside (RunSt w #[.string x.name, vt, vf, vi, vo, .slice Ac x.code.length cc] B bl br bs bd x.code.length rs ss deep ds wr) ∧ Aside (leftL ds * (x.code.length + 1) + (x.code.length - k) < gg) ∧ Aside (runL x gg rs ss deep ds k = verifyL x))
    case atStart =>
      refine ⟨0, _, _, 0, _, rfl, rfl, HRS.out, ?_, HR.out.symm⟩
      show _ < _
      rw [leftL_none]
      unfold fuelL
      omega
    case round =>
      obtain ⟨k, rs, ss, deep, ds, rfl, rfl, RS, HM, HF⟩ := hrel
      have c5 : wr.cell? ⟨B, 5, none⟩ = some (.slice Ac x.code.length cc) := cell_of_row _ _ _ _ _ _ RS.out.box
      have HF1 := Lib.hid (show runL x (gk - 1 + 1) rs ss deep ds k = verifyL x by
        have h1 := HM.out
        rw [show gk - 1 + 1 = gk by omega]
        exact HF.out)
      clear HF
      by_cases hlt : k < x.code.length
      case neg =>
        have hltz : ¬ (k : Int) < (x.code.length : Int) := by omega
        go_wp2
        go_ret3
        rw [← HF1.out, runL, if_pos (by omega)]
        exact RunR.ok RS.out.below RS.out.look RS.out.gl RS.out.gr
      have hltz : (k : Int) < (x.code.length : Int) := by omega
      have hk0 : (0 : Int) ≤ (k : Int) := Int.natCast_nonneg _
      have hw1 : IntKind.i64.wrap ((k : Int) + 1) = (k : Int) + 1 := IntWalk.i64_in _ (by omega)
      have c6 := RS.out.d hlt
      have c7 := RS.out.r hlt
      have c8 := RS.out.cl.1
      have c9 := RS.out.cl.2.1
      cases hd : ds.getD k false with
      | true =>
        rw [hd] at c6
        go_wp2
        go_roundg (gk - 1)
        case measure => have h1 := HM.out; omega
        case rel =>
          refine ⟨k + 1, rs, ss, deep, ds, rfl, by go_num, RS, ?_, ?_⟩
          · have h1 := HM.out
            show _ < _
            omega
          · have h1 := HF1.out
            rw [runL, if_neg (by omega), hd, Bool.true_or, if_pos rfl] at h1
            exact h1
      | false =>
        rw [hd] at c6
        cases hr : rs.getD k false with
        | false =>
          rw [hr] at c7
          go_wp2
          go_roundg (gk - 1)
          case measure => have h1 := HM.out; omega
          case rel =>
            refine ⟨k + 1, rs, ss, deep, ds, rfl, by go_num, RS, ?_, ?_⟩
            · have h1 := HM.out
              show _ < _
              omega
            · have h1 := HF1.out
              rw [runL, if_neg (by omega), hr, Bool.not_false, Bool.or_true, if_pos rfl] at h1
              exact h1
        | true =>
          rw [hr] at c7
          have f6 : wr.frozen? ⟨bd, k, none⟩ = false := free_of RS.out.done
          go_upto_region 12 with fail
          have RS1 := RS.out.setDone k
          clear c5 c6 c7 c8 c9 f6
          generalize wr.setCell ⟨bd, k, none⟩ (.bool true) = W1 at RS1 ⊢
          have c9 := RS1.cl.2.1
          have gs := RS1.look.range (RS1.s hlt)
          have hl0 := RS1.look.l64 _ (List.mem_of_getElem? (RS1.s hlt))
          generalize hs0 : ss.getD k [] = s0 at gs hl0
          have HS0 := Lib.hid hs0
          clear hs0
          have RS1 := Lib.hid RS1
          have i1 : (Tryz.prog.info? 122).map (·.size) = some (stk s0).length := by rw [stk_len hl0]; exact size_stk
          have hz := zero_stk
          have i2 : (Tryz.prog.info? 122).map (·.size) = some (stk s0).toArray.size := by rw [List.size_toArray]; exact i1
          have i3 : (stk []).toArray.size = (stk s0).toArray.size := by rw [List.size_toArray, List.size_toArray, stk_len hl0]; rfl
          have i4 := all_oneCell_toArray (stk_one s0)
          go_cut [9] (fun s9 wx => ∃ b : Nat, s9 = .pointer (some ⟨b, 0, none⟩) ∧ Aside (RunSt w #[.string x.name, vt, vf, vi, vo, .slice Ac x.code.length cc] B bl br bs bd x.code.length rs ss deep (ds.set k true) wx ∧ wx.heap[b]? = some (.cells (stk s0).toArray 122 (0, 0)) ∧ OffB w B bl br bs bd b))
          case first =>
            go_wp2_with (first | ((with_reducible refine wpList_load_mid (by rfl) 122 (.tmp 68) (by rfl) bs (k * 65) ?_ (stk s0) _ gs Tryz.underlying122 (by rfl) i1 ?_); (focus rfl)) | (((with_reducible refine wpList_store_new (by rfl) 122 (.tmp 9) (.tmp 69) (by rfl) W1.heap.size rfl ?_ (stk []).toArray (stk s0).toArray ?_ i2 i3 i4 ?_)); (focus rfl); (focus rfl)))
            go_meet
            have hlt1 := RS1.out.lt
            have hge1 := RS1.out.below.size
            exact ⟨_, rfl, RS1.out.alloc _, heap_alloc_new W1 _, by unfold OffB; omega⟩
          case rest =>
            obtain ⟨b, rfl, RS2, hb, hoff⟩ := hcut
            have HRS2 := Lib.hid RS2
            clear gs i1 i2 i3 i4 hz c9
            have hlt2 := RS2.lt
            have hb2 := lt_of_blk hb
            have hsz0 := RS2.below.size
            obtain ⟨hg0, hbB, hbl, hbr, hbs, hbd⟩ := hoff
            have cB : ∀ j v, #[Value.string x.name, vt, vf, vi, vo, .slice Ac x.code.length cc][j]? = some v → wc.cell? ⟨B, j, none⟩ = some v := fun j v hv => (cell_of_row _ _ _ _ _ _ RS2.box).trans hv
            have b0 : wc.cell? ⟨B, 0, none⟩ = some (.string x.name) := cB 0 _ rfl
            have b1 : wc.cell? ⟨B, 1, none⟩ = some (vt) := cB 1 _ rfl
            have b2 : wc.cell? ⟨B, 2, none⟩ = some (vf) := cB 2 _ rfl
            have b3 : wc.cell? ⟨B, 3, none⟩ = some (vi) := cB 3 _ rfl
            have b4 : wc.cell? ⟨B, 4, none⟩ = some (vo) := cB 4 _ rfl
            have b5 : wc.cell? ⟨B, 5, none⟩ = some (.slice Ac x.code.length cc) := cB 5 _ rfl
            clear cB
            have hcode : x.code[k]? = some (x.code.getD k ⟨0, 0, 0, 0⟩) := by
              rw [List.getD_eq_getElem?_getD, List.getElem?_eq_getElem hlt]
              rfl
            obtain ⟨Ac', cc', hsl, -, -, hcell⟩ := H5.out
            injection hsl with hs1 hs2 hs3
            subst hs1 hs3
            obtain ⟨bi, offi, hAi, hbi, hci⟩ := hcell k _ hcode
            subst hAi
            have hmi := hmay _ (List.mem_of_getElem? hcode)
            have HMI := Lib.hid hmi
            clear hmi
            generalize hii : x.code.getD k ⟨0, 0, 0, 0⟩ = ii at hci HMI
            have HII := Lib.hid hii
            have e0 : wc.cell? ⟨bi, offi + k * 4, none⟩ = some (.int .i64 ii.op) := (RS2.below.cell (p := ⟨bi, offi + k * 4, none⟩) hbi).trans (by simpa using hci 0 _ rfl)
            have e1 : wc.cell? ⟨bi, offi + k * 4 + 1, none⟩ = some (.int .i64 ii.a) := (RS2.below.cell (p := ⟨bi, offi + k * 4 + 1, none⟩) hbi).trans (by simpa using hci 1 _ rfl)
            have e2 : wc.cell? ⟨bi, offi + k * 4 + 2, none⟩ = some (.int .i64 ii.b) := (RS2.below.cell (p := ⟨bi, offi + k * 4 + 2, none⟩) hbi).trans (by simpa using hci 2 _ rfl)
            have e3 : wc.cell? ⟨bi, offi + k * 4 + 3, none⟩ = some (.int .i64 ii.n) := (RS2.below.cell (p := ⟨bi, offi + k * 4 + 3, none⟩) hbi).trans (by simpa using hci 3 _ rfl)
            have hbib : bi ≠ b := by omega
            have hstep := fun (W : World) (hW : Below w.heap.size w W) (hbW : W.heap[b]? = some (.cells (stk s0).toArray 122 (0, 0))) => step_c x _ ii s0 b w W HX.out hW hg0 HMI.out hbW hl0
            unfold insV at hstep
            have HS := Lib.hid hstep
            clear hci hcode hcell hii hstep
            have hkeep : ∀ W, Chg b wc.drew W → (fun W' => W'.cell? ⟨B, 0, none⟩ = some (.string x.name) ∧ W'.cell? ⟨B, 1, none⟩ = some vt ∧ W'.cell? ⟨B, 2, none⟩ = some vf ∧ W'.cell? ⟨B, 3, none⟩ = some vi ∧ W'.cell? ⟨B, 4, none⟩ = some vo ∧ W'.cell? ⟨B, 5, none⟩ = some (.slice (some ⟨bi, offi, none⟩) x.code.length cc) ∧ W'.cell? ⟨bi, offi + k * 4, none⟩ = some (.int .i64 ii.op) ∧ W'.cell? ⟨bi, offi + k * 4 + 1, none⟩ = some (.int .i64 ii.a) ∧ W'.cell? ⟨bi, offi + k * 4 + 2, none⟩ = some (.int .i64 ii.b) ∧ W'.cell? ⟨bi, offi + k * 4 + 3, none⟩ = some (.int .i64 ii.n)) W := fun W hW => by
              have hB := fun o => World.cell?_of_block (a := ⟨B, o, none⟩) (hW.block B hlt2.1 hbB.symm)
              have hI := fun o => World.cell?_of_block (a := ⟨bi, o, none⟩) (hW.block bi (Nat.lt_of_lt_of_le hbi hsz0) hbib)
              exact ⟨(hB 0).trans b0, (hB 1).trans b1, (hB 2).trans b2, (hB 3).trans b3, (hB 4).trans b4, (hB 5).trans b5, (hI _).trans e0, (hI _).trans e1, (hI _).trans e2, (hI _).trans e3⟩
            have HK := Lib.hid hkeep
            clear hkeep
            go_upto_region 13 with fail
            have hbel : Below w.heap.size w wc.drew := HRS2.out.drew.below
            have hbd2 : wc.drew.heap[b]? = some (.cells (stk s0).toArray 122 (0, 0)) := hb
            have hcall := HS.out _ hbel hbd2
            clear hbel hbd2
            cases hst : stepS x ii s0 with
            | none =>
              rw [hst] at hcall
              have hcall : Calls Tryz.prog 64 #[.pointer (some ⟨b, 0, none⟩), .agg #[.string x.name, vt, vf, vi, vo, .slice (some ⟨bi, offi, none⟩) x.code.length cc], .agg #[.int .i64 ii.op, .int .i64 ii.a, .int .i64 ii.b, .int .i64 ii.n]] wc.drew (fun e w' => e = .returned (.bool false) ∧ Chg b wc.drew w') :=
                hcall.mono fun e w' h => by cases h with | no h => exact ⟨rfl, h⟩
              have HC := Lib.hid hcall
              clear hcall
              go_region_held3 (fun W' => W'.cell? ⟨B, 0, none⟩ = some (.string x.name) ∧ W'.cell? ⟨B, 1, none⟩ = some vt ∧ W'.cell? ⟨B, 2, none⟩ = some vf ∧ W'.cell? ⟨B, 3, none⟩ = some vi ∧ W'.cell? ⟨B, 4, none⟩ = some vo ∧ W'.cell? ⟨B, 5, none⟩ = some (.slice (some ⟨bi, offi, none⟩) x.code.length cc) ∧ W'.cell? ⟨bi, offi + k * 4, none⟩ = some (.int .i64 ii.op) ∧ W'.cell? ⟨bi, offi + k * 4 + 1, none⟩ = some (.int .i64 ii.a) ∧ W'.cell? ⟨bi, offi + k * 4 + 2, none⟩ = some (.int .i64 ii.b) ∧ W'.cell? ⟨bi, offi + k * 4 + 3, none⟩ = some (.int .i64 ii.n)) (first | exact HK.out _ (Chg.refl _ _) | exact HK.out _ hC) (first | (go_at_call 64; refine HC.out.mono ?_; rintro e w3 ⟨rfl, hC⟩))
              go_wp2
              go_ret3
              have h1 := HF1.out
              rw [runL, if_neg (by omega), hd, hr, if_neg (by simp), HS0.out, HII.out, hst] at h1
              rw [← h1]
              exact RunR.err (hC.below HRS2.out.drew.below hg0)
            | some st =>
              rw [hst] at hcall
              have hcall : Calls Tryz.prog 64 #[.pointer (some ⟨b, 0, none⟩), .agg #[.string x.name, vt, vf, vi, vo, .slice (some ⟨bi, offi, none⟩) x.code.length cc], .agg #[.int .i64 ii.op, .int .i64 ii.a, .int .i64 ii.b, .int .i64 ii.n]] wc.drew (fun e w' => e = .returned (.bool true) ∧ PutB b (stk st) 122 wc.drew w') :=
                hcall.mono fun e w' h => by cases h with | yes h => exact ⟨rfl, h⟩
              have HC := Lib.hid hcall
              clear hcall
              go_region_held3 (fun W' => W'.cell? ⟨B, 0, none⟩ = some (.string x.name) ∧ W'.cell? ⟨B, 1, none⟩ = some vt ∧ W'.cell? ⟨B, 2, none⟩ = some vf ∧ W'.cell? ⟨B, 3, none⟩ = some vi ∧ W'.cell? ⟨B, 4, none⟩ = some vo ∧ W'.cell? ⟨B, 5, none⟩ = some (.slice (some ⟨bi, offi, none⟩) x.code.length cc) ∧ W'.cell? ⟨bi, offi + k * 4, none⟩ = some (.int .i64 ii.op) ∧ W'.cell? ⟨bi, offi + k * 4 + 1, none⟩ = some (.int .i64 ii.a) ∧ W'.cell? ⟨bi, offi + k * 4 + 2, none⟩ = some (.int .i64 ii.b) ∧ W'.cell? ⟨bi, offi + k * 4 + 3, none⟩ = some (.int .i64 ii.n)) (first | exact HK.out _ (Chg.refl _ _) | exact HK.out _ hC.chg) (first | (go_at_call 64; refine HC.out.mono ?_; rintro e w3 ⟨rfl, hC⟩))
              have RS3 := HRS2.out.drew.chg hC.chg hg0 hbB hbl hbr hbs hbd
              have hb3 := hC.at_
              have hst64 := stepS_len hl0 hst
              have c10 := RS3.cl.2.2
              have f10 : w3.frozen? ⟨bl, 2, none⟩ = false := free_of RS3.look.look
              have cm : w3.cell? ⟨b, 64, none⟩ = some (.int .i64 st.length) := by rw [cell_of hb3, stk_many hst64]
              have RS3 := Lib.hid RS3
              have HST := Lib.hid hst
              clear hC hst b0 b1 b2 b3 b4 b5 e0 e1 e2 e3 hb HC HS HK
              go_upto_region 15 with fail
              go_cut [9] (fun s9 wx => s9 = .pointer (some ⟨b, 0, none⟩) ∧ Aside (RunSt w #[.string x.name, vt, vf, vi, vo, .slice (some ⟨bi, offi, none⟩) x.code.length cc] B bl br bs bd x.code.length rs ss (max deep st.length) (ds.set k true) wx ∧ wx.heap[b]? = some (.cells (stk st).toArray 122 (0, 0))))
              case first =>
                go_region
                go_wp2_with fail
                go_meet
                refine ⟨rfl, (RS3.out.setDeep _).drew, ?_⟩
                rw [heap_drew, heap_setCell_other w3 ⟨bl, 2, none⟩ b _ hbl]
                exact hb3
              case rest =>
                obtain ⟨rfl, RS4, hb4⟩ := hcut
                have c5 : wc.cell? ⟨B, 5, none⟩ = some (.slice (some ⟨bi, offi, none⟩) x.code.length cc) := cell_of_row _ _ _ _ _ _ RS4.box
                obtain ⟨Ac', cc', hsl, -, -, hcell⟩ := H5.out
                injection hsl with hs1 hs2 hs3
                have hcode : x.code[k]? = some ii := by
                  rw [← HII.out, List.getD_eq_getElem?_getD, List.getElem?_eq_getElem hlt]
                  rfl
                obtain ⟨bi', offi', hAi, -, hci⟩ := hcell k _ hcode
                rw [← hs1] at hAi
                injection hAi with hAi
                injection hAi with hA1 hA2
                subst hA1 hA2
                have e0 : wc.cell? ⟨bi, offi + k * 4, none⟩ = some (.int .i64 ii.op) := (RS4.below.cell (p := ⟨bi, offi + k * 4, none⟩) hbi).trans (by simpa using hci 0 _ rfl)
                have e1 : wc.cell? ⟨bi, offi + k * 4 + 1, none⟩ = some (.int .i64 ii.a) := (RS4.below.cell (p := ⟨bi, offi + k * 4 + 1, none⟩) hbi).trans (by simpa using hci 1 _ rfl)
                have e2 : wc.cell? ⟨bi, offi + k * 4 + 2, none⟩ = some (.int .i64 ii.b) := (RS4.below.cell (p := ⟨bi, offi + k * 4 + 2, none⟩) hbi).trans (by simpa using hci 2 _ rfl)
                have e3 : wc.cell? ⟨bi, offi + k * 4 + 3, none⟩ = some (.int .i64 ii.n) := (RS4.below.cell (p := ⟨bi, offi + k * 4 + 3, none⟩) hbi).trans (by simpa using hci 3 _ rfl)
                have hgo := fun W => goes_c k ii W hk0 (by omega)
                unfold insV at hgo
                have HGO := Lib.hid hgo
                have hlt4 := RS4.lt
                have hge := goesL_ge (x := x) hk0 HMI.out
                have HGE := Lib.hid hge
                have RS4 := Lib.hid RS4
                have HB4 := Lib.hid hb4
                clear hci hcode hcell hs1 hs2 hs3 hgo hge hb4
                go_wp2_with (first | (go_at_call 65; refine (HGO.out _).mono ?_; rintro e w5 ⟨⟨v, rfl, hSl, hfr⟩, hb5⟩; have hSl0 := hSl; obtain ⟨At, ct, rfl, hct1, hct2, -⟩ := hSl; have HT := Lib.hid (TosAt.mk hSl0 hfr hlt4.2.2.1 hlt4.2.2.2.1); clear hSl0 hfr))
                have RS5 := Lib.hid (RS4.out.call hb5)
                have HB5 := Lib.hid ((hb5.block b (lt_of_blk HB4.out)).trans HB4.out)
                obtain ⟨g0, hg0'⟩ : ∃ g0, g0 = gk - 1 := ⟨_, rfl⟩
                have hgk : gk = g0 + 1 := by have h1 := HM.out; omega
                have hF2 : (match tosL x.code.length k (ds.set k true) st (goesL k ii) rs ss (k + 1) with | .error e => (.error e : Except NE (List Bool × List (List Int) × Int)) | .ok (rs', ss', back) => runL x g0 rs' ss' (max deep st.length) (ds.set k true) back.toNat) = verifyL x := by
                  have h1 := HF1.out
                  rw [runL, if_neg (by omega), hd, hr, if_neg (by simp), HS0.out, HII.out, HST.out, ← hg0'] at h1
                  exact h1
                have HF2 := Lib.hid hF2
                have HLS : leftL (ds.set k true) + 1 = leftL ds := leftL_set ds k (by
                  have hld := HRS2.out.ld
                  rw [List.length_set] at hld
                  rw [← hd, List.getD_eq_getElem?_getD, List.getElem?_eq_getElem (by omega)]
                  rfl)
                have HLS := Lib.hid HLS
                clear hF2 c5 e0 e1 e2 e3 hg0' hlt4 hb5
                generalize hL : (goesL k ii).length = L at *
                have HL := Lib.hid hL
                clear hL
                go_loopg [2, 10, 99] L (fun gg s2 s10 s99 wr => ∃ (j : Nat) (rs' : List Bool) (ss' : List (List Int)) (back : Int), s2 = .pointer (some ⟨bl, 0, none⟩) ∧ s10 = .int .i64 back ∧ s99 = .int .i64 j ∧ j ≤ L ∧ L - j ≤ gg ∧ 0 ≤ back ∧ Aside (RunSt w #[.string x.name, vt, vf, vi, vo, .slice (some ⟨bi, offi, none⟩) x.code.length cc] B bl br bs bd x.code.length rs' ss' (max deep st.length) (ds.set k true) wr ∧ wr.heap[b]? = some (.cells (stk st).toArray 122 (0, 0)) ∧ TosAt At (goesL k ii) br bs wr) ∧ Aside (tosL x.code.length k (ds.set k true) st ((goesL k ii).drop j) rs' ss' back = tosL x.code.length k (ds.set k true) st (goesL k ii) rs ss (k + 1)))
                case atStart =>
                  exact ⟨0, rs, ss, (k : Int) + 1, rfl, by go_num, rfl, Nat.zero_le _, by omega, by omega, ⟨RS5.out, HB5.out, HT.out⟩, rfl⟩
                case round =>
                  obtain ⟨j, rs', ss', back, rfl, rfl, rfl, hjL, hgj, hb0, ⟨RS6, hb6, HT6⟩, HF6⟩ := hrel
                  have c5 : wr.cell? ⟨B, 5, none⟩ = some (.slice (some ⟨bi, offi, none⟩) x.code.length cc) := cell_of_row _ _ _ _ _ _ RS6.box
                  have gb : wr.rangeAt b 0 (stk st) := fun i v hv => by rw [cell_of hb6, Nat.zero_add]; exact hv
                  have RS6 := Lib.hid RS6
                  have HB6 := Lib.hid hb6
                  have HT6 := Lib.hid HT6
                  have i1 : (Tryz.prog.info? 122).map (·.size) = some (stk st).length := by rw [stk_len hst64]; exact size_stk
                  clear hb6
                  by_cases hlt2 : j < L
                  case neg =>
                    have hjz : ¬ (j : Int) < (L : Int) := by omega
                    clear gb i1
                    go_wp2
                    go_roundg g0
                    case measure => omega
                    case rel =>
                      refine ⟨back.toNat, rs', ss', _, _, rfl, by rw [Int.toNat_of_nonneg hb0], RS6.out, ?_, ?_⟩
                      · have h1 := HM.out
                        show _ < _
                        rw [← HLS.out, Nat.succ_mul] at h1
                        omega
                      · have h1 := HF2.out
                        have h2 := HF6.out
                        rw [List.drop_eq_nil_of_le (by rw [HL.out]; omega), tosL] at h2
                        rw [← h2] at h1
                        exact h1
                  have hj : j < (goesL k ii).length := by rw [HL.out]; exact hlt2
                  obtain ⟨tt, hto⟩ : ∃ tt, (goesL k ii)[j]? = some tt := ⟨_, List.getElem?_eq_getElem hj⟩
                  obtain ⟨bq, off, rfl, hbq, hq1, hq2, cq⟩ := HT6.out j tt hto
                  have hto0 := HGE.out tt (List.mem_of_getElem? hto)
                  obtain ⟨t, rfl⟩ : ∃ t : Nat, tt = (t : Int) := ⟨tt.toNat, by omega⟩
                  have hjz : (j : Int) < (L : Int) := by omega
                  have h6 := HF6.out
                  rw [drop_cons hto, tosL, Int.toNat_natCast] at h6
                  clear hto hj HF6
                  by_cases htn : t < x.code.length
                  case neg =>
                    have htz : ¬ (t : Int) < (x.code.length : Int) := by omega
                    have htz2 : (x.code.length : Int) ≤ (t : Int) := by omega
                    rw [if_pos htz2] at h6
                    have H6 := Lib.hid h6
                    clear h6 gb i1
                    go_wp2
                    go_ret3
                    have h1 := HF2.out
                    rw [← H6.out] at h1
                    rw [← h1]
                    exact RunR.err RS6.out.below
                  have htz : ¬ (x.code.length : Int) ≤ (t : Int) := by omega
                  have htz2 : (t : Int) < (x.code.length : Int) := by omega
                  have htz0 : (0 : Int) ≤ (t : Int) := Int.natCast_nonneg _
                  rw [if_neg htz] at h6
                  cases hre : reachS rs' ss' t st with
                  | none =>
                    have H6 := Lib.hid (show tosL x.code.length k (ds.set k true) st (goesL k ii) rs ss (k + 1) = .error ((t : Int), 151) from by rw [← h6, hre])
                    have HR6 := Lib.hid (reach_not bl br bs x.code.length t rs' ss' _ st wr hre RS6.out.look hco htn hst64)
                    clear h6 hre
                    go_wp2_with (first | ((with_reducible refine wpList_load_mid (by rfl) 122 (.tmp 9) (by rfl) b 0 ?_ (stk st) _ gb Tryz.underlying122 (by rfl) i1 ?_); (focus rfl)) | (go_at_call 63; refine HR6.out.mono ?_; rintro e w7 ⟨rfl, hb7⟩))
                    go_ret3
                    have h1 := HF2.out
                    rw [H6.out] at h1
                    rw [← h1]
                    exact RunR.err (RS6.out.call hb7).below
                  | some p =>
                    obtain ⟨rs2, ss2⟩ := p
                    rw [hre] at h6
                    have H6 := Lib.hid h6
                    have HR6 := Lib.hid (reach_yes bl br bs x.code.length t rs' ss' _ st wr rs2 ss2 hre RS6.out.look hco htn hst64)
                    clear h6 hre
                    cases hdt : (ds.set k true).getD t false with
                    | true =>
                      have HDT := Lib.hid hdt
                      clear hdt
                      go_wp2_with (first | ((with_reducible refine wpList_load_mid (by rfl) 122 (.tmp 9) (by rfl) b 0 ?_ (stk st) _ gb Tryz.underlying122 (by rfl) i1 ?_); (focus rfl)) | (go_at_call 63; refine HR6.out.mono ?_; rintro e w7 ⟨rfl, hch, hlk⟩; have RS7 := RS6.out.reach hch hlk; have c7 := RS7.d htn; rw [HDT.out] at c7; have RS7 := Lib.hid RS7; have HB7 := Lib.hid ((hch.block b (lt_of_blk HB6.out) hbr hbs).trans HB6.out); have HT7 := Lib.hid (HT6.out.chg hch); clear hch hlk))
                      go_roundg (L - (j + 1))
                      case measure => omega
                      case rel =>
                        refine ⟨j + 1, rs2, ss2, back, rfl, rfl, by go_num, by omega, by omega, hb0, ⟨RS7.out, HB7.out, HT7.out⟩, ?_⟩
                        have h1 := H6.out
                        simp only [HDT.out, if_true] at h1
                        exact h1
                    | false =>
                      have HDT := Lib.hid hdt
                      clear hdt
                      go_wp2_with (first | ((with_reducible refine wpList_load_mid (by rfl) 122 (.tmp 9) (by rfl) b 0 ?_ (stk st) _ gb Tryz.underlying122 (by rfl) i1 ?_); (focus rfl)) | (go_at_call 63; refine HR6.out.mono ?_; rintro e w7 ⟨rfl, hch, hlk⟩; have RS7 := RS6.out.reach hch hlk; have c7 := RS7.d htn; rw [HDT.out] at c7; have RS7 := Lib.hid RS7; have HB7 := Lib.hid ((hch.block b (lt_of_blk HB6.out) hbr hbs).trans HB6.out); have HT7 := Lib.hid (HT6.out.chg hch); clear hch hlk))
                      go_roundg (L - (j + 1))
                      case measure => omega
                      case rel =>
                        refine ⟨j + 1, rs2, ss2, min back t, rfl, rfl, by go_num, by omega, by omega, by omega, ⟨RS7.out, HB7.out, HT7.out⟩, ?_⟩
                        have h1 := H6.out
                        simp only [HDT.out] at h1
                        exact h1
end Go.Proofs.YtefpgjocfgeenaaGreatDoor
