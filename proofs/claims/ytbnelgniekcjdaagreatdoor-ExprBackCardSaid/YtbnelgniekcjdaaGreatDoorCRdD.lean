/- (*reader).or$1: one row of operations. -/
import Derived.Test.YtbnelgniekcjdaaGreatDoorCRdC
set_option linter.unusedSimpArgs false
set_option linter.unusedVariables false
namespace Go.Proofs.YtbnelgniekcjdaaGreatDoor
open Go.RowKit Cap
set_option maxRecDepth 100000

theorem box_ne {w : World} {rb b : Nat} {cs cs' : Array Value} {T T' : TypeId} {fr fr' : Nat × Nat} (hb : w.heap[b]? = some (.cells cs T fr)) (hr : w.heap[rb]? = some (.cells cs' T' fr')) (hT : T ≠ T') : b ≠ rb := by
  rintro rfl
  rw [hb] at hr
  injection hr with hr
  injection hr with h1 h2
  exact hT h2
theorem St.box {rb : Nat} {w w' : World} (h : St rb w w') {b : Nat} {cs cs' : Array Value} {T T' : TypeId} {fr fr' : Nat × Nat} (hb : w.heap[b]? = some (.cells cs T fr)) (hr : w.heap[rb]? = some (.cells cs' T' fr')) (hT : T ≠ T') (hP : T ≠ 44) : w'.heap[b]? = some (.cells cs T fr) :=
  h.keeps b _ hb (box_ne hb hr hT) fun cs'' fr'' e => by injection e with e1 e2; exact hP e2
theorem sl_ints {w : World} {bk : Nat} {row : List Int} {fr : Nat × Nat} {T : TypeId} (h : w.heap[bk]? = some (.cells (row.map fun n => Value.int .i64 n).toArray T fr)) (hn : row.length ≤ 9223372036854775807) : Sl encI 1 w (.slice (some ⟨bk, 0, none⟩) row.length row.length) row := by
  refine ⟨_, _, rfl, Nat.le_refl _, hn, fun i x hx => ⟨bk, 0, rfl, (Array.getElem?_eq_some_iff.1 h).1, fun j v hv => ?_⟩⟩
  have hj : j = 0 := by
    have := (List.getElem?_eq_some_iff.1 hv).1
    simp [encI] at this
    exact this
  subst hj
  rw [cell_of_row _ _ _ _ _ _ h]
  simp [hx]
  simpa [encI] using hv
set_option maxHeartbeats 8000000 in
theorem row_c (l : List Tok) (w0 W : World) (rb : Nat) (lv ov : Value) (a d : Nat) (o : List Prt) (hl : TokL w0 lv l) (hm : TokMax l.length) (h : Rd w0 rb lv a d ov o W) (ho : o.length ≤ a) (ha : a ≤ l.length) (hG : GX w0)
    (bi br bw bk f : Nat) (fst cap : Array Value) (g : Nat → PR) (row : List Nat) (hgood : GoodP l g) (hrow : ∀ n ∈ row, 1 ≤ n ∧ n ≤ 16) (hr63 : row.length ≤ 16)
    (hbi : W.heap[bi]? = some (.cells #[.func (.func f) fst cap] 1 (0, 0))) (hbr : W.heap[br]? = some (.cells #[.pointer (some ⟨rb, 0, none⟩)] 55 (0, 0)))
    (hbw : W.heap[bw]? = some (.cells #[.slice (some ⟨bk, 0, none⟩) row.length row.length] 24 (0, 0))) (hbk : W.heap[bk]? = some (.cells ((row.map Int.ofNat).map fun n => Value.int .i64 n).toArray 3 (0, 0)))
    (hf : Reads l w0 rb lv d f fst cap g W) :
    Calls Tryz.prog 32 #[.pointer (some ⟨bi, 0, none⟩), .pointer (some ⟨br, 0, none⟩), .pointer (some ⟨bw, 0, none⟩)] W (RdE w0 W rb lv d o (rowP l g row a)) := by
  have hR := h.at_
  obtain ⟨ef, hc⟩ := hf
  have HC := Lib.hid hc
  have HH := Lib.hid h
  have HL := Lib.hid hl
  have HG0 := Lib.hid hG
  have kbi := Lib.hid (show ∀ W', St rb W W' → W'.cell? ⟨bi, 0, none⟩ = some (.func (.func f) fst cap) from fun W' hs => by rw [cell_of_row _ _ _ _ _ _ (hs.box hbi hR (by decide) (by decide))]; rfl)
  have kbr := Lib.hid (show ∀ W', St rb W W' → W'.cell? ⟨br, 0, none⟩ = some (.pointer (some ⟨rb, 0, none⟩)) from fun W' hs => by rw [cell_of_row _ _ _ _ _ _ (hs.box hbr hR (by decide) (by decide))]; rfl)
  have kbw := Lib.hid (show ∀ W', St rb W W' → W'.cell? ⟨bw, 0, none⟩ = some (.slice (some ⟨bk, 0, none⟩) row.length row.length) from fun W' hs => by rw [cell_of_row _ _ _ _ _ _ (hs.box hbw hR (by decide) (by decide))]; rfl)
  have kbk := Lib.hid (show ∀ W', St rb W W' → Sl encI 1 W' (.slice (some ⟨bk, 0, none⟩) row.length row.length) (row.map Int.ofNat) from fun W' hs => by
    have h := sl_ints (row := row.map Int.ofNat) (hs.box hbk hR (by decide) (by decide)) (by rw [List.length_map]; omega)
    rwa [List.length_map] at h)
  have HO := Lib.hid (fun W' (hs : St rb W W') b ov' y (h' : Rd w0 rb lv b d ov' y W') (hb : b ≤ l.length) => op_c l w0 W' rb lv ov' b d y hl h' hb (hG.below h'.b0) row hrow _ (kbk.out W' hs))
  have HW := Lib.hid hgood
  have HRW := Lib.hid hrow
  have i0 := kbi.out W (St.refl _ _)
  have r0 := kbr.out W (St.refl _ _)
  have w0' := kbw.out W (St.refl _ _)
  have HC0 := Lib.hid (hc W a ov o (St.refl _ _) h ho ha)
  obtain ⟨F, hF⟩ : ∃ F, F = fun b => rowGo l g row (l.length - b) b := ⟨_, rfl⟩
  have HP := Lib.hid (show rowP l g row a = (g a).then F by rw [hF]; rfl)
  have HFS := Lib.hid (show ∀ b, opsAt l b row ≠ 0 → F b = ((g (b + 1)).put (opP (opsAt l b row))).then F by rw [hF]; exact fun b h0 => rowGo_step hgood h0)
  have HFN := Lib.hid (show ∀ b, opsAt l b row = 0 → F b = .ok b [] by rw [hF]; exact fun b h0 => rowGo_none h0 _)
  rw [HP.out]
  obtain ⟨q, hq⟩ : ∃ q, g a = q := ⟨_, rfl⟩
  rw [hq] at HC0 ⊢
  have HQ := Lib.hid (show q = g a from hq.symm)
  obtain ⟨Z, hZ⟩ : ∃ Z, q.then F = Z := ⟨_, rfl⟩
  rw [hZ]
  have HZ := Lib.hid hZ.symm
  clear hZ
  unfold TokMax at hm
  clear HP hq hF hc hl h hG hbi hbr hbw hbk hgood hrow hR
  go_enter Tryz.func32, Tryz.ntmps32
  go_wp2_with fail
  refine HC0.out.mono ?_
  rintro e w1 hE
  cases hE with
  | no hb hk =>
    rw [HZ.out]
    exact ⟨rfl, .no hb hk⟩
  | @ok b y w1 ov1 h1 hk1 =>
    have HH1 := Lib.hid h1
    have HK1 := Lib.hid hk1
    obtain ⟨hg1, hg2, hg3⟩ := HW.out _ _ _ HQ.out.symm
    have i1 := kbi.out w1 hk1
    have r1 := kbr.out w1 hk1
    have q1 := kbw.out w1 hk1
    have HO1 := Lib.hid (HO.out w1 hk1 b ov1 _ h1 hg2)
    clear h1 hk1
    go_wp2_with (go_at_call 33; refine HO1.out.mono ?_; rintro e w2 ⟨rfl, hb2⟩)
    go_loopg [3] (l.length + 1) (fun gg s3 wr => ∃ (b : Nat) (y : List Prt) (ov' : Value), s3 = .int .i64 ((opsAt l b row : Nat) : Int) ∧ b ≤ l.length ∧ l.length - b ≤ gg ∧ Aside (Rd w0 rb lv b d ov' (o ++ y) wr) ∧ Aside (St rb W wr) ∧ Aside ((o ++ y).length ≤ b) ∧ Aside (Z = (PR.ok b y).then F))
    case atStart => exact ⟨b, y, ov1, rfl, hg2, by omega, (show Rd _ _ _ _ _ _ _ _ from HH1.out.below hb2), (show St _ _ _ from .call hb2 HK1.out), (show (o ++ y).length ≤ b by rw [List.length_append]; omega), HZ.out⟩
    case round =>
      clear HO1 i1 r1 q1 HH1 HK1 hb2
      obtain ⟨b, y, ov', rfl, hb, hg, HD, HS, HY, HE⟩ := hrel
      by_cases h0 : opsAt l b row = 0
      · have hz : ¬ (0 : Int) < ((opsAt l b row : Nat) : Int) := by omega
        have HR := Lib.hid (show Z = .ok b y by rw [HE.out]; unfold PR.then; simp only [HFN.out b h0, List.append_nil])
        go_wp2_with fail
        rw [HR.out]
        exact ⟨rfl, _, results_none rfl _ _ _, .ok HD.out HS.out⟩
      · have hz : (0 : Int) < ((opsAt l b row : Nat) : Int) := by omega
        have hlt := opsAt_lt h0
        have HF0 := Lib.hid (HFS.out b h0)
        have i2 := kbi.out wr HS.out
        have r2 := kbr.out wr HS.out
        have q2 := kbw.out wr HS.out
        obtain ⟨⟨c0, c1, c2, c3⟩, hfz⟩ := HD.out.cells
        have f1 := hfz 1
        have hbm : (b : Int) ≤ 2932031007402 := by omega
        have HN := Lib.hid HD.out.next
        have HSN := Lib.hid (St.set HS.out 1 (.int .i64 ((b : Int) + 1)))
        have HC1 := Lib.hid (HC.out _ (b + 1) ov' (o ++ y) HSN.out HN.out (by have := HY.out; omega) (by omega))
        obtain ⟨q', hq'⟩ : ∃ q', g (b + 1) = q' := ⟨_, rfl⟩
        have HQ' := Lib.hid hq'
        rw [hq'] at HC1
        obtain ⟨n, hn⟩ : ∃ n, opsAt l b row = n := ⟨_, rfl⟩
        rw [hn] at hz HF0 ⊢
        clear c0 c2 c3 hfz hq' hn h0
        go_upto_region 5 with fail
        have i3 := kbi.out _ HSN.out
        have r3 := kbr.out _ HSN.out
        have q3 := kbw.out _ HSN.out
        go_wp2_with fail
        refine HC1.out.mono ?_
        rintro e w3 hE
        cases hE with
        | no hb' hk' =>
          rw [HE.out, then_no HF0.out HQ'.out]
          exact ⟨rfl, .no hb' (.trans HSN.out hk')⟩
        | @ok c z w3 ov3 h3 hk3 =>
          obtain ⟨hg1', hg2', hg3'⟩ := HW.out _ _ _ HQ'.out
          have HK3 := Lib.hid (St.trans HSN.out hk3)
          have i4 := kbi.out _ HK3.out
          have r4 := kbr.out _ HK3.out
          have q4 := kbw.out _ HK3.out
          have HPU := Lib.hid (put_c w0 w3 rb lv ov3 c d _ h3 (by have := HY.out; unfold TokMax; rw [List.length_append]; omega) (opP n))
          clear h3 hk3
          go_wp2_with fail
          refine HPU.out.mono ?_
          rintro e w4 ⟨rfl, hs4, ov4, h4⟩
          have HK4 := Lib.hid (St.trans HK3.out hs4)
          have i5 := kbi.out _ HK4.out
          have r5 := kbr.out _ HK4.out
          have q5 := kbw.out _ HK4.out
          have HO4 := Lib.hid (HO.out w4 HK4.out c ov4 _ h4 hg2')
          have HD4 := Lib.hid h4
          have HY4 := Lib.hid HY.out
          rw [List.length_append] at HY4
          clear h4 hs4
          go_wp2_with (go_at_call 33; refine HO4.out.mono ?_; rintro e w5 ⟨rfl, hb5⟩)
          go_roundg (l.length - c)
          case measure => omega
          case rel =>
            refine ⟨c, y ++ (z ++ [opP n]), ov4, rfl, hg2', by omega, ?_, ?_, ?_, ?_⟩
            · have h := HD4.out.below hb5
              rw [List.append_assoc, List.append_assoc] at h
              exact h
            · exact (show St _ _ _ from .call hb5 HK4.out)
            · have h := HY4.out
              show (o ++ (y ++ (z ++ [opP n]))).length ≤ c
              simp only [List.length_append, List.length_cons, List.length_nil]
              omega
            · exact HE.out.trans (then_step HF0.out HQ'.out)
end Go.Proofs.YtbnelgniekcjdaaGreatDoor
