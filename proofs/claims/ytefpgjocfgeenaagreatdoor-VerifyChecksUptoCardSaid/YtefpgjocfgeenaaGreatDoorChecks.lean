/- VerifyChecks: the walk. -/
import Derived.Test.YtefpgjocfgeenaaGreatDoorRef15g
import Derived.Test.YtefpgjocfgeenaaGreatDoorSame
import Derived.Test.YtefpgjocfgeenaaGreatDoorLaw15
namespace Go.Proofs.YtefpgjocfgeenaaGreatDoor
open Go.RowKit Cap
set_option maxRecDepth 100000

theorem ImgO.sl {base : Nat} {w : World} {v : Value} {x : Img} (h : ImgO base w v x) : ∃ A1 n1 A2 n2 A3 n3 A4 n4 A5 n5, v = .agg #[.string x.name, .slice A1 x.types.length n1, .slice A2 x.first.length n2, .slice A3 x.ins.length n3, .slice A4 x.outs.length n4, .slice A5 x.code.length n5] := by
  obtain ⟨vt, vf, vi, vo, vc, rfl, h1, h2, h3, h4, h5⟩ := h
  obtain ⟨A1, n1, rfl⟩ := own_slice h1
  obtain ⟨A2, n2, rfl⟩ := own_slice h2
  obtain ⟨A3, n3, rfl⟩ := own_slice h3
  obtain ⟨A4, n4, rfl⟩ := own_slice h4
  obtain ⟨A5, n5, rfl⟩ := own_slice h5
  exact ⟨A1, n1, A2, n2, A3, n3, A4, n4, A5, n5, rfl⟩
set_option maxHeartbeats 10000000 in
theorem checks_c (x : Img) (vx : Value) (w : World) (h : ImgAsk w vx x) (hk : CopyOk x) (hG : G w) :
    Calls Tryz.prog 3 #[vx] w fun e w' => e = .returned (.bool true) ∧ Below w.heap.size w w' := by
  have HG := Lib.hid hG
  have HX := Lib.hid h
  have HCO := Lib.hid hk
  obtain ⟨vt, vf, vi, vo, vc, rfl, -, -, -, -, -⟩ := h.img
  obtain ⟨cat, cer, hqc⟩ : ∃ a b, verifyNE x = (a, b) := ⟨_, _, rfl⟩
  obtain ⟨ddp, der, hqd⟩ : ∃ a b, deepNE x = (a, b) := ⟨_, _, rfl⟩
  have hrl := reachedNE_len x
  obtain ⟨rs, rer, hqr⟩ : ∃ a b, reachedNE x = (a, b) := ⟨_, _, rfl⟩
  rw [hqr] at hrl
  have HQC := Lib.hid hqc
  have HQD := Lib.hid hqd
  have HQR := Lib.hid hqr
  clear hG h hk hqc hqd hqr
  simp only at hrl
  go_enter Tryz.func3, Tryz.ntmps3
  go_wp2_with (first
    | (go_at_call 10; refine (copy_c x _ _ (HX.out.below (by (repeat' (first | (with_reducible exact Below.refl _ _) | (with_reducible refine below_alloc ?_) | (with_reducible refine below_drew ?_) | (with_reducible refine below_drewN ?_) | (with_reducible refine below_set (by simp; omega) ?_) | (with_reducible refine below_call (by with_reducible assumption) ?_))))).img HCO.out).mono ?_; rintro e w1 ⟨v, rfl, hO, hb1⟩; obtain ⟨A1, n1, A2, n2, A3, n3, A4, n4, A5, n5, rfl⟩ := hO.sl; have HO := Lib.hid (show ImgAsk _ _ x from ⟨hO.img, HX.out.name, HX.out.ends, HX.out.ok⟩); clear hO; obtain ⟨hc1, hf1⟩ := bcell hb1; have hz1 := hb1.size; (try simp at hz1); (try have hw01 : w.heap.size < w1.heap.size := by omega); (try have hw11 : w.heap.size + 1 < w1.heap.size := by omega); (try have hw21 : w.heap.size + 1 + 1 < w1.heap.size := by omega); have hz11 := Nat.lt_of_succ_le hz1)
    | (go_at_call 11; refine (check_eq x _ _ _ _ HQC.out (HO.out.below (by (repeat' (first | (with_reducible exact Below.refl _ _) | (with_reducible refine below_alloc ?_) | (with_reducible refine below_drew ?_) | (with_reducible refine below_drewN ?_) | (with_reducible refine below_set (by simp; omega) ?_) | (with_reducible refine below_call (by with_reducible assumption) ?_))))) (HG.out.below (by (repeat' (first | (with_reducible exact Below.refl _ _) | (with_reducible refine below_alloc ?_) | (with_reducible refine below_drew ?_) | (with_reducible refine below_drewN ?_) | (with_reducible refine below_set (by simp; omega) ?_) | (with_reducible refine below_call (by with_reducible assumption) ?_)))))).mono ?_; rintro e w2 ⟨rfl, hb2⟩; obtain ⟨hc2, hf2⟩ := bcell hb2; have hz2 := hb2.size; (try simp at hz2); (try have hw02 : w.heap.size < w2.heap.size := by omega); (try have hw12 : w.heap.size + 1 < w2.heap.size := by omega); (try have hw22 : w.heap.size + 1 + 1 < w2.heap.size := by omega); have hy2 : w1.heap.size < w2.heap.size := by omega)
    | (go_at_call 12; refine (rcheck15_eq x _ _ _ _ HQC.out (HX.out.below (by (repeat' (first | (with_reducible exact Below.refl _ _) | (with_reducible refine below_alloc ?_) | (with_reducible refine below_drew ?_) | (with_reducible refine below_drewN ?_) | (with_reducible refine below_set (by simp; omega) ?_) | (with_reducible refine below_call (by with_reducible assumption) ?_))))).img HX.out.ends HX.out.ok).mono ?_; rintro e w3 ⟨rfl, hb3⟩; obtain ⟨hc3, hf3⟩ := bcell hb3; have hz3 := hb3.size; (try simp at hz3); (try have hw03 : w.heap.size < w3.heap.size := by omega); (try have hw13 : w.heap.size + 1 < w3.heap.size := by omega); (try have hw23 : w.heap.size + 1 + 1 < w3.heap.size := by omega); have hy3 : w1.heap.size < w3.heap.size := by omega)
    | (go_at_call 13; refine (deep_eq x _ _ _ _ HQD.out (HO.out.below (by (repeat' (first | (with_reducible exact Below.refl _ _) | (with_reducible refine below_alloc ?_) | (with_reducible refine below_drew ?_) | (with_reducible refine below_drewN ?_) | (with_reducible refine below_set (by simp; omega) ?_) | (with_reducible refine below_call (by with_reducible assumption) ?_))))) (HG.out.below (by (repeat' (first | (with_reducible exact Below.refl _ _) | (with_reducible refine below_alloc ?_) | (with_reducible refine below_drew ?_) | (with_reducible refine below_drewN ?_) | (with_reducible refine below_set (by simp; omega) ?_) | (with_reducible refine below_call (by with_reducible assumption) ?_)))))).mono ?_; rintro e w4 ⟨rfl, hb4⟩; obtain ⟨hc4, hf4⟩ := bcell hb4; have hz4 := hb4.size; (try simp at hz4); (try have hw04 : w.heap.size < w4.heap.size := by omega); (try have hw14 : w.heap.size + 1 < w4.heap.size := by omega); (try have hw24 : w.heap.size + 1 + 1 < w4.heap.size := by omega); have hy4 : w1.heap.size < w4.heap.size := by omega)
    | (go_at_call 14; refine (rdeep15_eq x _ _ _ _ HQD.out (HX.out.below (by (repeat' (first | (with_reducible exact Below.refl _ _) | (with_reducible refine below_alloc ?_) | (with_reducible refine below_drew ?_) | (with_reducible refine below_drewN ?_) | (with_reducible refine below_set (by simp; omega) ?_) | (with_reducible refine below_call (by with_reducible assumption) ?_))))).img HX.out.ends HX.out.ok).mono ?_; rintro e w5 ⟨rfl, hb5⟩; obtain ⟨hc5, hf5⟩ := bcell hb5; have hz5 := hb5.size; (try simp at hz5); (try have hw05 : w.heap.size < w5.heap.size := by omega); (try have hw15 : w.heap.size + 1 < w5.heap.size := by omega); (try have hw25 : w.heap.size + 1 + 1 < w5.heap.size := by omega); have hy5 : w1.heap.size < w5.heap.size := by omega)
    | (go_at_call 15; refine (reached_eq x _ _ _ _ HQR.out (HO.out.below (by (repeat' (first | (with_reducible exact Below.refl _ _) | (with_reducible refine below_alloc ?_) | (with_reducible refine below_drew ?_) | (with_reducible refine below_drewN ?_) | (with_reducible refine below_set (by simp; omega) ?_) | (with_reducible refine below_call (by with_reducible assumption) ?_))))) (HG.out.below (by (repeat' (first | (with_reducible exact Below.refl _ _) | (with_reducible refine below_alloc ?_) | (with_reducible refine below_drew ?_) | (with_reducible refine below_drewN ?_) | (with_reducible refine below_set (by simp; omega) ?_) | (with_reducible refine below_call (by with_reducible assumption) ?_)))))).mono ?_; rintro e w6 ⟨AL, cL, rfl, hsL, hb6⟩; have HSL := Lib.hid hsL; clear hsL; obtain ⟨hc6, hf6⟩ := bcell hb6; have hz6 := hb6.size; (try simp at hz6); (try have hw06 : w.heap.size < w6.heap.size := by omega); (try have hw16 : w.heap.size + 1 < w6.heap.size := by omega); (try have hw26 : w.heap.size + 1 + 1 < w6.heap.size := by omega); have hy6 : w1.heap.size < w6.heap.size := by omega)
    | (go_at_call 16; refine (rreached15_eq x _ _ _ _ HQR.out (HX.out.below (by (repeat' (first | (with_reducible exact Below.refl _ _) | (with_reducible refine below_alloc ?_) | (with_reducible refine below_drew ?_) | (with_reducible refine below_drewN ?_) | (with_reducible refine below_set (by simp; omega) ?_) | (with_reducible refine below_call (by with_reducible assumption) ?_))))).img HX.out.ends HX.out.ok).mono ?_; rintro e w7 ⟨AM, cM, rfl, hsM, hb7⟩; have HSM := Lib.hid hsM; clear hsM; obtain ⟨hc7, hf7⟩ := bcell hb7; have hz7 := hb7.size; (try simp at hz7); (try have hw07 : w.heap.size < w7.heap.size := by omega); (try have hw17 : w.heap.size + 1 < w7.heap.size := by omega); (try have hw27 : w.heap.size + 1 + 1 < w7.heap.size := by omega); have hy7 : w1.heap.size < w7.heap.size := by omega))
  have hBo := below_call hb7 (below_call hb6 (below_call hb5 (below_call hb4 (below_call hb3 hb2))))
  have hBx := below_call hb7 (below_call hb6 (below_call hb5 (below_call hb4 (below_call hb3 (below_call hb2 (below_alloc hb1))))))
  have RX := Lib.hid (show w7.heap[w.heap.size]? = some (.cells #[.string x.name, vt, vf, vi, vo, vc] 26 (0, 0)) from (hBx.block _ (by simp)).trans (heap_alloc_new _ _))
  have RO := Lib.hid (show w7.heap[w1.heap.size]? = some (.cells #[.string x.name, .slice A1 x.types.length n1, .slice A2 x.first.length n2, .slice A3 x.ins.length n3, .slice A4 x.outs.length n4, .slice A5 x.code.length n5] 26 (0, 0)) from (hBo.block _ (by simp)).trans (heap_alloc_new _ _))
  have HBW := Lib.hid (show Below w.heap.size w w7 by (repeat' (first | (with_reducible exact Below.refl _ _) | (with_reducible refine below_alloc ?_) | (with_reducible refine below_drew ?_) | (with_reducible refine below_drewN ?_) | (with_reducible refine below_set (by simp; omega) ?_) | (with_reducible refine below_call (by with_reducible assumption) ?_))))
  have HB17 := Lib.hid (show Below w1.heap.size w1 w7 from below_call hb7 (below_call hb6 (below_call hb5 (below_call hb4 (below_call hb3 (below_call hb2 (below_alloc (Below.refl _ _))))))))
  have HB7 := Lib.hid hb7
  clear hc1 hc2 hc3 hc4 hc5 hc6 hc7 hf1 hf2 hf3 hf4 hf5 hf6 hf7 hb1 hb2 hb3 hb4 hb5 hb6 hb7 hBo hBx
  go_loopg [16] rs.length (fun gg s16 wr => ∃ k : Nat, s16 = .int .i64 k ∧ k ≤ rs.length ∧ rs.length - k ≤ gg ∧ Aside (Below w7.heap.size w7 wr))
  case atStart => exact ⟨0, rfl, Nat.zero_le _, by omega, (show Aside _ from Below.refl _ _)⟩
  case round =>
    obtain ⟨k, rfl, hk, hg, HB⟩ := hrel
    have hB := HB.out
    by_cases hlt : k < rs.length
    · obtain ⟨rv, hrv⟩ : ∃ rv, rs[k]? = some rv := ⟨rs[k], List.getElem?_eq_getElem hlt⟩
      obtain ⟨b1, o1, rfl, hb1, hcx⟩ := HSL.out.cells k rv hrv
      obtain ⟨b2, o2, rfl, hb2, hcy⟩ := HSM.out.cells k rv hrv
      have c0 : wr.cell? ⟨b1, o1 + k, none⟩ = some (.bool rv) := (hB.cell (p := ⟨b1, o1 + k, none⟩) (Nat.lt_of_lt_of_le hb1 HB7.out.size)).trans ((HB7.out.cell (p := ⟨b1, o1 + k, none⟩) hb1).trans (by simpa using hcx 0 _ rfl))
      have c1 : wr.cell? ⟨b2, o2 + k, none⟩ = some (.bool rv) := (hB.cell (p := ⟨b2, o2 + k, none⟩) hb2).trans (by simpa using hcy 0 _ rfl)
      have hltz : (k : Int) < (rs.length : Int) := by omega
      have hk0 : (0 : Int) ≤ (k : Int) := Int.natCast_nonneg _
      have hk96 : (k : Int) ≤ 4096 := by omega
      clear hcx hcy hrv hb1 hb2
      cases rv
      all_goals go_upto_region 13 with fail
      all_goals go_quiet (fail)
      all_goals go_wp2
      all_goals go_roundg (rs.length - (k + 1))
      all_goals first | exact ⟨k + 1, by go_num, by omega, by omega, below_drewN hB⟩ | omega
    · obtain rfl : k = rs.length := by omega
      have hltz : ¬ (rs.length : Int) < (rs.length : Int) := by omega
      have rx := (hB.block _ hw07).trans RX.out
      have ro := (hB.block _ hy7).trans RO.out
      have x0 := cell_of_row _ _ 0 _ _ _ rx
      have x1 := cell_of_row _ _ 1 _ _ _ rx
      have x2 := cell_of_row _ _ 2 _ _ _ rx
      have x3 := cell_of_row _ _ 3 _ _ _ rx
      have x4 := cell_of_row _ _ 4 _ _ _ rx
      have x5 := cell_of_row _ _ 5 _ _ _ rx
      have y0 := cell_of_row _ _ 0 _ _ _ ro
      have y1 := cell_of_row _ _ 1 _ _ _ ro
      have y2 := cell_of_row _ _ 2 _ _ _ ro
      have y3 := cell_of_row _ _ 3 _ _ _ ro
      have y4 := cell_of_row _ _ 4 _ _ _ ro
      have y5 := cell_of_row _ _ 5 _ _ _ ro
      simp at x0 x1 x2 x3 x4 x5 y0 y1 y2 y3 y4 y5
      have HSA := Lib.hid (fun W (hW : Below wr.heap.size wr W) => sameImage_c x _ _ W ((HO.out.img.below (below_call hB HB17.out)).below hW) ((HX.out.img.below (below_call hB HBW.out)).below hW))
      have HBR := Lib.hid (below_call hB HBW.out)
      clear rx ro
      go_wp2_with (first
        | (go_at_call 17; refine (HSA.out _ (by (repeat' (first | (with_reducible exact Below.refl _ _) | (with_reducible refine below_alloc ?_) | (with_reducible refine below_drew ?_) | (with_reducible refine below_drewN ?_) | (with_reducible refine below_set (by simp; omega) ?_) | (with_reducible refine below_call (by with_reducible assumption) ?_))))).mono ?_; rintro e w8 ⟨rfl, hb8⟩)
        | (go_at_call 18; refine (works_c _ (HG.out.below (below_call (by assumption) HBR.out))).mono ?_; rintro e w9 ⟨rfl, hb9⟩))
      go_ret
      exact ⟨by first | rfl | simp, below_call hb9 (below_call hb8 HBR.out)⟩
end Go.Proofs.YtefpgjocfgeenaaGreatDoor
