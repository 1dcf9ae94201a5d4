/- capstanref13.Check: what each call answers. -/
import Derived.Test.YtefpgjocfgeenaaGreatDoorRef13d
import Derived.Test.YtefpgjocfgeenaaGreatDoorRef13e
namespace Go.Proofs.YtefpgjocfgeenaaGreatDoor
open Go.RowKit Cap
set_option maxRecDepth 100000

theorem bad_sound {x : Img} (h : soundR x = false) : codeCheck x = (-1, 130) := by
  unfold codeCheck
  rw [sound_eq, h, if_pos rfl]
theorem rfits_q (t n : Int) (w : World) : Calls Tryz.prog 115 #[.int .i64 t, .int .i64 n] w fun e w' => e = .returned (.bool (fits t n)) ∧ w' = w := (rfits_c t n w).mono fun _ _ h => ⟨h.1, h.2.symm⟩
set_option maxHeartbeats 8000000 in
theorem rcheck_c (x : Img) (vx : Value) (w : World) (hx : ImgV w vx x) (hl : x.ins.length + x.outs.length ≤ 1099511627776) (hi : ImgOk x) :
    Calls Tryz.prog 66 #[vx] w fun e w' => e = .returned (.tuple #[.int .i64 (codeCheck x).1, .int .i64 (codeCheck x).2]) ∧ Below w.heap.size w w' := by
  have HX := Lib.hid hx
  have HNm := Lib.hid (fun W => (by have h := rname_c x.name W; rw [← name_eq] at h; exact h : Calls Tryz.prog 113 #[.string x.name] W fun e w' => e = .returned (.bool (isName x.name)) ∧ Below W.heap.size W w'))
  obtain ⟨vt, vf, vi, vo, vc, rfl, h1, h2, h3, h4, h5⟩ := hx
  have HCl := Lib.hid (fun W (hW : Below w.heap.size w W) => rcells_c x _ W (HX.out.below hW) hl)
  obtain ⟨At, ct, rfl, hlt1, hlt2, hct⟩ := h1
  obtain ⟨Af, cf, rfl, hlf1, hlf2, hcf⟩ := h2
  obtain ⟨Ac, cc, rfl, hlc1, hlc2, hcc⟩ := h5
  have HCT := Lib.hid hct
  have HCF := Lib.hid hcf
  have HCC := Lib.hid hcc
  clear hct hcf hcc h3 h4
  cases k1 : isName x.name
  · have HR := Lib.hid (bad_sound (x := x) (by simp [soundR, k1]))
    go_enter Tryz.func66, Tryz.ntmps66
    go_wp2_with (first | (go_at_call 113; refine (HNm.out _).mono ?_; rintro e w1 ⟨rfl, hb1⟩; obtain ⟨hc1, hf1⟩ := bcell hb1; have hz1 := hb1.size; (try simp at hz1); (try have hw01 : w.heap.size < w1.heap.size := by omega); (try have hw11 : w.heap.size + 1 < w1.heap.size := by omega); (try have hw21 : w.heap.size + 1 + 1 < w1.heap.size := by omega)) | (go_at_call 114; refine (HCl.out _ (by (repeat' (first | (with_reducible exact Below.refl _ _) | (with_reducible refine below_alloc ?_) | (with_reducible refine below_drew ?_) | (with_reducible refine below_drewN ?_) | (with_reducible refine below_set (by simp; omega) ?_) | (with_reducible refine below_call (by with_reducible assumption) ?_))))).mono ?_; rintro e w2 ⟨rfl, hb2⟩; obtain ⟨hc2, hf2⟩ := bcell hb2; have hz2 := hb2.size; (try simp at hz2); (try have hw02 : w.heap.size < w2.heap.size := by omega); (try have hw12 : w.heap.size + 1 < w2.heap.size := by omega); (try have hw22 : w.heap.size + 1 + 1 < w2.heap.size := by omega)))
    go_ret2
    exact ⟨by rw [HR.out]; rfl, by (repeat' (first | (with_reducible exact Below.refl _ _) | (with_reducible refine below_alloc ?_) | (with_reducible refine below_drew ?_) | (with_reducible refine below_drewN ?_) | (with_reducible refine below_set (by simp; omega) ?_) | (with_reducible refine below_call (by with_reducible assumption) ?_)))⟩
  by_cases e2 : x.types.length = x.first.length
  case neg =>
    have HR := Lib.hid (bad_sound (x := x) (by simp [soundR, e2]))
    have k2 : ((x.types.length : Int) != (x.first.length : Int)) = true := by rw [bne_iff_ne]; omega
    clear e2
    go_enter Tryz.func66, Tryz.ntmps66
    go_wp2_with (first | (go_at_call 113; refine (HNm.out _).mono ?_; rintro e w1 ⟨rfl, hb1⟩; obtain ⟨hc1, hf1⟩ := bcell hb1; have hz1 := hb1.size; (try simp at hz1); (try have hw01 : w.heap.size < w1.heap.size := by omega); (try have hw11 : w.heap.size + 1 < w1.heap.size := by omega); (try have hw21 : w.heap.size + 1 + 1 < w1.heap.size := by omega)) | (go_at_call 114; refine (HCl.out _ (by (repeat' (first | (with_reducible exact Below.refl _ _) | (with_reducible refine below_alloc ?_) | (with_reducible refine below_drew ?_) | (with_reducible refine below_drewN ?_) | (with_reducible refine below_set (by simp; omega) ?_) | (with_reducible refine below_call (by with_reducible assumption) ?_))))).mono ?_; rintro e w2 ⟨rfl, hb2⟩; obtain ⟨hc2, hf2⟩ := bcell hb2; have hz2 := hb2.size; (try simp at hz2); (try have hw02 : w.heap.size < w2.heap.size := by omega); (try have hw12 : w.heap.size + 1 < w2.heap.size := by omega); (try have hw22 : w.heap.size + 1 + 1 < w2.heap.size := by omega)))
    go_ret2
    exact ⟨by rw [HR.out]; rfl, by (repeat' (first | (with_reducible exact Below.refl _ _) | (with_reducible refine below_alloc ?_) | (with_reducible refine below_drew ?_) | (with_reducible refine below_drewN ?_) | (with_reducible refine below_set (by simp; omega) ?_) | (with_reducible refine below_call (by with_reducible assumption) ?_)))⟩
  have k2 : ((x.types.length : Int) != (x.first.length : Int)) = false := by rw [bne_eq_false_iff_eq]; omega
  have E2 := Lib.hid e2
  clear e2
  by_cases k3 : 1024 < x.types.length
  · have HR := Lib.hid (bad_sound (x := x) (by simp [soundR]; omega))
    go_enter Tryz.func66, Tryz.ntmps66
    go_wp2_with (first | (go_at_call 113; refine (HNm.out _).mono ?_; rintro e w1 ⟨rfl, hb1⟩; obtain ⟨hc1, hf1⟩ := bcell hb1; have hz1 := hb1.size; (try simp at hz1); (try have hw01 : w.heap.size < w1.heap.size := by omega); (try have hw11 : w.heap.size + 1 < w1.heap.size := by omega); (try have hw21 : w.heap.size + 1 + 1 < w1.heap.size := by omega)) | (go_at_call 114; refine (HCl.out _ (by (repeat' (first | (with_reducible exact Below.refl _ _) | (with_reducible refine below_alloc ?_) | (with_reducible refine below_drew ?_) | (with_reducible refine below_drewN ?_) | (with_reducible refine below_set (by simp; omega) ?_) | (with_reducible refine below_call (by with_reducible assumption) ?_))))).mono ?_; rintro e w2 ⟨rfl, hb2⟩; obtain ⟨hc2, hf2⟩ := bcell hb2; have hz2 := hb2.size; (try simp at hz2); (try have hw02 : w.heap.size < w2.heap.size := by omega); (try have hw12 : w.heap.size + 1 < w2.heap.size := by omega); (try have hw22 : w.heap.size + 1 + 1 < w2.heap.size := by omega)))
    go_ret2
    exact ⟨by rw [HR.out]; rfl, by (repeat' (first | (with_reducible exact Below.refl _ _) | (with_reducible refine below_alloc ?_) | (with_reducible refine below_drew ?_) | (with_reducible refine below_drewN ?_) | (with_reducible refine below_set (by simp; omega) ?_) | (with_reducible refine below_call (by with_reducible assumption) ?_)))⟩
  by_cases k4 : x.code.length < 1
  · have HR := Lib.hid (bad_sound (x := x) (by simp [soundR]; omega))
    go_enter Tryz.func66, Tryz.ntmps66
    go_wp2_with (first | (go_at_call 113; refine (HNm.out _).mono ?_; rintro e w1 ⟨rfl, hb1⟩; obtain ⟨hc1, hf1⟩ := bcell hb1; have hz1 := hb1.size; (try simp at hz1); (try have hw01 : w.heap.size < w1.heap.size := by omega); (try have hw11 : w.heap.size + 1 < w1.heap.size := by omega); (try have hw21 : w.heap.size + 1 + 1 < w1.heap.size := by omega)) | (go_at_call 114; refine (HCl.out _ (by (repeat' (first | (with_reducible exact Below.refl _ _) | (with_reducible refine below_alloc ?_) | (with_reducible refine below_drew ?_) | (with_reducible refine below_drewN ?_) | (with_reducible refine below_set (by simp; omega) ?_) | (with_reducible refine below_call (by with_reducible assumption) ?_))))).mono ?_; rintro e w2 ⟨rfl, hb2⟩; obtain ⟨hc2, hf2⟩ := bcell hb2; have hz2 := hb2.size; (try simp at hz2); (try have hw02 : w.heap.size < w2.heap.size := by omega); (try have hw12 : w.heap.size + 1 < w2.heap.size := by omega); (try have hw22 : w.heap.size + 1 + 1 < w2.heap.size := by omega)))
    go_ret2
    exact ⟨by rw [HR.out]; rfl, by (repeat' (first | (with_reducible exact Below.refl _ _) | (with_reducible refine below_alloc ?_) | (with_reducible refine below_drew ?_) | (with_reducible refine below_drewN ?_) | (with_reducible refine below_set (by simp; omega) ?_) | (with_reducible refine below_call (by with_reducible assumption) ?_)))⟩
  by_cases k5 : 4096 < x.code.length
  · have HR := Lib.hid (bad_sound (x := x) (by simp [soundR]; omega))
    go_enter Tryz.func66, Tryz.ntmps66
    go_wp2_with (first | (go_at_call 113; refine (HNm.out _).mono ?_; rintro e w1 ⟨rfl, hb1⟩; obtain ⟨hc1, hf1⟩ := bcell hb1; have hz1 := hb1.size; (try simp at hz1); (try have hw01 : w.heap.size < w1.heap.size := by omega); (try have hw11 : w.heap.size + 1 < w1.heap.size := by omega); (try have hw21 : w.heap.size + 1 + 1 < w1.heap.size := by omega)) | (go_at_call 114; refine (HCl.out _ (by (repeat' (first | (with_reducible exact Below.refl _ _) | (with_reducible refine below_alloc ?_) | (with_reducible refine below_drew ?_) | (with_reducible refine below_drewN ?_) | (with_reducible refine below_set (by simp; omega) ?_) | (with_reducible refine below_call (by with_reducible assumption) ?_))))).mono ?_; rintro e w2 ⟨rfl, hb2⟩; obtain ⟨hc2, hf2⟩ := bcell hb2; have hz2 := hb2.size; (try simp at hz2); (try have hw02 : w.heap.size < w2.heap.size := by omega); (try have hw12 : w.heap.size + 1 < w2.heap.size := by omega); (try have hw22 : w.heap.size + 1 + 1 < w2.heap.size := by omega)))
    go_ret2
    exact ⟨by rw [HR.out]; rfl, by (repeat' (first | (with_reducible exact Below.refl _ _) | (with_reducible refine below_alloc ?_) | (with_reducible refine below_drew ?_) | (with_reducible refine below_drewN ?_) | (with_reducible refine below_set (by simp; omega) ?_) | (with_reducible refine below_call (by with_reducible assumption) ?_)))⟩
  cases k6 : (decide ((x.ins ++ x.outs).length ≤ x.types.length) && endsR x.types.length [] (x.ins ++ x.outs))
  · have HR := Lib.hid (bad_sound (x := x) (by unfold soundR; rw [k6]; simp))
    rw [k6] at HCl
    clear k6
    go_enter Tryz.func66, Tryz.ntmps66
    go_wp2_with (first | (go_at_call 113; refine (HNm.out _).mono ?_; rintro e w1 ⟨rfl, hb1⟩; obtain ⟨hc1, hf1⟩ := bcell hb1; have hz1 := hb1.size; (try simp at hz1); (try have hw01 : w.heap.size < w1.heap.size := by omega); (try have hw11 : w.heap.size + 1 < w1.heap.size := by omega); (try have hw21 : w.heap.size + 1 + 1 < w1.heap.size := by omega)) | (go_at_call 114; refine (HCl.out _ (by (repeat' (first | (with_reducible exact Below.refl _ _) | (with_reducible refine below_alloc ?_) | (with_reducible refine below_drew ?_) | (with_reducible refine below_drewN ?_) | (with_reducible refine below_set (by simp; omega) ?_) | (with_reducible refine below_call (by with_reducible assumption) ?_))))).mono ?_; rintro e w2 ⟨rfl, hb2⟩; obtain ⟨hc2, hf2⟩ := bcell hb2; have hz2 := hb2.size; (try simp at hz2); (try have hw02 : w.heap.size < w2.heap.size := by omega); (try have hw12 : w.heap.size + 1 < w2.heap.size := by omega); (try have hw22 : w.heap.size + 1 + 1 < w2.heap.size := by omega)))
    go_ret2
    exact ⟨by rw [HR.out]; rfl, by (repeat' (first | (with_reducible exact Below.refl _ _) | (with_reducible refine below_alloc ?_) | (with_reducible refine below_drew ?_) | (with_reducible refine below_drewN ?_) | (with_reducible refine below_set (by simp; omega) ?_) | (with_reducible refine below_call (by with_reducible assumption) ?_)))⟩
  have HS := Lib.hid (show soundR x = fitsAll x.types x.first by
    have e2 := E2.out
    have a3 : x.types.length ≤ 1024 := by omega
    have a4 : 1 ≤ x.code.length := by omega
    have a5 : x.code.length ≤ 4096 := by omega
    unfold soundR
    rw [k6, k1]
    simp [a3, a4, a5, ← e2])
  rw [k6] at HCl
  clear k6
  have d3 : decide ((1024 : Int) < (x.types.length : Int)) = false := by simp; omega
  have d4 : decide ((x.code.length : Int) < 1) = false := by simp; omega
  have d5 : decide ((4096 : Int) < (x.code.length : Int)) = false := by simp; omega
  go_enter Tryz.func66, Tryz.ntmps66
  go_wp2_with (first | (go_at_call 113; refine (HNm.out _).mono ?_; rintro e w1 ⟨rfl, hb1⟩; obtain ⟨hc1, hf1⟩ := bcell hb1; have hz1 := hb1.size; (try simp at hz1); (try have hw01 : w.heap.size < w1.heap.size := by omega); (try have hw11 : w.heap.size + 1 < w1.heap.size := by omega); (try have hw21 : w.heap.size + 1 + 1 < w1.heap.size := by omega)) | (go_at_call 114; refine (HCl.out _ (by (repeat' (first | (with_reducible exact Below.refl _ _) | (with_reducible refine below_alloc ?_) | (with_reducible refine below_drew ?_) | (with_reducible refine below_drewN ?_) | (with_reducible refine below_set (by simp; omega) ?_) | (with_reducible refine below_call (by with_reducible assumption) ?_))))).mono ?_; rintro e w2 ⟨rfl, hb2⟩; obtain ⟨hc2, hf2⟩ := bcell hb2; have hz2 := hb2.size; (try simp at hz2); (try have hw02 : w.heap.size < w2.heap.size := by omega); (try have hw12 : w.heap.size + 1 < w2.heap.size := by omega); (try have hw22 : w.heap.size + 1 + 1 < w2.heap.size := by omega)))
  have hW2 : Below w.heap.size w w2 := by (repeat' (first | (with_reducible exact Below.refl _ _) | (with_reducible refine below_alloc ?_) | (with_reducible refine below_drew ?_) | (with_reducible refine below_drewN ?_) | (with_reducible refine below_set (by simp; omega) ?_) | (with_reducible refine below_call (by with_reducible assumption) ?_)))
  have hbx : w2.heap[w.heap.size]? = some (.cells #[.string x.name, .slice At x.types.length ct, .slice Af x.first.length cf, vi, vo, .slice Ac x.code.length cc] 26 (0, 0)) := by
    refine (hb2.block w.heap.size (by omega)).trans ((hb1.block w.heap.size (by simp)).trans ?_)
    exact heap_alloc_new _ _
  have HBX := Lib.hid hbx
  have hxw2 : w.heap.size < w2.heap.size := (Array.getElem?_eq_some_iff.1 hbx).1
  clear hbx
  go_loopg [4] x.types.length (fun gg s4 wr => ∃ k : Nat, s4 = .int .i64 k ∧ k ≤ x.types.length ∧ x.types.length - k ≤ gg ∧ Aside (Below w2.heap.size w2 wr) ∧ Aside (fitsAll (x.types.drop k) (x.first.drop k) = fitsAll x.types x.first))
  case atStart => exact ⟨0, rfl, Nat.zero_le _, by omega, (show Aside _ from Below.refl _ _), rfl⟩
  case round =>
    obtain ⟨k, rfl, hk, hg, HB, HF⟩ := hrel
    have hB := HB.out
    have hbr := (hB.block w.heap.size hxw2).trans HBX.out
    have r1 : wr.cell? ⟨w.heap.size, 1, none⟩ = some (.slice At x.types.length ct) := cell_of_row _ _ 1 _ _ _ hbr
    have r2 : wr.cell? ⟨w.heap.size, 2, none⟩ = some (.slice Af x.first.length cf) := cell_of_row _ _ 2 _ _ _ hbr
    have r5 : wr.cell? ⟨w.heap.size, 5, none⟩ = some (.slice Ac x.code.length cc) := cell_of_row _ _ 5 _ _ _ hbr
    clear hbr
    by_cases hlt : k < x.types.length
    · have hlt' : k < x.first.length := by have := E2.out; omega
      obtain ⟨t, ht⟩ : ∃ t, x.types[k]? = some t := ⟨x.types[k], List.getElem?_eq_getElem hlt⟩
      obtain ⟨n, hn'⟩ : ∃ n, x.first[k]? = some n := ⟨x.first[k], List.getElem?_eq_getElem hlt'⟩
      obtain ⟨b, off, rfl, hbt, hcx⟩ := HCT.out k t ht
      obtain ⟨b', off', rfl, hbf, hcy⟩ := HCF.out k n hn'
      have HFD := Lib.hid (fitsAll_drop ht hn')
      clear ht hn'
      have hltz : (k : Int) < (x.types.length : Int) := by omega
      have hltz' : (k : Int) < (x.first.length : Int) := by omega
      have hk0 : (0 : Int) ≤ (k : Int) := Int.natCast_nonneg _
      have hBw := below_call hB hW2
      have c0 : wr.cell? ⟨b, off + k, none⟩ = some (.int .i64 t) := (hBw.cell (p := ⟨b, off + k, none⟩) hbt).trans (by simpa using hcx 0 _ rfl)
      have d0 : wr.cell? ⟨b', off' + k, none⟩ = some (.int .i64 n) := (hBw.cell (p := ⟨b', off' + k, none⟩) hbf).trans (by simpa using hcy 0 _ rfl)
      clear hcx hcy
      cases hq : fits t n with
      | true =>
        have HN := Lib.hid (show fitsAll (x.types.drop (k + 1)) (x.first.drop (k + 1)) = fitsAll x.types x.first by rw [← HF.out, HFD.out, hq, Bool.true_and])
        go_upto_region 6 with fail
        go_quiet ((go_at_call 115; exact Calls.quiet_of_same (rfits_q _ _ _)))
        go_wp2
        go_roundg (x.types.length - (k + 1))
        case measure => omega
        case rel => exact ⟨k + 1, by go_num, by omega, by omega, below_drewN hB, HN.out⟩
      | false =>
        have HR := Lib.hid (bad_sound (x := x) (by rw [HS.out, ← HF.out, HFD.out, hq]; rfl))
        go_upto_region 6 with fail
        go_quiet ((go_at_call 115; exact Calls.quiet_of_same (rfits_q _ _ _)))
        go_wp2
        go_ret2
        exact ⟨by rw [HR.out]; rfl, by (repeat' (first | (with_reducible exact Below.refl _ _) | (with_reducible refine below_alloc ?_) | (with_reducible refine below_drew ?_) | (with_reducible refine below_drewN ?_) | (with_reducible refine below_set (by simp; omega) ?_) | (with_reducible refine below_call (by with_reducible assumption) ?_)))⟩
    · obtain rfl : k = x.types.length := by omega
      have hltz : ¬ (x.types.length : Int) < (x.types.length : Int) := by omega
      have hT : soundR x = true := by
        rw [HS.out, ← HF.out, List.drop_length, E2.out, List.drop_length]
        rfl
      have HCK := Lib.hid (show codeCheck x = if 0 ≤ idxP (fun i => !mayIns x i) x.code 0 then (idxP (fun i => !mayIns x i) x.code 0, 130) else (0, 0) by
        unfold codeCheck
        rw [sound_eq, hT]
        rfl)
      clear hT
      go_wp2
      go_loopg [5] x.code.length (fun gg s5 wr => ∃ k : Nat, s5 = .int .i64 k ∧ k ≤ x.code.length ∧ x.code.length - k ≤ gg ∧ Aside (Below w2.heap.size w2 wr) ∧ Aside (idxP (fun i => !mayIns x i) (x.code.drop k) k = idxP (fun i => !mayIns x i) x.code 0))
      case atStart => exact ⟨0, rfl, Nat.zero_le _, by omega, (show Aside _ from hB), rfl⟩
      case round =>
        obtain ⟨k, rfl, hk, hgk, HB2, HI⟩ := hrel
        have hB2 := HB2.out
        have hbr := (hB2.block w.heap.size hxw2).trans HBX.out
        have r0 : wr.cell? ⟨w.heap.size, 0, none⟩ = some (.string x.name) := cell_of_row _ _ 0 _ _ _ hbr
        have r1 : wr.cell? ⟨w.heap.size, 1, none⟩ = some (.slice At x.types.length ct) := cell_of_row _ _ 1 _ _ _ hbr
        have r2 : wr.cell? ⟨w.heap.size, 2, none⟩ = some (.slice Af x.first.length cf) := cell_of_row _ _ 2 _ _ _ hbr
        have r3 : wr.cell? ⟨w.heap.size, 3, none⟩ = some vi := cell_of_row _ _ 3 _ _ _ hbr
        have r4 : wr.cell? ⟨w.heap.size, 4, none⟩ = some vo := cell_of_row _ _ 4 _ _ _ hbr
        have r5 : wr.cell? ⟨w.heap.size, 5, none⟩ = some (.slice Ac x.code.length cc) := cell_of_row _ _ 5 _ _ _ hbr
        have hxwr : w.heap.size < wr.heap.size := (Array.getElem?_eq_some_iff.1 hbr).1
        clear hbr
        by_cases hlk : k < x.code.length
        · have hlkz : (k : Int) < (x.code.length : Int) := by omega
          have hk0 : (0 : Int) ≤ (k : Int) := Int.natCast_nonneg _
          obtain ⟨ii, hii⟩ : ∃ ii, x.code[k]? = some ii := ⟨x.code[k], List.getElem?_eq_getElem hlk⟩
          have hiok := hi ii (List.mem_of_getElem? hii)
          obtain ⟨b, off, rfl, hbc, hcx⟩ := HCC.out k ii hii
          have HID := Lib.hid (idxP_drop (p := fun i => !mayIns x i) hii)
          have hBw := below_call hB2 hW2
          have hbwr : b < wr.heap.size := Nat.lt_of_lt_of_le hbc hBw.size
          have i0 : wr.cell? ⟨b, off + k * 4, none⟩ = some (.int .i64 ii.op) := (hBw.cell (p := ⟨b, off + k * 4, none⟩) hbc).trans (by simpa using hcx 0 _ rfl)
          have i1 : wr.cell? ⟨b, off + k * 4 + 1, none⟩ = some (.int .i64 ii.a) := (hBw.cell (p := ⟨b, off + k * 4 + 1, none⟩) hbc).trans (by simpa using hcx 1 _ rfl)
          have i2 : wr.cell? ⟨b, off + k * 4 + 2, none⟩ = some (.int .i64 ii.b) := (hBw.cell (p := ⟨b, off + k * 4 + 2, none⟩) hbc).trans (by simpa using hcx 2 _ rfl)
          have i3 : wr.cell? ⟨b, off + k * 4 + 3, none⟩ = some (.int .i64 ii.n) := (hBw.cell (p := ⟨b, off + k * 4 + 3, none⟩) hbc).trans (by simpa using hcx 3 _ rfl)
          have HM := Lib.hid (by have h := rmay_c x _ ii wr.drew (HX.out.below (below_drew hBw)) hiok; rw [← may_eq] at h; exact h : Calls Tryz.prog 116 #[.agg #[.string x.name, .slice At x.types.length ct, .slice Af x.first.length cf, vi, vo, .slice (some ⟨b, off, none⟩) x.code.length cc], insV ii] wr.drew fun e w' => e = .returned (.bool (mayIns x ii)) ∧ Below wr.drew.heap.size wr.drew w')
          have HK := Lib.hid (show ∀ W, Below wr.heap.size wr.drew W → (W.cell? ⟨w.heap.size, 0, none⟩ = some (.string x.name) ∧ W.cell? ⟨w.heap.size, 1, none⟩ = some (.slice At x.types.length ct) ∧ W.cell? ⟨w.heap.size, 2, none⟩ = some (.slice Af x.first.length cf) ∧ W.cell? ⟨w.heap.size, 3, none⟩ = some vi ∧ W.cell? ⟨w.heap.size, 4, none⟩ = some vo ∧ W.cell? ⟨w.heap.size, 5, none⟩ = some (.slice (some ⟨b, off, none⟩) x.code.length cc) ∧ W.cell? ⟨b, off + k * 4, none⟩ = some (.int .i64 ii.op) ∧ W.cell? ⟨b, off + k * 4 + 1, none⟩ = some (.int .i64 ii.a) ∧ W.cell? ⟨b, off + k * 4 + 2, none⟩ = some (.int .i64 ii.b) ∧ W.cell? ⟨b, off + k * 4 + 3, none⟩ = some (.int .i64 ii.n)) from fun W hW =>
            ⟨(hW.cell (p := ⟨w.heap.size, 0, none⟩) hxwr).trans r0, (hW.cell (p := ⟨w.heap.size, 1, none⟩) hxwr).trans r1, (hW.cell (p := ⟨w.heap.size, 2, none⟩) hxwr).trans r2, (hW.cell (p := ⟨w.heap.size, 3, none⟩) hxwr).trans r3, (hW.cell (p := ⟨w.heap.size, 4, none⟩) hxwr).trans r4, (hW.cell (p := ⟨w.heap.size, 5, none⟩) hxwr).trans r5,
              (hW.cell (p := ⟨b, off + k * 4, none⟩) hbwr).trans i0, (hW.cell (p := ⟨b, off + k * 4 + 1, none⟩) hbwr).trans i1, (hW.cell (p := ⟨b, off + k * 4 + 2, none⟩) hbwr).trans i2, (hW.cell (p := ⟨b, off + k * 4 + 3, none⟩) hbwr).trans i3⟩)
          clear hcx hii hiok
          cases hq : mayIns x ii with
          | true =>
            rw [hq] at HM
            have HN := Lib.hid (show idxP (fun i => !mayIns x i) (x.code.drop (k + 1)) ((k + 1 : Nat) : Int) = idxP (fun i => !mayIns x i) x.code 0 by
              rw [← HI.out, HID.out]
              simp [hq])
            go_upto_region 11 with fail
            go_region_held3 (fun W => W.cell? ⟨w.heap.size, 0, none⟩ = some (.string x.name) ∧ W.cell? ⟨w.heap.size, 1, none⟩ = some (.slice At x.types.length ct) ∧ W.cell? ⟨w.heap.size, 2, none⟩ = some (.slice Af x.first.length cf) ∧ W.cell? ⟨w.heap.size, 3, none⟩ = some vi ∧ W.cell? ⟨w.heap.size, 4, none⟩ = some vo ∧ W.cell? ⟨w.heap.size, 5, none⟩ = some (.slice (some ⟨b, off, none⟩) x.code.length cc) ∧ W.cell? ⟨b, off + k * 4, none⟩ = some (.int .i64 ii.op) ∧ W.cell? ⟨b, off + k * 4 + 1, none⟩ = some (.int .i64 ii.a) ∧ W.cell? ⟨b, off + k * 4 + 2, none⟩ = some (.int .i64 ii.b) ∧ W.cell? ⟨b, off + k * 4 + 3, none⟩ = some (.int .i64 ii.n)) (first | exact HK.out _ (Below.refl _ _) | exact HK.out _ hb9) (first | (go_at_call 116; refine HM.out.mono ?_; rintro e w9 ⟨rfl, hb9⟩))
            all_goals go_wp2
            all_goals go_roundg (x.code.length - (k + 1))
            all_goals first | omega | exact ⟨k + 1, by go_num, by omega, by omega, below_call hb9 (below_drew hB2), HN.out⟩
          | false =>
            rw [hq] at HM
            have HR := Lib.hid (show codeCheck x = ((k : Int), 130) by
              have h : idxP (fun i => !mayIns x i) x.code 0 = (k : Int) := by
                rw [← HI.out, HID.out]
                simp [hq]
              rw [HCK.out, h, if_pos hk0])
            go_upto_region 11 with fail
            go_region_held3 (fun W => W.cell? ⟨w.heap.size, 0, none⟩ = some (.string x.name) ∧ W.cell? ⟨w.heap.size, 1, none⟩ = some (.slice At x.types.length ct) ∧ W.cell? ⟨w.heap.size, 2, none⟩ = some (.slice Af x.first.length cf) ∧ W.cell? ⟨w.heap.size, 3, none⟩ = some vi ∧ W.cell? ⟨w.heap.size, 4, none⟩ = some vo ∧ W.cell? ⟨w.heap.size, 5, none⟩ = some (.slice (some ⟨b, off, none⟩) x.code.length cc) ∧ W.cell? ⟨b, off + k * 4, none⟩ = some (.int .i64 ii.op) ∧ W.cell? ⟨b, off + k * 4 + 1, none⟩ = some (.int .i64 ii.a) ∧ W.cell? ⟨b, off + k * 4 + 2, none⟩ = some (.int .i64 ii.b) ∧ W.cell? ⟨b, off + k * 4 + 3, none⟩ = some (.int .i64 ii.n)) (first | exact HK.out _ (Below.refl _ _) | exact HK.out _ hb9) (first | (go_at_call 116; refine HM.out.mono ?_; rintro e w9 ⟨rfl, hb9⟩))
            all_goals go_wp2
            all_goals go_ret2
            all_goals exact ⟨by rw [HR.out]; rfl, below_call hb9 (below_drew (below_call hB2 hW2))⟩
        · obtain rfl : k = x.code.length := by omega
          have hlkz : ¬ (x.code.length : Int) < (x.code.length : Int) := by omega
          have HR := Lib.hid (show codeCheck x = (0, 0) by
            have h := HI.out
            rw [List.drop_length] at h
            rw [HCK.out, ← h]
            rfl)
          go_wp2
          go_ret2
          exact ⟨by rw [HR.out]; rfl, by (repeat' (first | (with_reducible exact Below.refl _ _) | (with_reducible refine below_alloc ?_) | (with_reducible refine below_drew ?_) | (with_reducible refine below_drewN ?_) | (with_reducible refine below_set (by simp; omega) ?_) | (with_reducible refine below_call (by with_reducible assumption) ?_)))⟩
end Go.Proofs.YtefpgjocfgeenaaGreatDoor
