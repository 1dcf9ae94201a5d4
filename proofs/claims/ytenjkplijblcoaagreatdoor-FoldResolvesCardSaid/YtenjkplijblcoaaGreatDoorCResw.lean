/- FoldNames: what is resolved, and what is folded, names what was named. -/
import Derived.Test.YtenjkplijblcoaaGreatDoorCTyp
import Derived.Test.YtenjkplijblcoaaGreatDoorCVal
import Derived.Test.YtenjkplijblcoaaGreatDoorCRfold
set_option linter.unusedSimpArgs false
set_option linter.unusedVariables false
namespace Cap
open Go Go.RowKit
theorem namesL_of {x y : List Prt} (h : keysOf x = keysOf y) : namesL x = namesL y := by
  unfold namesL namesD
  rw [h]
end Cap
namespace Go.Proofs.YtenjkplijblcoaaGreatDoor
open Go.RowKit Cap Go.Maps Go.Sort
set_option maxRecDepth 100000

theorem noS_size {s : ByteArray} (h : noS s = true) : s.size ≤ 24 := by
  unfold noS at h
  rw [ByteArray.toList_eq, List.isEmpty_iff] at h
  have h2 : s.size = s.data.toList.length := by simp
  rw [h2, h]
  decide
theorem word_size {s : ByteArray} (h : isWord s = true) : s.size ≤ 24 := by
  unfold isWord at h
  simp only [Bool.and_eq_true, decide_eq_true_eq] at h
  exact h.1.1.2
theorem name_size {s : ByteArray} (h : isName s = true) : s.size ≤ 24 := by
  unfold isName at h
  rw [Bool.and_eq_true] at h
  exact word_size h.1
theorem may_ok {p : Prt} (h : mayP p = true) : PrtOk p := by
  have key : p.s.size ≤ 24 ∧ p.f.size ≤ 24 := by
    unfold mayP at h
    by_cases h1 : p.k = 1
    · rw [if_pos h1] at h
      simp only [Bool.and_eq_true] at h
      exact ⟨noS_size h.2.1, noS_size h.2.2⟩
    rw [if_neg h1] at h
    by_cases h2 : p.k = 2 ∨ p.k = 3
    · rw [if_pos h2] at h
      simp only [Bool.and_eq_true] at h
      exact ⟨name_size h.1, noS_size h.2.2⟩
    rw [if_neg h2] at h
    by_cases h4 : p.k = 4
    · rw [if_pos h4] at h
      simp only [Bool.and_eq_true] at h
      exact ⟨name_size h.1.1, word_size h.1.2⟩
    rw [if_neg h4] at h
    by_cases h5 : p.k = 5
    · rw [if_pos h5] at h
      simp only [Bool.and_eq_true] at h
      exact ⟨noS_size h.2.1.2, noS_size h.2.2⟩
    · rw [if_neg h5] at h
      simp only [Bool.and_eq_true] at h
      exact ⟨noS_size h.2.1.2, noS_size h.2.2⟩
  exact ⟨by omega, by omega⟩
theorem encSt_len : ∀ s, (encSt s).length = 1 := fun _ => rfl
set_option maxHeartbeats 8000000 in
theorem foldNames_c (vars : List Vr) (x : List Prt) (t : Int) (vv vx : Value) (w : World) (hs : Sl encVr 5 w vv vars) (hvo : ∀ v ∈ vars, VrOk v) (hx : Sl encPrt 5 w vx x) (hpo : ∀ p ∈ x, PrtOk p) (hG : G w) :
    Calls Tryz.prog 7 #[vv, vx, .int .i64 t] w fun e w' => e = .returned (.bool true) ∧ Below w.heap.size w w' := by
  have HWK := Lib.hid (fun W (hW : Below w.heap.size w W) => works_c W (hG.below hW))
  have HRS := Lib.hid (fun W (hW : Below w.heap.size w W) => resolve_c vars x t vv vx W (hs.below hW) hvo (hx.below hW) hpo (hG.below hW))
  have HFD := Lib.hid (fun W (hW : Below w.heap.size w W) => fold_c vars x t vv vx W (hs.below hW) hvo (hx.below hW) hpo (hG.below hW))
  have HNX := Lib.hid (fun W (hW : Below w.heap.size w W) => names_c x vx W (hx.below hW) (hG.below hW) hpo)
  have HNM := Lib.hid (fun (l : List Prt) (v : Value) W (hW : Below w.heap.size w W) (hl : Sl encPrt 5 W v l) (hm : ∀ p ∈ l, mayP p = true) => names_c l v W hl (hG.below hW) (fun p hp => may_ok (hm p hp)))
  obtain ⟨Av, cv, rfl, -, -, -⟩ := hs
  obtain ⟨Ax, cx, rfl, -, -, -⟩ := hx
  unfold ResolveR at HRS
  unfold FoldVR at HFD
  by_cases hf : fitsX vars x t = 0
  case neg =>
    have hb := ne_i hf
    have hn : (fitsX vars x t != 0) = true := by simpa using hf
    simp only [ne_eq, hf, not_false_eq_true, if_true] at HRS HFD
    obtain ⟨e, he⟩ : ∃ e, fitsX vars x t = e := ⟨_, rfl⟩
    rw [he] at HRS HFD hb hn hf
    clear hG hvo hpo he HNX HNM
    go_enter Tryz.func7, Tryz.ntmps7
    go_wp2_with (first | (go_at_call 15; refine (HWK.out _ (by (repeat' (first | (with_reducible exact Below.refl _ _) | (with_reducible refine below_alloc ?_) | (with_reducible refine below_drew ?_) | (with_reducible refine below_drewN ?_) | (with_reducible refine below_set (by first | (simp; done) | (simp; omega)) ?_) | (with_reducible refine below_call (by with_reducible assumption) ?_))))).mono ?_; rintro e' w1 ⟨rfl, hb1⟩) | (go_at_call 9; refine (HRS.out _ (by (repeat' (first | (with_reducible exact Below.refl _ _) | (with_reducible refine below_alloc ?_) | (with_reducible refine below_drew ?_) | (with_reducible refine below_drewN ?_) | (with_reducible refine below_set (by first | (simp; done) | (simp; omega)) ?_) | (with_reducible refine below_call (by with_reducible assumption) ?_))))).mono ?_; rintro e' w2 ⟨rfl, hb2⟩) | (go_at_call 11; refine (HFD.out _ (by (repeat' (first | (with_reducible exact Below.refl _ _) | (with_reducible refine below_alloc ?_) | (with_reducible refine below_drew ?_) | (with_reducible refine below_drewN ?_) | (with_reducible refine below_set (by first | (simp; done) | (simp; omega)) ?_) | (with_reducible refine below_call (by with_reducible assumption) ?_))))).mono ?_; rintro e' w3 ⟨rfl, hb3⟩))
    go_ret
    exact ⟨rfl, by (repeat' (first | (with_reducible exact Below.refl _ _) | (with_reducible refine below_alloc ?_) | (with_reducible refine below_drew ?_) | (with_reducible refine below_drewN ?_) | (with_reducible refine below_set (by first | (simp; done) | (simp; omega)) ?_) | (with_reducible refine below_call (by with_reducible assumption) ?_)))⟩
  obtain ⟨ga, gb, ka, kb, la, lb⟩ := res_good hf
  have hcx := (fits_wrong hf).2
  simp only [ne_eq, hf, not_true_eq_false, if_false] at HRS HFD
  rw [foldX_T] at HFD
  obtain ⟨A, hA⟩ : ∃ A, (askX vars t (treeL x)).flat = A := ⟨_, rfl⟩
  obtain ⟨B, hB⟩ : ∃ B, (foldT (askX vars t (treeL x))).flat = B := ⟨_, rfl⟩
  have ca := ga.chk
  have ma := ga.may
  have cb := gb.chk
  have mb := gb.may
  rw [hA] at HRS ka la ca ma
  rw [hB] at HFD kb lb cb mb
  clear ga gb hA hB hG hvo hpo
  have HMA := Lib.hid ma
  have HMB := Lib.hid mb
  obtain ⟨na, hna⟩ : ∃ n, A.length = n := ⟨_, rfl⟩
  obtain ⟨nb, hnb⟩ : ∃ n, B.length = n := ⟨_, rfl⟩
  have HNA := Lib.hid hna
  have HNB := Lib.hid hnb
  rw [hna] at HRS
  rw [hnb] at HFD
  have HNX := Lib.hid (fun W hW => by have h := HNX.out W hW; unfold NamesR at h; rw [hcx] at h; simp only [ne_eq, not_true_eq_false, if_false] at h; exact h)
  have HNA2 := Lib.hid (fun v W hW hl => by have h := HNM.out A v W hW hl ma; unfold NamesR at h; rw [ca, namesL_of ka] at h; simp only [ne_eq, not_true_eq_false, if_false] at h; exact h)
  have HNB2 := Lib.hid (fun v W hW hl => by have h := HNM.out B v W hW hl mb; unfold NamesR at h; rw [cb, namesL_of kb] at h; simp only [ne_eq, not_true_eq_false, if_false] at h; exact h)
  obtain ⟨l, hl⟩ : ∃ l, namesL x = l := ⟨_, rfl⟩
  rw [hl] at HNX HNA2 HNB2
  clear hl HNM ma mb ca cb ka kb hna hnb la lb hcx
  go_enter Tryz.func7, Tryz.ntmps7
  go_wp2_with (first
    | (go_at_call 15; refine (HWK.out _ (by (repeat' (first | (with_reducible exact Below.refl _ _) | (with_reducible refine below_alloc ?_) | (with_reducible refine below_drew ?_) | (with_reducible refine below_drewN ?_) | (with_reducible refine below_set (by first | (simp; done) | (simp; omega)) ?_) | (with_reducible refine below_call (by with_reducible assumption) ?_))))).mono ?_; rintro e' w1 ⟨rfl, hb1⟩)
    | (go_at_call 9; refine (HRS.out _ (by (repeat' (first | (with_reducible exact Below.refl _ _) | (with_reducible refine below_alloc ?_) | (with_reducible refine below_drew ?_) | (with_reducible refine below_drewN ?_) | (with_reducible refine below_set (by first | (simp; done) | (simp; omega)) ?_) | (with_reducible refine below_call (by with_reducible assumption) ?_))))).mono ?_; rintro e' w2 ⟨⟨va, rfl, hoa⟩, hb2⟩; have HOA := Lib.hid (Sl.own encPrt_len hoa HNA.out.symm); obtain ⟨Aa, ca, rfl⟩ := own_slice hoa)
    | (go_at_call 11; refine (HFD.out _ (by (repeat' (first | (with_reducible exact Below.refl _ _) | (with_reducible refine below_alloc ?_) | (with_reducible refine below_drew ?_) | (with_reducible refine below_drewN ?_) | (with_reducible refine below_set (by first | (simp; done) | (simp; omega)) ?_) | (with_reducible refine below_call (by with_reducible assumption) ?_))))).mono ?_; rintro e' w3 ⟨⟨vb, rfl, hob⟩, hb3⟩; have HOB := Lib.hid (Sl.own encPrt_len hob HNB.out.symm); obtain ⟨Ab, cb, rfl⟩ := own_slice hob; clear HRS HFD HWK hoa hob)
    | (go_at_call_of 22 (Value.slice Ax x.length cx); refine (HNX.out _ (by (repeat' (first | (with_reducible exact Below.refl _ _) | (with_reducible refine below_alloc ?_) | (with_reducible refine below_drew ?_) | (with_reducible refine below_drewN ?_) | (with_reducible refine below_set (by first | (simp; done) | (simp; omega)) ?_) | (with_reducible refine below_call (by with_reducible assumption) ?_))))).mono ?_; rintro e' w4 ⟨⟨v4, rfl, ho4, -⟩, hb4⟩; have HS4 := Lib.hid (Sl.own encSt_len ho4 rfl); obtain ⟨A4, c4, rfl⟩ := own_slice ho4; clear ho4 HNX)
    | (go_at_call_of 22 (Value.slice Aa na ca); refine (HNA2.out _ _ (by (repeat' (first | (with_reducible exact Below.refl _ _) | (with_reducible refine below_alloc ?_) | (with_reducible refine below_drew ?_) | (with_reducible refine below_drewN ?_) | (with_reducible refine below_set (by first | (simp; done) | (simp; omega)) ?_) | (with_reducible refine below_call (by with_reducible assumption) ?_)))) (HOA.out.below (by (repeat' (first | (with_reducible exact Below.refl _ _) | (with_reducible refine below_alloc ?_) | (with_reducible refine below_drew ?_) | (with_reducible refine below_drewN ?_) | (with_reducible refine below_set (by first | (simp; done) | (simp; omega)) ?_) | (with_reducible refine below_call (by with_reducible assumption) ?_)))))).mono ?_; rintro e' w5 ⟨⟨v5, rfl, ho5, -⟩, hb5⟩; have HS5 := Lib.hid (Sl.own encSt_len ho5 rfl); obtain ⟨A5, c5, rfl⟩ := own_slice ho5; clear ho5 HNA2)
    | (go_at_call_of 22 (Value.slice Ab nb cb); refine (HNB2.out _ _ (by (repeat' (first | (with_reducible exact Below.refl _ _) | (with_reducible refine below_alloc ?_) | (with_reducible refine below_drew ?_) | (with_reducible refine below_drewN ?_) | (with_reducible refine below_set (by first | (simp; done) | (simp; omega)) ?_) | (with_reducible refine below_call (by with_reducible assumption) ?_)))) (HOB.out.below (by (repeat' (first | (with_reducible exact Below.refl _ _) | (with_reducible refine below_alloc ?_) | (with_reducible refine below_drew ?_) | (with_reducible refine below_drewN ?_) | (with_reducible refine below_set (by first | (simp; done) | (simp; omega)) ?_) | (with_reducible refine below_call (by with_reducible assumption) ?_)))))).mono ?_; rintro e' w6 ⟨⟨v6, rfl, ho6, -⟩, hb6⟩; have HS6 := Lib.hid (Sl.own encSt_len ho6 rfl); obtain ⟨A6, c6, rfl⟩ := own_slice ho6; clear ho6 HNB2))
  have HB6 := Lib.hid (show Below w.heap.size w w6 by (repeat' (first | (with_reducible exact Below.refl _ _) | (with_reducible refine below_alloc ?_) | (with_reducible refine below_drew ?_) | (with_reducible refine below_drewN ?_) | (with_reducible refine below_set (by first | (simp; done) | (simp; omega)) ?_) | (with_reducible refine below_call (by with_reducible assumption) ?_))))
  have hmax : l.length ≤ 9223372036854775807 := by
    obtain ⟨_, _, hve, h1, h2, -⟩ := HS4.out
    omega
  have hcell : ∀ (W : World) (A : Option Addr) (c : Nat), Sl encSt 1 W (.slice A l.length c) l → Below W.heap.size W w6 → ∀ k s, l[k]? = some s → ∃ b o, A = some ⟨b, o, none⟩ ∧ w6.cell? ⟨b, o + k, none⟩ = some (encStr s) := fun W A c hS hb k s hk => by
    obtain ⟨_, _, hve, -, -, h3⟩ := hS
    injection hve with e1 e2 e3
    subst e1
    obtain ⟨b, o, rfl, hlt, hc⟩ := h3 k s hk
    have h0 := hc 0 (encStr s) rfl
    rw [Nat.mul_one, Nat.add_zero] at h0
    exact ⟨b, o, rfl, (hb.cell (p := ⟨b, o + k, none⟩) hlt).trans h0⟩
  have HC4 := Lib.hid (hcell w4 A4 c4 HS4.out (by (repeat' (first | (with_reducible exact Below.refl _ _) | (with_reducible refine below_alloc ?_) | (with_reducible refine below_drew ?_) | (with_reducible refine below_drewN ?_) | (with_reducible refine below_set (by first | (simp; done) | (simp; omega)) ?_) | (with_reducible refine below_call (by with_reducible assumption) ?_)))))
  have HC5 := Lib.hid (hcell w5 A5 c5 HS5.out (by (repeat' (first | (with_reducible exact Below.refl _ _) | (with_reducible refine below_alloc ?_) | (with_reducible refine below_drew ?_) | (with_reducible refine below_drewN ?_) | (with_reducible refine below_set (by first | (simp; done) | (simp; omega)) ?_) | (with_reducible refine below_call (by with_reducible assumption) ?_)))))
  have HC6 := Lib.hid (hcell w6 A6 c6 HS6.out (Below.refl _ _))
  have HL := Lib.hid (show ∀ k, k < l.length → ∃ s, l[k]? = some s from fun k hk => ⟨l[k], List.getElem?_eq_getElem hk⟩)
  obtain ⟨L, hL⟩ : ∃ L, l.length = L := ⟨_, rfl⟩
  rw [hL] at HL hmax ⊢
  clear hcell HS4 HS5 HS6 hL HOA HOB HMA HMB HNA HNB hb1 hb2 hb3 hb4 hb5 hb6
  go_loopg [17, 81] L (fun gg s17 s81 wr => ∃ k : Nat, s17 = .int .i64 k ∧ s81 = .int .i64 k ∧ k ≤ L ∧ L - k ≤ gg ∧ Aside (Below w6.heap.size w6 wr))
  case atStart => exact ⟨0, rfl, rfl, Nat.zero_le _, by omega, (show Below w6.heap.size w6 w6 from Below.refl _ _)⟩
  case round =>
    obtain ⟨k, rfl, rfl, hk, hg, HBR⟩ := hrel
    by_cases hlt : k < L
    · obtain ⟨s, hs⟩ := HL.out k hlt
      obtain ⟨b4, o4, rfl, h4⟩ := HC4.out k s hs
      obtain ⟨b5, o5, rfl, h5⟩ := HC5.out k s hs
      obtain ⟨b6, o6, rfl, h6⟩ := HC6.out k s hs
      obtain ⟨S, hS⟩ : ∃ S, encStr s = Value.string S := ⟨_, rfl⟩
      rw [hS] at h4 h5 h6
      have h4 := (HBR.out.cell (p := ⟨b4, o4 + k, none⟩) (World.block_lt_of_cell? _ _ h4)).trans h4
      have h5 := (HBR.out.cell (p := ⟨b5, o5 + k, none⟩) (World.block_lt_of_cell? _ _ h5)).trans h5
      have h6 := (HBR.out.cell (p := ⟨b6, o6 + k, none⟩) (World.block_lt_of_cell? _ _ h6)).trans h6
      have hltz : (k : Int) < (L : Int) := by omega
      have hk0 : (0 : Int) ≤ (k : Int) := Int.natCast_nonneg _
      clear hS hs HC4 HC5 HC6
      go_upto_region 16 with fail
      go_region_held3 (fun W => W.cell? ⟨b5, o5 + k, none⟩ = some (.string S) ∧ W.cell? ⟨b4, o4 + k, none⟩ = some (.string S)) (first | exact ⟨h5, h4⟩) (first | fail)
      go_wp2
      go_region_held3 (fun W => W.cell? ⟨b6, o6 + k, none⟩ = some (.string S) ∧ W.cell? ⟨b4, o4 + k, none⟩ = some (.string S)) (first | exact ⟨h6, h4⟩) (first | fail)
      go_wp2
      go_roundg (L - (k + 1))
      case measure => omega
      case rel =>
        exact ⟨k + 1, by go_num, by go_num, by omega, by omega, (show Below w6.heap.size w6 _ from below_call (by (repeat' (first | (with_reducible exact Below.refl _ _) | (with_reducible refine below_alloc ?_) | (with_reducible refine below_drew ?_) | (with_reducible refine below_drewN ?_) | (with_reducible refine below_set (by first | (simp; done) | (simp; omega)) ?_) | (with_reducible refine below_call (by with_reducible assumption) ?_)))) HBR.out)⟩
    · obtain rfl : k = L := by omega
      have hltz : ¬ (k : Int) < (k : Int) := by omega
      go_wp2
      go_ret
      exact ⟨rfl, below_call (by (repeat' (first | (with_reducible exact Below.refl _ _) | (with_reducible refine below_alloc ?_) | (with_reducible refine below_drew ?_) | (with_reducible refine below_drewN ?_) | (with_reducible refine below_set (by first | (simp; done) | (simp; omega)) ?_) | (with_reducible refine below_call (by with_reducible assumption) ?_)))) (below_call HBR.out HB6.out)⟩
end Go.Proofs.YtenjkplijblcoaaGreatDoor

/- capstanbook.SameParts, of the same parts. -/
namespace Go.Proofs.YtenjkplijblcoaaGreatDoor
open Go.RowKit Cap
set_option maxRecDepth 100000

set_option maxHeartbeats 4000000 in
theorem same_c (x : List Prt) (v v' : Value) (w : World) (h : Sl encPrt 5 w v x) (h' : Sl encPrt 5 w v' x) :
    Calls Tryz.prog 13 #[v, v'] w fun e w' => e = .returned (.bool true) ∧ Below w.heap.size w w' := by
  obtain ⟨A, c, rfl, h1, h2, h3⟩ := h
  obtain ⟨A', c', rfl, h1', h2', h3'⟩ := h'
  have HC := Lib.hid h3
  have HC' := Lib.hid h3'
  have HL := Lib.hid (show ∀ k, k < x.length → ∃ s, x[k]? = some s from fun k hk => ⟨x[k], List.getElem?_eq_getElem hk⟩)
  obtain ⟨L, hL⟩ : ∃ L, x.length = L := ⟨_, rfl⟩
  have hmax : L ≤ 9223372036854775807 := by omega
  rw [hL] at HL ⊢
  clear h1 h2 h3 h1' h2' h3' hL
  go_enter Tryz.func13, Tryz.ntmps13
  go_wp2
  go_loopg [5] L (fun gg s5 wr => ∃ k : Nat, s5 = .int .i64 k ∧ k ≤ L ∧ L - k ≤ gg ∧ Aside (Below w.heap.size w wr))
  case atStart => exact ⟨0, rfl, Nat.zero_le _, by omega, (show Below w.heap.size w _ from by (repeat' (first | (with_reducible exact Below.refl _ _) | (with_reducible refine below_alloc ?_) | (with_reducible refine below_drew ?_) | (with_reducible refine below_drewN ?_) | (with_reducible refine below_set (by first | (simp; done) | (simp; omega)) ?_) | (with_reducible refine below_call (by with_reducible assumption) ?_))))⟩
  case round =>
    obtain ⟨k, rfl, hk, hg, HB⟩ := hrel
    by_cases hlt : k < L
    · obtain ⟨p, hp⟩ := HL.out k hlt
      obtain ⟨b, o, rfl, hb, hx⟩ := HC.out k p hp
      obtain ⟨b', o', rfl, hd, hy⟩ := HC'.out k p hp
      have hB := HB.out
      have a0 : wr.cell? ⟨b, o + k * 5, none⟩ = some (.int .i64 p.k) := (hB.cell (p := ⟨b, o + k * 5, none⟩) hb).trans (by simpa using hx 0 _ rfl)
      have a1 : wr.cell? ⟨b, o + k * 5 + 1, none⟩ = some (.int .i64 p.n) := (hB.cell (p := ⟨b, o + k * 5 + 1, none⟩) hb).trans (by simpa using hx 1 _ rfl)
      have a2 : wr.cell? ⟨b, o + k * 5 + 2, none⟩ = some (.int .i64 p.t) := (hB.cell (p := ⟨b, o + k * 5 + 2, none⟩) hb).trans (by simpa using hx 2 _ rfl)
      have a3 : wr.cell? ⟨b, o + k * 5 + 3, none⟩ = some (.string p.s) := (hB.cell (p := ⟨b, o + k * 5 + 3, none⟩) hb).trans (by simpa using hx 3 _ rfl)
      have a4 : wr.cell? ⟨b, o + k * 5 + 4, none⟩ = some (.string p.f) := (hB.cell (p := ⟨b, o + k * 5 + 4, none⟩) hb).trans (by simpa using hx 4 _ rfl)
      have d0 : wr.cell? ⟨b', o' + k * 5, none⟩ = some (.int .i64 p.k) := (hB.cell (p := ⟨b', o' + k * 5, none⟩) hd).trans (by simpa using hy 0 _ rfl)
      have d1 : wr.cell? ⟨b', o' + k * 5 + 1, none⟩ = some (.int .i64 p.n) := (hB.cell (p := ⟨b', o' + k * 5 + 1, none⟩) hd).trans (by simpa using hy 1 _ rfl)
      have d2 : wr.cell? ⟨b', o' + k * 5 + 2, none⟩ = some (.int .i64 p.t) := (hB.cell (p := ⟨b', o' + k * 5 + 2, none⟩) hd).trans (by simpa using hy 2 _ rfl)
      have d3 : wr.cell? ⟨b', o' + k * 5 + 3, none⟩ = some (.string p.s) := (hB.cell (p := ⟨b', o' + k * 5 + 3, none⟩) hd).trans (by simpa using hy 3 _ rfl)
      have d4 : wr.cell? ⟨b', o' + k * 5 + 4, none⟩ = some (.string p.f) := (hB.cell (p := ⟨b', o' + k * 5 + 4, none⟩) hd).trans (by simpa using hy 4 _ rfl)
      have hltz : (k : Int) < (L : Int) := by omega
      have hk0 : (0 : Int) ≤ (k : Int) := Int.natCast_nonneg _
      clear hx hy hp hB HC HC'
      go_upto_region 6 with fail
      go_region_held3 (fun W => W.cell? ⟨b, o + k * 5, none⟩ = some (.int .i64 p.k) ∧ W.cell? ⟨b, o + k * 5 + 1, none⟩ = some (.int .i64 p.n) ∧ W.cell? ⟨b, o + k * 5 + 2, none⟩ = some (.int .i64 p.t) ∧ W.cell? ⟨b, o + k * 5 + 3, none⟩ = some (.string p.s) ∧ W.cell? ⟨b, o + k * 5 + 4, none⟩ = some (.string p.f) ∧ W.cell? ⟨b', o' + k * 5, none⟩ = some (.int .i64 p.k) ∧ W.cell? ⟨b', o' + k * 5 + 1, none⟩ = some (.int .i64 p.n) ∧ W.cell? ⟨b', o' + k * 5 + 2, none⟩ = some (.int .i64 p.t) ∧ W.cell? ⟨b', o' + k * 5 + 3, none⟩ = some (.string p.s) ∧ W.cell? ⟨b', o' + k * 5 + 4, none⟩ = some (.string p.f)) (first | exact ⟨a0, a1, a2, a3, a4, d0, d1, d2, d3, d4⟩) (first | fail)
      go_wp2
      go_roundg (L - (k + 1))
      case measure => omega
      case rel =>
        exact ⟨k + 1, by go_num, by omega, by omega, (show Below w.heap.size w _ from below_call (by (repeat' (first | (with_reducible exact Below.refl _ _) | (with_reducible refine below_alloc ?_) | (with_reducible refine below_drew ?_) | (with_reducible refine below_drewN ?_) | (with_reducible refine below_set (by first | (simp; done) | (simp; omega)) ?_) | (with_reducible refine below_call (by with_reducible assumption) ?_)))) HB.out)⟩
    · obtain rfl : k = L := by omega
      have hltz : ¬ (k : Int) < (k : Int) := by omega
      go_wp2
      go_ret
      exact ⟨rfl, below_call (by (repeat' (first | (with_reducible exact Below.refl _ _) | (with_reducible refine below_alloc ?_) | (with_reducible refine below_drew ?_) | (with_reducible refine below_drewN ?_) | (with_reducible refine below_set (by first | (simp; done) | (simp; omega)) ?_) | (with_reducible refine below_call (by with_reducible assumption) ?_)))) HB.out⟩
end Go.Proofs.YtenjkplijblcoaaGreatDoor

/- FoldResolves: the walk. -/
namespace Go.Proofs.YtenjkplijblcoaaGreatDoor
open Go.RowKit Cap
set_option maxRecDepth 100000

def lentP : Prt := ⟨-77, 0, 0, ⟨#[]⟩, ⟨#[]⟩⟩
set_option maxHeartbeats 2000000 in
theorem lend_c (x : List Prt) (vx : Value) (w : World) (hx : Sl encPrt 5 w vx x) (hb : (x.length + 1) * 56 ≤ 140737488355328) :
    Calls Tryz.prog 8 #[vx] w fun e w' => ∃ g c, e = .returned (.slice (some ⟨g, 0, none⟩) x.length c) ∧ w'.ownsRow w.heap.size 38 5 (.slice (some ⟨g, 0, none⟩) (x.length + 1) c) (x.length + 1) ((x ++ [lentP]).flatMap encPrt) ∧ Below w.heap.size w w' := by
  have HX := Lib.hid hx
  obtain ⟨A, c, rfl, -, -, -⟩ := hx
  obtain ⟨L, hL⟩ : ∃ n, x.length = n := ⟨_, rfl⟩
  have HL := Lib.hid hL
  rw [hL] at HX hb ⊢
  have hLm : L + 1 ≤ maxLen := by unfold maxLen; omega
  clear hL
  go_enter Tryz.func8, Tryz.ntmps8
  go_upto_region 3 with (first
    | (at_builtin; refine wpList_app _ rfl (.tmp 4) (.tmp 5) 23 rfl w.heap.size 38 _ 5 56 Tryz.underlying23 info_prt rfl (by decide) encPrt encPrt_len one_Prt (.slice (some ⟨w.heap.size, 0, none⟩) 0 0) 0 [] rfl (World.ownsRow_lit w #[] 0 (Nat.le_refl _) (by decide) (by rfl)) _ x rfl (HX.out.below (below_alloc (Below.refl _ _))) (by rw [HL.out]; omega) (by rw [HL.out]; omega) (by simp) ?_; intro v1 w1 ho1 hg1; have hb1 := below_grown (w := w) (below_alloc (Below.refl _ _)) hg1 (fun g hg => by simp [Value.ownBlock] at hg; omega))
    | (at_builtin; refine wpList_app _ rfl (.tmp 7) (.tmp 9) 23 rfl w.heap.size 38 _ 5 56 Tryz.underlying23 info_prt rfl (by decide) encPrt encPrt_len one_Prt v1 _ _ rfl (own_below ho1 (below_alloc (Below.refl _ _))) _ [lentP] rfl (by refine Sl.lit' ?_ _ _ _ _ _ _ ?_ ?_ ?_ ?_ <;> first | (intro _; rfl) | rfl | decide | (simp; done)) (by rw [HL.out]; simp; omega) (by rw [HL.out]; simp; omega) (by have := hb1.size; simp; omega) ?_; intro v2 w2 ho2 hg2; have hb2 := below_grown (w := w) (below_alloc hb1) hg2 (own_ge ho1 (Nat.le_refl _))))
  have hrow : w2.ownsRow w.heap.size 38 5 v2 (x ++ [lentP]).length ((x ++ [lentP]).flatMap encPrt) := by
    rw [List.flatMap_append, List.length_append]
    rw [Nat.zero_add, List.nil_append] at ho2
    exact ho2
  have HB2 := Lib.hid hb2
  rcases own_form hrow with ⟨rfl, h0⟩ | ⟨g, cap, rfl, hcap, hmax, hgw⟩
  · simp at h0
  · have hl1 : (x ++ [lentP]).length = L + 1 := by rw [List.length_append, HL.out]; rfl
    rw [hl1] at hrow hcap ⊢
    have HR := Lib.hid hrow
    have hz : (L : Int) ≤ (cap : Int) := by omega
    have hz0 : (0 : Int) ≤ (L : Int) := Int.natCast_nonneg _
    clear hrow ho2 ho1 hb1 hb2 hg1 hg2
    go_wp2
    go_ret
    exact ⟨g, cap, rfl, HR.out, HB2.out⟩
set_option maxHeartbeats 2000000 in
theorem kept_c (x : List Prt) (vx : Value) (g c base : Nat) (w : World) (hx : Sl encPrt 5 w vx x) (ho : w.ownsRow base 38 5 (.slice (some ⟨g, 0, none⟩) (x.length + 1) c) (x.length + 1) ((x ++ [lentP]).flatMap encPrt)) :
    Calls Tryz.prog 14 #[.slice (some ⟨g, 0, none⟩) x.length c, vx] w fun e w' => e = .returned (.bool true) ∧ Below w.heap.size w w' := by
  have hall := Sl.own encPrt_len ho (by simp)
  have hpre : Sl encPrt 5 w (.slice (some ⟨g, 0, none⟩) x.length c) x := by
    have h := hall.first (m := x.length) (by simp)
    rwa [List.take_left] at h
  have HS := Lib.hid (fun W (hW : Below w.heap.size w W) => same_c x _ vx W (hpre.below hW) (hx.below hW))
  obtain ⟨A', c', e', h1, h2, hcell⟩ := hall
  obtain ⟨b, off, he, hb, hcx⟩ := hcell x.length lentP (by simp)
  injection e' with e1 e2 e3
  subst e1 e3
  injection he with he
  injection he with e1 e2 _
  subst e1 e2
  have c0 : w.cell? ⟨g, x.length * 5, none⟩ = some (.int .i64 (-77)) := by simpa [encPrt, lentP] using hcx 0 _ rfl
  have HC := Lib.hid (fun W (hW : Below w.heap.size w W) => (hW.cell (p := ⟨g, x.length * 5, none⟩) hb).trans c0)
  obtain ⟨A, cx, rfl, -, -, -⟩ := hx
  have h1' : x.length + 1 ≤ c := by simpa using h1
  obtain ⟨L, hL⟩ : ∃ n, x.length = n := ⟨_, rfl⟩
  rw [hL] at HS HC h1' ⊢
  have hz : ((L : Int) + 1) ≤ (c : Int) := by omega
  have hz1 : (((L + 1 : Nat) : Int)) ≤ (c : Int) := by omega
  have hz0 : (0 : Int) ≤ (L : Int) := Int.natCast_nonneg _
  have hlt : (L : Int) < ((L + 1 : Nat) : Int) := by omega
  clear hcx hcell h1 ho hpre c0 hL e2
  go_enter Tryz.func14, Tryz.ntmps14
  go_wp2_with (go_at_call 13; refine (HS.out _ (by (repeat' (first | (with_reducible exact Below.refl _ _) | (with_reducible refine below_alloc ?_) | (with_reducible refine below_drew ?_) | (with_reducible refine below_drewN ?_) | (with_reducible refine below_set (by first | (simp; done) | (simp; omega)) ?_) | (with_reducible refine below_call (by with_reducible assumption) ?_))))).mono ?_; rintro e w1 ⟨rfl, hb1⟩; have d0 := HC.out w1 (by (repeat' (first | (with_reducible exact Below.refl _ _) | (with_reducible refine below_alloc ?_) | (with_reducible refine below_drew ?_) | (with_reducible refine below_drewN ?_) | (with_reducible refine below_set (by first | (simp; done) | (simp; omega)) ?_) | (with_reducible refine below_call (by with_reducible assumption) ?_)))))
  go_ret
  exact ⟨rfl, by (repeat' (first | (with_reducible exact Below.refl _ _) | (with_reducible refine below_alloc ?_) | (with_reducible refine below_drew ?_) | (with_reducible refine below_drewN ?_) | (with_reducible refine below_set (by first | (simp; done) | (simp; omega)) ?_) | (with_reducible refine below_call (by with_reducible assumption) ?_)))⟩
theorem info_vr : InfoIs Tryz.prog 59 (.agg #[.string ⟨#[]⟩, .int .i64 0, .int .i64 0, .int .i64 0, .int .i64 0]) 5 48 := by unfold InfoIs; kernel_rfl
theorem one_Vr (v : Vr) : ∀ u ∈ encVr v, u.oneCell' = true := fun u hu => by
  simp [encVr] at hu
  rcases hu with rfl | rfl | rfl | rfl | rfl <;> rfl
set_option maxHeartbeats 8000000 in
theorem foldResolves_c (vars : List Vr) (x : List Prt) (t : Int) (vv vx : Value) (w : World) (hs : Sl encVr 5 w vv vars) (hvo : ∀ v ∈ vars, VrOk v) (hx : Sl encPrt 5 w vx x) (hpo : ∀ p ∈ x, PrtOk p) (hlv : vars.length * 48 ≤ 140737488351232) (hlx : x.length * 56 ≤ 140737488351232) (hG : G w) :
    Calls Tryz.prog 3 #[vv, vx, .int .i64 t] w fun e w' => e = .returned (.bool true) ∧ Below w.heap.size w w' := by
  have HWK := Lib.hid (fun W (hW : Below w.heap.size w W) => works_c W (hG.below hW))
  have HRA := Lib.hid (fun (u v : Value) (W : World) (hu : Sl encVr 5 W u vars) (hv : Sl encPrt 5 W v x) (hW : Below w.heap.size w W) => resolve_c vars x t u v W hu hvo hv hpo (hG.below hW))
  have HFA := Lib.hid (fun (u v : Value) (W : World) (hu : Sl encVr 5 W u vars) (hv : Sl encPrt 5 W v x) (hW : Below w.heap.size w W) => fold_c vars x t u v W hu hvo hv hpo (hG.below hW))
  have HRB := Lib.hid (fun W (hW : Below w.heap.size w W) => rresolve_c vars x t vv vx W (hs.below hW) (hx.below hW))
  have HFB := Lib.hid (fun W (hW : Below w.heap.size w W) => rfold_c vars x t vv vx W (hs.below hW) (hx.below hW))
  have HLD := Lib.hid (fun W (hW : Below w.heap.size w W) => lend_c x vx W (hx.below hW) (by omega))
  have HPR := Lib.hid (fun (base g c : Nat) (W : World) (ho : W.ownsRow base 38 5 (.slice (some ⟨g, 0, none⟩) (x.length + 1) c) (x.length + 1) ((x ++ [lentP]).flatMap encPrt)) => (show Sl encPrt 5 W (.slice (some ⟨g, 0, none⟩) x.length c) x from by
    have h := (Sl.own encPrt_len ho (by simp)).first (m := x.length) (by simp)
    rwa [List.take_left] at h))
  have HV := Lib.hid hs
  have HX := Lib.hid hx
  obtain ⟨Av, cv, rfl, -, -, -⟩ := hs
  obtain ⟨Ax, cx, rfl, -, -, -⟩ := hx
  unfold ResolveR at HRA HRB
  unfold FoldVR at HFA
  unfold FoldRR at HFB
  by_cases hf : fitsX vars x t = 0
  case neg =>
    have hb := ne_i hf
    have hn : (fitsX vars x t != 0) = true := by simpa using hf
    simp only [ne_eq, hf, not_false_eq_true, if_true] at HRA HFA HRB HFB
    obtain ⟨e, he⟩ : ∃ e, fitsX vars x t = e := ⟨_, rfl⟩
    rw [he] at HRA HFA HRB HFB hb hn hf
    clear hG hvo hpo he hf
    go_enter Tryz.func3, Tryz.ntmps3
    go_wp2_with (first
      | (at_builtin; refine wpList_app _ rfl (.tmp 17) (.tmp 18) 22 rfl w.heap.size 59 _ 5 48 Tryz.underlying22 info_vr rfl (by decide) encVr encVr_len one_Vr (.slice (some ⟨w.heap.size, 0, none⟩) 0 0) 0 [] rfl (World.ownsRow_lit w #[] 0 (Nat.le_refl _) (by decide) (by rfl)) _ vars rfl (HV.out.below (below_alloc (Below.refl _ _))) (by unfold maxLen; omega) (by omega) (by simp) ?_; intro v1 w1 ho1 hg1; have hb1 := below_grown (w := w) (below_alloc (Below.refl _ _)) hg1 (fun g hg => by simp [Value.ownBlock] at hg; omega); obtain ⟨Ao, co, rfl⟩ := own_slice ho1; have HSO := Lib.hid (show Sl encVr 5 w1 (.slice Ao (0 + vars.length) co) vars from Sl.own encVr_len (by rw [List.nil_append] at ho1; exact ho1) (by omega)); clear ho1 hg1; simp only [Nat.zero_add] at HSO)
      | (go_at_call 8; refine (HLD.out _ (by (repeat' (first | (with_reducible exact Below.refl _ _) | (with_reducible refine below_alloc ?_) | (with_reducible refine below_drew ?_) | (with_reducible refine below_drewN ?_) | (with_reducible refine below_set (by first | (simp; done) | (simp; omega)) ?_) | (with_reducible refine below_call (by with_reducible assumption) ?_))))).mono ?_; rintro e' w2 ⟨g, c, rfl, ho2, hb2⟩; have HO2 := Lib.hid ho2; clear ho2)
      | (go_at_call 9; refine (HRA.out _ _ _ (HSO.out.below (by (repeat' (first | (with_reducible exact Below.refl _ _) | (with_reducible refine below_alloc ?_) | (with_reducible refine below_drew ?_) | (with_reducible refine below_drewN ?_) | (with_reducible refine below_set (by first | (simp; done) | (simp; omega)) ?_) | (with_reducible refine below_call (by with_reducible assumption) ?_))))) (HPR.out _ _ _ _ (own_below HO2.out (by (repeat' (first | (with_reducible exact Below.refl _ _) | (with_reducible refine below_alloc ?_) | (with_reducible refine below_drew ?_) | (with_reducible refine below_drewN ?_) | (with_reducible refine below_set (by first | (simp; done) | (simp; omega)) ?_) | (with_reducible refine below_call (by with_reducible assumption) ?_)))))) (by (repeat' (first | (with_reducible exact Below.refl _ _) | (with_reducible refine below_alloc ?_) | (with_reducible refine below_drew ?_) | (with_reducible refine below_drewN ?_) | (with_reducible refine below_set (by first | (simp; done) | (simp; omega)) ?_) | (with_reducible refine below_call (by with_reducible assumption) ?_))))).mono ?_; rintro e' w3 ⟨rfl, hb3⟩)
      | (go_at_call 10; refine (HRB.out _ (by (repeat' (first | (with_reducible exact Below.refl _ _) | (with_reducible refine below_alloc ?_) | (with_reducible refine below_drew ?_) | (with_reducible refine below_drewN ?_) | (with_reducible refine below_set (by first | (simp; done) | (simp; omega)) ?_) | (with_reducible refine below_call (by with_reducible assumption) ?_))))).mono ?_; rintro e' w4 ⟨rfl, hb4⟩)
      | (go_at_call 11; refine (HFA.out _ _ _ (HSO.out.below (by (repeat' (first | (with_reducible exact Below.refl _ _) | (with_reducible refine below_alloc ?_) | (with_reducible refine below_drew ?_) | (with_reducible refine below_drewN ?_) | (with_reducible refine below_set (by first | (simp; done) | (simp; omega)) ?_) | (with_reducible refine below_call (by with_reducible assumption) ?_))))) (HPR.out _ _ _ _ (own_below HO2.out (by (repeat' (first | (with_reducible exact Below.refl _ _) | (with_reducible refine below_alloc ?_) | (with_reducible refine below_drew ?_) | (with_reducible refine below_drewN ?_) | (with_reducible refine below_set (by first | (simp; done) | (simp; omega)) ?_) | (with_reducible refine below_call (by with_reducible assumption) ?_)))))) (by (repeat' (first | (with_reducible exact Below.refl _ _) | (with_reducible refine below_alloc ?_) | (with_reducible refine below_drew ?_) | (with_reducible refine below_drewN ?_) | (with_reducible refine below_set (by first | (simp; done) | (simp; omega)) ?_) | (with_reducible refine below_call (by with_reducible assumption) ?_))))).mono ?_; rintro e' w5 ⟨rfl, hb5⟩)
      | (go_at_call 12; refine (HFB.out _ (by (repeat' (first | (with_reducible exact Below.refl _ _) | (with_reducible refine below_alloc ?_) | (with_reducible refine below_drew ?_) | (with_reducible refine below_drewN ?_) | (with_reducible refine below_set (by first | (simp; done) | (simp; omega)) ?_) | (with_reducible refine below_call (by with_reducible assumption) ?_))))).mono ?_; rintro e' w6 ⟨rfl, hb6⟩)
      | (go_at_call 13; refine (same_c [] _ _ _ (Sl.nil _ _ _) (Sl.nil _ _ _)).mono ?_; rintro e' w7 ⟨rfl, hb7⟩)
      | (go_at_call 14; refine (kept_c x _ g c _ _ (HX.out.below (by (repeat' (first | (with_reducible exact Below.refl _ _) | (with_reducible refine below_alloc ?_) | (with_reducible refine below_drew ?_) | (with_reducible refine below_drewN ?_) | (with_reducible refine below_set (by first | (simp; done) | (simp; omega)) ?_) | (with_reducible refine below_call (by with_reducible assumption) ?_))))) (own_below HO2.out (by (repeat' (first | (with_reducible exact Below.refl _ _) | (with_reducible refine below_alloc ?_) | (with_reducible refine below_drew ?_) | (with_reducible refine below_drewN ?_) | (with_reducible refine below_set (by first | (simp; done) | (simp; omega)) ?_) | (with_reducible refine below_call (by with_reducible assumption) ?_)))))).mono ?_; rintro e' w9 ⟨rfl, hb9⟩)
      | (go_at_call 15; refine (HWK.out _ (by (repeat' (first | (with_reducible exact Below.refl _ _) | (with_reducible refine below_alloc ?_) | (with_reducible refine below_drew ?_) | (with_reducible refine below_drewN ?_) | (with_reducible refine below_set (by first | (simp; done) | (simp; omega)) ?_) | (with_reducible refine below_call (by with_reducible assumption) ?_))))).mono ?_; rintro e' w10 ⟨rfl, hb10⟩))
    go_ret
    exact ⟨rfl, by (repeat' (first | (with_reducible exact Below.refl _ _) | (with_reducible refine below_alloc ?_) | (with_reducible refine below_drew ?_) | (with_reducible refine below_drewN ?_) | (with_reducible refine below_set (by first | (simp; done) | (simp; omega)) ?_) | (with_reducible refine below_call (by with_reducible assumption) ?_)))⟩
  simp only [ne_eq, hf, not_true_eq_false, if_false] at HRA HFA HRB HFB
  obtain ⟨A, hA⟩ : ∃ A, (askX vars t (treeL x)).flat = A := ⟨_, rfl⟩
  obtain ⟨B, hB⟩ : ∃ B, foldX (askX vars t (treeL x)) = B := ⟨_, rfl⟩
  rw [hA] at HRA HRB
  rw [hB] at HFA HFB
  clear hG hvo hpo hA hB hf
  go_enter Tryz.func3, Tryz.ntmps3
  go_wp2_with (first
    | (at_builtin; refine wpList_app _ rfl (.tmp 17) (.tmp 18) 22 rfl w.heap.size 59 _ 5 48 Tryz.underlying22 info_vr rfl (by decide) encVr encVr_len one_Vr (.slice (some ⟨w.heap.size, 0, none⟩) 0 0) 0 [] rfl (World.ownsRow_lit w #[] 0 (Nat.le_refl _) (by decide) (by rfl)) _ vars rfl (HV.out.below (below_alloc (Below.refl _ _))) (by unfold maxLen; omega) (by omega) (by simp) ?_; intro v1 w1 ho1 hg1; have hb1 := below_grown (w := w) (below_alloc (Below.refl _ _)) hg1 (fun g hg => by simp [Value.ownBlock] at hg; omega); obtain ⟨Ao, co, rfl⟩ := own_slice ho1; have HSO := Lib.hid (show Sl encVr 5 w1 (.slice Ao (0 + vars.length) co) vars from Sl.own encVr_len (by rw [List.nil_append] at ho1; exact ho1) (by omega)); clear ho1 hg1; simp only [Nat.zero_add] at HSO)
    | (go_at_call 8; refine (HLD.out _ (by (repeat' (first | (with_reducible exact Below.refl _ _) | (with_reducible refine below_alloc ?_) | (with_reducible refine below_drew ?_) | (with_reducible refine below_drewN ?_) | (with_reducible refine below_set (by first | (simp; done) | (simp; omega)) ?_) | (with_reducible refine below_call (by with_reducible assumption) ?_))))).mono ?_; rintro e' w2 ⟨g, c, rfl, ho2, hb2⟩; have HO2 := Lib.hid ho2; clear ho2)
    | (go_at_call 9; refine (HRA.out _ _ _ (HSO.out.below (by (repeat' (first | (with_reducible exact Below.refl _ _) | (with_reducible refine below_alloc ?_) | (with_reducible refine below_drew ?_) | (with_reducible refine below_drewN ?_) | (with_reducible refine below_set (by first | (simp; done) | (simp; omega)) ?_) | (with_reducible refine below_call (by with_reducible assumption) ?_))))) (HPR.out _ _ _ _ (own_below HO2.out (by (repeat' (first | (with_reducible exact Below.refl _ _) | (with_reducible refine below_alloc ?_) | (with_reducible refine below_drew ?_) | (with_reducible refine below_drewN ?_) | (with_reducible refine below_set (by first | (simp; done) | (simp; omega)) ?_) | (with_reducible refine below_call (by with_reducible assumption) ?_)))))) (by (repeat' (first | (with_reducible exact Below.refl _ _) | (with_reducible refine below_alloc ?_) | (with_reducible refine below_drew ?_) | (with_reducible refine below_drewN ?_) | (with_reducible refine below_set (by first | (simp; done) | (simp; omega)) ?_) | (with_reducible refine below_call (by with_reducible assumption) ?_))))).mono ?_; rintro e' w3 ⟨⟨va, rfl, hoa⟩, hb3⟩; have HSA := Lib.hid (Sl.own encPrt_len hoa rfl); obtain ⟨Aa, ca, rfl⟩ := own_slice hoa; clear hoa)
    | (go_at_call 10; refine (HRB.out _ (by (repeat' (first | (with_reducible exact Below.refl _ _) | (with_reducible refine below_alloc ?_) | (with_reducible refine below_drew ?_) | (with_reducible refine below_drewN ?_) | (with_reducible refine below_set (by first | (simp; done) | (simp; omega)) ?_) | (with_reducible refine below_call (by with_reducible assumption) ?_))))).mono ?_; rintro e' w4 ⟨⟨vb, rfl, hob⟩, hb4⟩; have HSB := Lib.hid (Sl.own encPrt_len hob rfl); obtain ⟨Ab, cb, rfl⟩ := own_slice hob; clear hob)
    | (go_at_call 11; refine (HFA.out _ _ _ (HSO.out.below (by (repeat' (first | (with_reducible exact Below.refl _ _) | (with_reducible refine below_alloc ?_) | (with_reducible refine below_drew ?_) | (with_reducible refine below_drewN ?_) | (with_reducible refine below_set (by first | (simp; done) | (simp; omega)) ?_) | (with_reducible refine below_call (by with_reducible assumption) ?_))))) (HPR.out _ _ _ _ (own_below HO2.out (by (repeat' (first | (with_reducible exact Below.refl _ _) | (with_reducible refine below_alloc ?_) | (with_reducible refine below_drew ?_) | (with_reducible refine below_drewN ?_) | (with_reducible refine below_set (by first | (simp; done) | (simp; omega)) ?_) | (with_reducible refine below_call (by with_reducible assumption) ?_)))))) (by (repeat' (first | (with_reducible exact Below.refl _ _) | (with_reducible refine below_alloc ?_) | (with_reducible refine below_drew ?_) | (with_reducible refine below_drewN ?_) | (with_reducible refine below_set (by first | (simp; done) | (simp; omega)) ?_) | (with_reducible refine below_call (by with_reducible assumption) ?_))))).mono ?_; rintro e' w5 ⟨⟨vc, rfl, hoc⟩, hb5⟩; have HSC := Lib.hid (Sl.own encPrt_len hoc rfl); obtain ⟨Ac, cc, rfl⟩ := own_slice hoc; clear hoc)
    | (go_at_call 12; refine (HFB.out _ (by (repeat' (first | (with_reducible exact Below.refl _ _) | (with_reducible refine below_alloc ?_) | (with_reducible refine below_drew ?_) | (with_reducible refine below_drewN ?_) | (with_reducible refine below_set (by first | (simp; done) | (simp; omega)) ?_) | (with_reducible refine below_call (by with_reducible assumption) ?_))))).mono ?_; rintro e' w6 ⟨⟨vd, rfl, hod⟩, hb6⟩; have HSD := Lib.hid hod; obtain ⟨Ad, cd, rfl, -, -, -⟩ := hod)
    | (go_at_call_of 13 (Value.slice Aa A.length ca); refine (same_c A _ _ _ (HSA.out.below (by (repeat' (first | (with_reducible exact Below.refl _ _) | (with_reducible refine below_alloc ?_) | (with_reducible refine below_drew ?_) | (with_reducible refine below_drewN ?_) | (with_reducible refine below_set (by first | (simp; done) | (simp; omega)) ?_) | (with_reducible refine below_call (by with_reducible assumption) ?_))))) (HSB.out.below (by (repeat' (first | (with_reducible exact Below.refl _ _) | (with_reducible refine below_alloc ?_) | (with_reducible refine below_drew ?_) | (with_reducible refine below_drewN ?_) | (with_reducible refine below_set (by first | (simp; done) | (simp; omega)) ?_) | (with_reducible refine below_call (by with_reducible assumption) ?_)))))).mono ?_; rintro e' w7 ⟨rfl, hb7⟩; clear HSA HSB)
    | (go_at_call 13; refine (same_c B _ _ _ (HSC.out.below (by (repeat' (first | (with_reducible exact Below.refl _ _) | (with_reducible refine below_alloc ?_) | (with_reducible refine below_drew ?_) | (with_reducible refine below_drewN ?_) | (with_reducible refine below_set (by first | (simp; done) | (simp; omega)) ?_) | (with_reducible refine below_call (by with_reducible assumption) ?_))))) (HSD.out.below (by (repeat' (first | (with_reducible exact Below.refl _ _) | (with_reducible refine below_alloc ?_) | (with_reducible refine below_drew ?_) | (with_reducible refine below_drewN ?_) | (with_reducible refine below_set (by first | (simp; done) | (simp; omega)) ?_) | (with_reducible refine below_call (by with_reducible assumption) ?_)))))).mono ?_; rintro e' w8 ⟨rfl, hb8⟩)
    | (go_at_call 14; refine (kept_c x _ g c _ _ (HX.out.below (by (repeat' (first | (with_reducible exact Below.refl _ _) | (with_reducible refine below_alloc ?_) | (with_reducible refine below_drew ?_) | (with_reducible refine below_drewN ?_) | (with_reducible refine below_set (by first | (simp; done) | (simp; omega)) ?_) | (with_reducible refine below_call (by with_reducible assumption) ?_))))) (own_below HO2.out (by (repeat' (first | (with_reducible exact Below.refl _ _) | (with_reducible refine below_alloc ?_) | (with_reducible refine below_drew ?_) | (with_reducible refine below_drewN ?_) | (with_reducible refine below_set (by first | (simp; done) | (simp; omega)) ?_) | (with_reducible refine below_call (by with_reducible assumption) ?_)))))).mono ?_; rintro e' w9 ⟨rfl, hb9⟩)
    | (go_at_call 15; refine (HWK.out _ (by (repeat' (first | (with_reducible exact Below.refl _ _) | (with_reducible refine below_alloc ?_) | (with_reducible refine below_drew ?_) | (with_reducible refine below_drewN ?_) | (with_reducible refine below_set (by first | (simp; done) | (simp; omega)) ?_) | (with_reducible refine below_call (by with_reducible assumption) ?_))))).mono ?_; rintro e' w10 ⟨rfl, hb10⟩))
  go_ret
  exact ⟨rfl, by (repeat' (first | (with_reducible exact Below.refl _ _) | (with_reducible refine below_alloc ?_) | (with_reducible refine below_drew ?_) | (with_reducible refine below_drewN ?_) | (with_reducible refine below_set (by first | (simp; done) | (simp; omega)) ?_) | (with_reducible refine below_call (by with_reducible assumption) ?_)))⟩
end Go.Proofs.YtenjkplijblcoaaGreatDoor
