/- FoldNames: what is resolved, and what is folded, names what was named. -/
import Derived.Test.YtenjkplijblcoaaGreatDoorCTyp
import Derived.Test.YtenjkplijblcoaaGreatDoorCFWorks
set_option linter.unusedSimpArgs false
set_option linter.unusedVariables false
namespace Cap
open Go Go.RowKit
theorem namesL_of {x y : List Prt} (h : keysOf x = keysOf y) : namesL x = namesL y := by
  unfold namesL namesD
  rw [h]
end Cap
namespace Go.Proofs.YtenjkplijblcoaaGreatDoor
open Go.RowKit Cap Go.Maps Go.Sort
set_option maxRecDepth 100000

theorem noS_size {s : ByteArray} (h : noS s = true) : s.size ≤ 24 := by
  unfold noS at h
  rw [ByteArray.toList_eq, List.isEmpty_iff] at h
  have h2 : s.size = s.data.toList.length := by simp
  rw [h2, h]
  decide
theorem word_size {s : ByteArray} (h : isWord s = true) : s.size ≤ 24 := by
  unfold isWord at h
  simp only [Bool.and_eq_true, decide_eq_true_eq] at h
  exact h.1.1.2
theorem name_size {s : ByteArray} (h : isName s = true) : s.size ≤ 24 := by
  unfold isName at h
  rw [Bool.and_eq_true] at h
  exact word_size h.1
theorem may_ok {p : Prt} (h : mayP p = true) : PrtOk p := by
  have key : p.s.size ≤ 24 ∧ p.f.size ≤ 24 := by
    unfold mayP at h
    by_cases h1 : p.k = 1
    · rw [if_pos h1] at h
      simp only [Bool.and_eq_true] at h
      exact ⟨noS_size h.2.1, noS_size h.2.2⟩
    rw [if_neg h1] at h
    by_cases h2 : p.k = 2 ∨ p.k = 3
    · rw [if_pos h2] at h
      simp only [Bool.and_eq_true] at h
      exact ⟨name_size h.1, noS_size h.2.2⟩
    rw [if_neg h2] at h
    by_cases h4 : p.k = 4
    · rw [if_pos h4] at h
      simp only [Bool.and_eq_true] at h
      exact ⟨name_size h.1.1, word_size h.1.2⟩
    rw [if_neg h4] at h
    by_cases h5 : p.k = 5
    · rw [if_pos h5] at h
      simp only [Bool.and_eq_true] at h
      exact ⟨noS_size h.2.1.2, noS_size h.2.2⟩
    · rw [if_neg h5] at h
      simp only [Bool.and_eq_true] at h
      exact ⟨noS_size h.2.1.2, noS_size h.2.2⟩
  exact ⟨by omega, by omega⟩
theorem encSt_len : ∀ s, (encSt s).length = 1 := fun _ => rfl
set_option maxHeartbeats 8000000 in
theorem foldNames_c (vars : List Vr) (x : List Prt) (t : Int) (vv vx : Value) (w : World) (hs : Sl encVr 5 w vv vars) (hvo : ∀ v ∈ vars, VrOk v) (hx : Sl encPrt 5 w vx x) (hpo : ∀ p ∈ x, PrtOk p) (hG : G w) :
    Calls Tryz.prog 7 #[vv, vx, .int .i64 t] w fun e w' => e = .returned (.bool true) ∧ Below w.heap.size w w' := by
  have HWK := Lib.hid (fun W (hW : Below w.heap.size w W) => works_c W (hG.below hW))
  have HRS := Lib.hid (fun W (hW : Below w.heap.size w W) => resolve_c vars x t vv vx W (hs.below hW) hvo (hx.below hW) hpo (hG.below hW))
  have HFD := Lib.hid (fun W (hW : Below w.heap.size w W) => fold_c vars x t vv vx W (hs.below hW) hvo (hx.below hW) hpo (hG.below hW))
  have HNX := Lib.hid (fun W (hW : Below w.heap.size w W) => names_c x vx W (hx.below hW) (hG.below hW) hpo)
  have HNM := Lib.hid (fun (l : List Prt) (v : Value) W (hW : Below w.heap.size w W) (hl : Sl encPrt 5 W v l) (hm : ∀ p ∈ l, mayP p = true) => names_c l v W hl (hG.below hW) (fun p hp => may_ok (hm p hp)))
  obtain ⟨Av, cv, rfl, -, -, -⟩ := hs
  obtain ⟨Ax, cx, rfl, -, -, -⟩ := hx
  unfold ResolveR at HRS
  unfold FoldVR at HFD
  by_cases hf : fitsX vars x t = 0
  case neg =>
    have hb := ne_i hf
    have hn : (fitsX vars x t != 0) = true := by simpa using hf
    simp only [ne_eq, hf, not_false_eq_true, if_true] at HRS HFD
    obtain ⟨e, he⟩ : ∃ e, fitsX vars x t = e := ⟨_, rfl⟩
    rw [he] at HRS HFD hb hn hf
    clear hG hvo hpo he HNX HNM
    go_enter Tryz.func7, Tryz.ntmps7
    go_wp2_with (first | (go_at_call 15; refine (HWK.out _ (by (repeat' (first | (with_reducible exact Below.refl _ _) | (with_reducible refine below_alloc ?_) | (with_reducible refine below_drew ?_) | (with_reducible refine below_drewN ?_) | (with_reducible refine below_set (by first | (simp; done) | (simp; omega)) ?_) | (with_reducible refine below_call (by with_reducible assumption) ?_))))).mono ?_; rintro e' w1 ⟨rfl, hb1⟩) | (go_at_call 9; refine (HRS.out _ (by (repeat' (first | (with_reducible exact Below.refl _ _) | (with_reducible refine below_alloc ?_) | (with_reducible refine below_drew ?_) | (with_reducible refine below_drewN ?_) | (with_reducible refine below_set (by first | (simp; done) | (simp; omega)) ?_) | (with_reducible refine below_call (by with_reducible assumption) ?_))))).mono ?_; rintro e' w2 ⟨rfl, hb2⟩) | (go_at_call 11; refine (HFD.out _ (by (repeat' (first | (with_reducible exact Below.refl _ _) | (with_reducible refine below_alloc ?_) | (with_reducible refine below_drew ?_) | (with_reducible refine below_drewN ?_) | (with_reducible refine below_set (by first | (simp; done) | (simp; omega)) ?_) | (with_reducible refine below_call (by with_reducible assumption) ?_))))).mono ?_; rintro e' w3 ⟨rfl, hb3⟩))
    go_ret
    exact ⟨rfl, by (repeat' (first | (with_reducible exact Below.refl _ _) | (with_reducible refine below_alloc ?_) | (with_reducible refine below_drew ?_) | (with_reducible refine below_drewN ?_) | (with_reducible refine below_set (by first | (simp; done) | (simp; omega)) ?_) | (with_reducible refine below_call (by with_reducible assumption) ?_)))⟩
  obtain ⟨ga, gb, ka, kb, la, lb⟩ := res_good hf
  have hcx := (fits_wrong hf).2
  simp only [ne_eq, hf, not_true_eq_false, if_false] at HRS HFD
  rw [foldX_T] at HFD
  obtain ⟨A, hA⟩ : ∃ A, (askX vars t (treeL x)).flat = A := ⟨_, rfl⟩
  obtain ⟨B, hB⟩ : ∃ B, (foldT (askX vars t (treeL x))).flat = B := ⟨_, rfl⟩
  have ca := ga.chk
  have ma := ga.may
  have cb := gb.chk
  have mb := gb.may
  rw [hA] at HRS ka la ca ma
  rw [hB] at HFD kb lb cb mb
  clear ga gb hA hB hG hvo hpo
  have HMA := Lib.hid ma
  have HMB := Lib.hid mb
  obtain ⟨na, hna⟩ : ∃ n, A.length = n := ⟨_, rfl⟩
  obtain ⟨nb, hnb⟩ : ∃ n, B.length = n := ⟨_, rfl⟩
  have HNA := Lib.hid hna
  have HNB := Lib.hid hnb
  rw [hna] at HRS
  rw [hnb] at HFD
  have HNX := Lib.hid (fun W hW => by have h := HNX.out W hW; unfold NamesR at h; rw [hcx] at h; simp only [ne_eq, not_true_eq_false, if_false] at h; exact h)
  have HNA2 := Lib.hid (fun v W hW hl => by have h := HNM.out A v W hW hl ma; unfold NamesR at h; rw [ca, namesL_of ka] at h; simp only [ne_eq, not_true_eq_false, if_false] at h; exact h)
  have HNB2 := Lib.hid (fun v W hW hl => by have h := HNM.out B v W hW hl mb; unfold NamesR at h; rw [cb, namesL_of kb] at h; simp only [ne_eq, not_true_eq_false, if_false] at h; exact h)
  obtain ⟨l, hl⟩ : ∃ l, namesL x = l := ⟨_, rfl⟩
  rw [hl] at HNX HNA2 HNB2
  clear hl HNM ma mb ca cb ka kb hna hnb la lb hcx
  go_enter Tryz.func7, Tryz.ntmps7
  go_wp2_with (first
    | (go_at_call 15; refine (HWK.out _ (by (repeat' (first | (with_reducible exact Below.refl _ _) | (with_reducible refine below_alloc ?_) | (with_reducible refine below_drew ?_) | (with_reducible refine below_drewN ?_) | (with_reducible refine below_set (by first | (simp; done) | (simp; omega)) ?_) | (with_reducible refine below_call (by with_reducible assumption) ?_))))).mono ?_; rintro e' w1 ⟨rfl, hb1⟩)
    | (go_at_call 9; refine (HRS.out _ (by (repeat' (first | (with_reducible exact Below.refl _ _) | (with_reducible refine below_alloc ?_) | (with_reducible refine below_drew ?_) | (with_reducible refine below_drewN ?_) | (with_reducible refine below_set (by first | (simp; done) | (simp; omega)) ?_) | (with_reducible refine below_call (by with_reducible assumption) ?_))))).mono ?_; rintro e' w2 ⟨⟨va, rfl, hoa⟩, hb2⟩; have HOA := Lib.hid (Sl.own encPrt_len hoa HNA.out.symm); obtain ⟨Aa, ca, rfl⟩ := own_slice hoa)
    | (go_at_call 11; refine (HFD.out _ (by (repeat' (first | (with_reducible exact Below.refl _ _) | (with_reducible refine below_alloc ?_) | (with_reducible refine below_drew ?_) | (with_reducible refine below_drewN ?_) | (with_reducible refine below_set (by first | (simp; done) | (simp; omega)) ?_) | (with_reducible refine below_call (by with_reducible assumption) ?_))))).mono ?_; rintro e' w3 ⟨⟨vb, rfl, hob⟩, hb3⟩; have HOB := Lib.hid (Sl.own encPrt_len hob HNB.out.symm); obtain ⟨Ab, cb, rfl⟩ := own_slice hob; clear HRS HFD HWK hoa hob)
    | (go_at_call_of 22 (Value.slice Ax x.length cx); refine (HNX.out _ (by (repeat' (first | (with_reducible exact Below.refl _ _) | (with_reducible refine below_alloc ?_) | (with_reducible refine below_drew ?_) | (with_reducible refine below_drewN ?_) | (with_reducible refine below_set (by first | (simp; done) | (simp; omega)) ?_) | (with_reducible refine below_call (by with_reducible assumption) ?_))))).mono ?_; rintro e' w4 ⟨⟨v4, rfl, ho4, -⟩, hb4⟩; have HS4 := Lib.hid (Sl.own encSt_len ho4 rfl); obtain ⟨A4, c4, rfl⟩ := own_slice ho4; clear ho4 HNX)
    | (go_at_call_of 22 (Value.slice Aa na ca); refine (HNA2.out _ _ (by (repeat' (first | (with_reducible exact Below.refl _ _) | (with_reducible refine below_alloc ?_) | (with_reducible refine below_drew ?_) | (with_reducible refine below_drewN ?_) | (with_reducible refine below_set (by first | (simp; done) | (simp; omega)) ?_) | (with_reducible refine below_call (by with_reducible assumption) ?_)))) (HOA.out.below (by (repeat' (first | (with_reducible exact Below.refl _ _) | (with_reducible refine below_alloc ?_) | (with_reducible refine below_drew ?_) | (with_reducible refine below_drewN ?_) | (with_reducible refine below_set (by first | (simp; done) | (simp; omega)) ?_) | (with_reducible refine below_call (by with_reducible assumption) ?_)))))).mono ?_; rintro e' w5 ⟨⟨v5, rfl, ho5, -⟩, hb5⟩; have HS5 := Lib.hid (Sl.own encSt_len ho5 rfl); obtain ⟨A5, c5, rfl⟩ := own_slice ho5; clear ho5 HNA2)
    | (go_at_call_of 22 (Value.slice Ab nb cb); refine (HNB2.out _ _ (by (repeat' (first | (with_reducible exact Below.refl _ _) | (with_reducible refine below_alloc ?_) | (with_reducible refine below_drew ?_) | (with_reducible refine below_drewN ?_) | (with_reducible refine below_set (by first | (simp; done) | (simp; omega)) ?_) | (with_reducible refine below_call (by with_reducible assumption) ?_)))) (HOB.out.below (by (repeat' (first | (with_reducible exact Below.refl _ _) | (with_reducible refine below_alloc ?_) | (with_reducible refine below_drew ?_) | (with_reducible refine below_drewN ?_) | (with_reducible refine below_set (by first | (simp; done) | (simp; omega)) ?_) | (with_reducible refine below_call (by with_reducible assumption) ?_)))))).mono ?_; rintro e' w6 ⟨⟨v6, rfl, ho6, -⟩, hb6⟩; have HS6 := Lib.hid (Sl.own encSt_len ho6 rfl); obtain ⟨A6, c6, rfl⟩ := own_slice ho6; clear ho6 HNB2))
  have HB6 := Lib.hid (show Below w.heap.size w w6 by (repeat' (first | (with_reducible exact Below.refl _ _) | (with_reducible refine below_alloc ?_) | (with_reducible refine below_drew ?_) | (with_reducible refine below_drewN ?_) | (with_reducible refine below_set (by first | (simp; done) | (simp; omega)) ?_) | (with_reducible refine below_call (by with_reducible assumption) ?_))))
  have hmax : l.length ≤ 9223372036854775807 := by
    obtain ⟨_, _, hve, h1, h2, -⟩ := HS4.out
    omega
  have hcell : ∀ (W : World) (A : Option Addr) (c : Nat), Sl encSt 1 W (.slice A l.length c) l → Below W.heap.size W w6 → ∀ k s, l[k]? = some s → ∃ b o, A = some ⟨b, o, none⟩ ∧ w6.cell? ⟨b, o + k, none⟩ = some (encStr s) := fun W A c hS hb k s hk => by
    obtain ⟨_, _, hve, -, -, h3⟩ := hS
    injection hve with e1 e2 e3
    subst e1
    obtain ⟨b, o, rfl, hlt, hc⟩ := h3 k s hk
    have h0 := hc 0 (encStr s) rfl
    rw [Nat.mul_one, Nat.add_zero] at h0
    exact ⟨b, o, rfl, (hb.cell (p := ⟨b, o + k, none⟩) hlt).trans h0⟩
  have HC4 := Lib.hid (hcell w4 A4 c4 HS4.out (by (repeat' (first | (with_reducible exact Below.refl _ _) | (with_reducible refine below_alloc ?_) | (with_reducible refine below_drew ?_) | (with_reducible refine below_drewN ?_) | (with_reducible refine below_set (by first | (simp; done) | (simp; omega)) ?_) | (with_reducible refine below_call (by with_reducible assumption) ?_)))))
  have HC5 := Lib.hid (hcell w5 A5 c5 HS5.out (by (repeat' (first | (with_reducible exact Below.refl _ _) | (with_reducible refine below_alloc ?_) | (with_reducible refine below_drew ?_) | (with_reducible refine below_drewN ?_) | (with_reducible refine below_set (by first | (simp; done) | (simp; omega)) ?_) | (with_reducible refine below_call (by with_reducible assumption) ?_)))))
  have HC6 := Lib.hid (hcell w6 A6 c6 HS6.out (Below.refl _ _))
  have HL := Lib.hid (show ∀ k, k < l.length → ∃ s, l[k]? = some s from fun k hk => ⟨l[k], List.getElem?_eq_getElem hk⟩)
  obtain ⟨L, hL⟩ : ∃ L, l.length = L := ⟨_, rfl⟩
  rw [hL] at HL hmax ⊢
  clear hcell HS4 HS5 HS6 hL HOA HOB HMA HMB HNA HNB hb1 hb2 hb3 hb4 hb5 hb6
  go_loopg [17, 81] L (fun gg s17 s81 wr => ∃ k : Nat, s17 = .int .i64 k ∧ s81 = .int .i64 k ∧ k ≤ L ∧ L - k ≤ gg ∧ Aside (Below w6.heap.size w6 wr))
  case atStart => exact ⟨0, rfl, rfl, Nat.zero_le _, by omega, (show Below w6.heap.size w6 w6 from Below.refl _ _)⟩
  case round =>
    obtain ⟨k, rfl, rfl, hk, hg, HBR⟩ := hrel
    by_cases hlt : k < L
    · obtain ⟨s, hs⟩ := HL.out k hlt
      obtain ⟨b4, o4, rfl, h4⟩ := HC4.out k s hs
      obtain ⟨b5, o5, rfl, h5⟩ := HC5.out k s hs
      obtain ⟨b6, o6, rfl, h6⟩ := HC6.out k s hs
      obtain ⟨S, hS⟩ : ∃ S, encStr s = Value.string S := ⟨_, rfl⟩
      rw [hS] at h4 h5 h6
      have h4 := (HBR.out.cell (p := ⟨b4, o4 + k, none⟩) (World.block_lt_of_cell? _ _ h4)).trans h4
      have h5 := (HBR.out.cell (p := ⟨b5, o5 + k, none⟩) (World.block_lt_of_cell? _ _ h5)).trans h5
      have h6 := (HBR.out.cell (p := ⟨b6, o6 + k, none⟩) (World.block_lt_of_cell? _ _ h6)).trans h6
      have hltz : (k : Int) < (L : Int) := by omega
      have hk0 : (0 : Int) ≤ (k : Int) := Int.natCast_nonneg _
      clear hS hs HC4 HC5 HC6
      go_upto_region 16 with fail
      go_region_held3 (fun W => W.cell? ⟨b5, o5 + k, none⟩ = some (.string S) ∧ W.cell? ⟨b4, o4 + k, none⟩ = some (.string S)) (first | exact ⟨h5, h4⟩) (first | fail)
      go_wp2
      go_region_held3 (fun W => W.cell? ⟨b6, o6 + k, none⟩ = some (.string S) ∧ W.cell? ⟨b4, o4 + k, none⟩ = some (.string S)) (first | exact ⟨h6, h4⟩) (first | fail)
      go_wp2
      go_roundg (L - (k + 1))
      case measure => omega
      case rel =>
        exact ⟨k + 1, by go_num, by go_num, by omega, by omega, (show Below w6.heap.size w6 _ from below_call (by (repeat' (first | (with_reducible exact Below.refl _ _) | (with_reducible refine below_alloc ?_) | (with_reducible refine below_drew ?_) | (with_reducible refine below_drewN ?_) | (with_reducible refine below_set (by first | (simp; done) | (simp; omega)) ?_) | (with_reducible refine below_call (by with_reducible assumption) ?_)))) HBR.out)⟩
    · obtain rfl : k = L := by omega
      have hltz : ¬ (k : Int) < (k : Int) := by omega
      go_wp2
      go_ret
      exact ⟨rfl, below_call (by (repeat' (first | (with_reducible exact Below.refl _ _) | (with_reducible refine below_alloc ?_) | (with_reducible refine below_drew ?_) | (with_reducible refine below_drewN ?_) | (with_reducible refine below_set (by first | (simp; done) | (simp; omega)) ?_) | (with_reducible refine below_call (by with_reducible assumption) ?_)))) (below_call HBR.out HB6.out)⟩
end Go.Proofs.YtenjkplijblcoaaGreatDoor
