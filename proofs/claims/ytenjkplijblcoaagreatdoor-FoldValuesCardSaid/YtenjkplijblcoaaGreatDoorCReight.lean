/- capstanref08: may, MayAll; capstanref09: wrong: what each call answers. -/
import Derived.Test.YtenjkplijblcoaaGreatDoorCRsix
import Derived.Test.YtenjkplijblcoaaGreatDoorCRnine
import Derived.Test.YtenjkplijblcoaaGreatDoorCFields
import Derived.Test.YtenjkplijblcoaaGreatDoorCFBase
set_option linter.unusedSimpArgs false
set_option linter.unusedVariables false
namespace Go.Proofs.YtenjkplijblcoaaGreatDoor
open Go.RowKit Cap
set_option maxRecDepth 100000

theorem fits_known (t : Int) : fits t 0 = known t := by
  cases h : known t with
  | true => exact fits_zero h
  | false => exact fits_no h
set_option maxHeartbeats 2000000 in
theorem rmay8_c (v : Vr) (w : World) : Calls Tryz.prog 147 #[vrV v] w fun e w' => e = .returned (.bool (mayV v)) ∧ Below w.heap.size w w' := by
  obtain ⟨name, ty, len, init, dir⟩ := v
  have HN := Lib.hid (fun W => (by rw [name_eq]; exact rname_c name W : Calls Tryz.prog 124 #[.string name] W fun e w' => e = .returned (.bool (isName name)) ∧ Below W.heap.size W w'))
  have HT := Lib.hid (fun W => rtype_c ty W)
  have HF := Lib.hid (fun W => rfits_c ty init W)
  have HX := Lib.hid (show mayV ⟨name, ty, len, init, dir⟩ = if isName name = false ∨ dir < 0 ∨ 2 < dir then false
    else if 100 < ty then (dir == 0 && init == 0) && decide (ty ≤ 110) && len == 0
    else if known ty = false then false
    else if len ≠ 0 then (dir == 0 && init == 0) && decide (1 ≤ len) && decide (len ≤ 32)
    else fits ty init && (ty != 4 || decide (0 ≤ init)) by rw [← fits_known]; rfl)
  obtain ⟨q, hq⟩ : ∃ q, isName name = q := ⟨_, rfl⟩
  obtain ⟨kn, hkn⟩ : ∃ q, known ty = q := ⟨_, rfl⟩
  obtain ⟨fi, hfi⟩ : ∃ q, fits ty init = q := ⟨_, rfl⟩
  rw [hq] at HN HX
  rw [hkn] at HT HX
  rw [hfi] at HF HX
  clear hq hkn hfi
  rw [HX.out]
  unfold vrV
  clear HX
  cases q <;> cases kn <;> cases fi
  all_goals go_enter Tryz.func147, Tryz.ntmps147
  all_goals go_wp2_with (first | (go_at_call 124; refine (HN.out _).mono ?_; rintro e w1 ⟨rfl, hb1⟩; obtain ⟨hc1, hf1⟩ := bcell hb1; have hz1 := hb1.size; (try simp at hz1); (try have hw01 : w.heap.size < w1.heap.size := by omega); (try have hw11 : w.heap.size + 1 < w1.heap.size := by omega); (try have hw21 : w.heap.size + 1 + 1 < w1.heap.size := by omega)) | (go_at_call 118; refine (HT.out _).mono ?_; rintro e w2 ⟨rfl, rfl⟩) | (go_at_call 72; refine (HF.out _).mono ?_; rintro e w3 ⟨rfl, rfl⟩))
  all_goals go_ret
  all_goals refine ⟨ret_b ?_, by (repeat' (first | (with_reducible exact Below.refl _ _) | (with_reducible refine below_alloc ?_) | (with_reducible refine below_drew ?_) | (with_reducible refine below_drewN ?_) | (with_reducible refine below_set (by first | (simp; done) | (simp; omega)) ?_) | (with_reducible refine below_call (by with_reducible assumption) ?_)))⟩
  all_goals try simp [*]
  all_goals try omega
  all_goals clear HN HT HF
  all_goals first | (intros; simp_all; done) | (intros; omega) | (intros; simp_all; omega) | (rw [Bool.eq_iff_iff]; simp; omega)
set_option maxHeartbeats 1000000 in
theorem rmayall_c (vars : List Vr) (v : Value) (w : World) (hs : Sl encVr 5 w v vars) :
    Calls Tryz.prog 113 #[v] w fun e w' => e = .returned (.bool (!vars.any (fun v => !mayV v))) ∧ Below w.heap.size w w' := by
  obtain ⟨A, c, rfl, hl, hm, hc⟩ := hs
  have HC := Lib.hid hc
  clear hc
  go_enter Tryz.func113, Tryz.ntmps113
  go_wp2
  go_loopg [3] vars.length (fun gg s3 wr => ∃ k : Nat, s3 = .int .i64 k ∧ k ≤ vars.length ∧ vars.length - k ≤ gg ∧ Aside (Below w.heap.size w wr) ∧ Aside ((vars.drop k).any (fun p => !mayV p) = vars.any (fun p => !mayV p)))
  case atStart => exact ⟨0, rfl, Nat.zero_le _, by omega, (show Below w.heap.size w _ from Below.refl _ _), (show (vars.drop 0).any (fun p => !mayV p) = vars.any (fun p => !mayV p) by rw [List.drop_zero])⟩
  case round =>
    obtain ⟨k, rfl, hk, hg, HB, HA⟩ := hrel
    have hB := HB.out
    by_cases hlt : k < vars.length
    · obtain ⟨p, hp⟩ : ∃ p, vars[k]? = some p := ⟨vars[k], List.getElem?_eq_getElem hlt⟩
      obtain ⟨b, off, rfl, hb, hcx⟩ := HC.out k p hp
      have c0 : wr.cell? ⟨b, off + k * 5, none⟩ = some (.string p.name) := (hB.cell (p := ⟨b, off + k * 5, none⟩) hb).trans (by simpa using hcx 0 _ rfl)
      have c1 : wr.cell? ⟨b, off + k * 5 + 1, none⟩ = some (.int .i64 p.ty) := (hB.cell (p := ⟨b, off + k * 5 + 1, none⟩) hb).trans (by simpa using hcx 1 _ rfl)
      have c2 : wr.cell? ⟨b, off + k * 5 + 2, none⟩ = some (.int .i64 p.len) := (hB.cell (p := ⟨b, off + k * 5 + 2, none⟩) hb).trans (by simpa using hcx 2 _ rfl)
      have c3 : wr.cell? ⟨b, off + k * 5 + 3, none⟩ = some (.int .i64 p.init) := (hB.cell (p := ⟨b, off + k * 5 + 3, none⟩) hb).trans (by simpa using hcx 3 _ rfl)
      have c4 : wr.cell? ⟨b, off + k * 5 + 4, none⟩ = some (.int .i64 p.dir) := (hB.cell (p := ⟨b, off + k * 5 + 4, none⟩) hb).trans (by simpa using hcx 4 _ rfl)
      have hltz : (k : Int) < (vars.length : Int) := by omega
      have hk0 : (0 : Int) ≤ (k : Int) := Int.natCast_nonneg _
      have HN := Lib.hid (show (!mayV p || (vars.drop (k + 1)).any (fun p => !mayV p)) = vars.any (fun p => !mayV p) by rw [← HA.out, drop_cons hp]; rfl)
      have HM := Lib.hid (fun W => rmay8_c p W)
      unfold vrV at HM
      obtain ⟨q, hq⟩ : ∃ q, mayV p = q := ⟨_, rfl⟩
      rw [hq] at HM HN
      clear hq hcx hp
      cases q
      · go_wp2_with (go_at_call 147; refine (HM.out _).mono ?_; rintro e w1 ⟨rfl, hb1⟩)
        go_ret
        exact ⟨by rw [← HN.out]; rfl, by (repeat' (first | (with_reducible exact Below.refl _ _) | (with_reducible refine below_alloc ?_) | (with_reducible refine below_drew ?_) | (with_reducible refine below_drewN ?_) | (with_reducible refine below_set (by first | (simp; done) | (simp; omega)) ?_) | (with_reducible refine below_call (by with_reducible assumption) ?_)))⟩
      · go_wp2_with (go_at_call 147; refine (HM.out _).mono ?_; rintro e w1 ⟨rfl, hb1⟩)
        go_roundg (vars.length - (k + 1))
        case measure => omega
        case rel => exact ⟨k + 1, by go_num, by omega, by omega, (show Below w.heap.size w _ from by (repeat' (first | (with_reducible exact Below.refl _ _) | (with_reducible refine below_alloc ?_) | (with_reducible refine below_drew ?_) | (with_reducible refine below_drewN ?_) | (with_reducible refine below_set (by first | (simp; done) | (simp; omega)) ?_) | (with_reducible refine below_call (by with_reducible assumption) ?_)))), (show (vars.drop (k + 1)).any (fun p => !mayV p) = vars.any (fun p => !mayV p) by rw [← HN.out]; rfl)⟩
    · obtain rfl : k = vars.length := by omega
      have hltz : ¬ (vars.length : Int) < (vars.length : Int) := by omega
      have HZ := Lib.hid (show vars.any (fun p => !mayV p) = false by rw [← HA.out, List.drop_length]; rfl)
      go_wp2
      go_ret
      exact ⟨by rw [HZ.out]; rfl, by (repeat' (first | (with_reducible exact Below.refl _ _) | (with_reducible refine below_alloc ?_) | (with_reducible refine below_drew ?_) | (with_reducible refine below_drewN ?_) | (with_reducible refine below_set (by first | (simp; done) | (simp; omega)) ?_) | (with_reducible refine below_call (by with_reducible assumption) ?_)))⟩
theorem rwrong_c (vars : List Vr) (v : Value) (w : World) (hs : Sl encVr 5 w v vars) :
    Calls Tryz.prog 70 #[v] w fun e w' => e = .returned (.int .i64 (wrongV vars)) ∧ Below w.heap.size w w' := by
  have HM := Lib.hid (fun W (hW : Below w.heap.size w W) => rmayall_c vars v W (hs.below hW))
  obtain ⟨A, c, rfl, hl, hm, -⟩ := hs
  unfold wrongV
  obtain ⟨q, hq⟩ : ∃ q, vars.any (fun v => !mayV v) = q := ⟨_, rfl⟩
  rw [hq] at HM ⊢
  clear hq
  by_cases h6 : 64 < vars.length
  · have hz : (64 : Int) < (vars.length : Int) := by omega
    rw [if_pos h6]
    go_enter Tryz.func70, Tryz.ntmps70
    go_wp2
    go_ret
    exact ⟨rfl, by (repeat' (first | (with_reducible exact Below.refl _ _) | (with_reducible refine below_alloc ?_) | (with_reducible refine below_drew ?_) | (with_reducible refine below_drewN ?_) | (with_reducible refine below_set (by first | (simp; done) | (simp; omega)) ?_) | (with_reducible refine below_call (by with_reducible assumption) ?_)))⟩
  · have hz : ¬ (64 : Int) < (vars.length : Int) := by omega
    rw [if_neg h6]
    cases q
    all_goals go_enter Tryz.func70, Tryz.ntmps70
    all_goals go_wp2_with (go_at_call 113; refine (HM.out _ (by (repeat' (first | (with_reducible exact Below.refl _ _) | (with_reducible refine below_alloc ?_) | (with_reducible refine below_drew ?_) | (with_reducible refine below_drewN ?_) | (with_reducible refine below_set (by first | (simp; done) | (simp; omega)) ?_) | (with_reducible refine below_call (by with_reducible assumption) ?_))))).mono ?_; rintro e w1 ⟨rfl, hb1⟩)
    all_goals go_ret
    all_goals exact ⟨rfl, by (repeat' (first | (with_reducible exact Below.refl _ _) | (with_reducible refine below_alloc ?_) | (with_reducible refine below_drew ?_) | (with_reducible refine below_drewN ?_) | (with_reducible refine below_set (by first | (simp; done) | (simp; omega)) ?_) | (with_reducible refine below_call (by with_reducible assumption) ?_)))⟩
end Go.Proofs.YtenjkplijblcoaaGreatDoor

/- capstanref09.Fields: what each call answers. -/
namespace Go.Proofs.YtenjkplijblcoaaGreatDoor
open Go.RowKit Cap
set_option maxRecDepth 100000

set_option maxHeartbeats 4000000 in
theorem rfields_c (kind : Int) (w : World) : Calls Tryz.prog 150 #[.int .i64 kind] w (FieldsR kind w) := by
  cases hk : isBlock kind with
  | true =>
    simp only [isBlock, Bool.and_eq_true, decide_eq_true_eq] at hk
    have h : kind = 1 ∨ kind = 2 ∨ kind = 3 ∨ kind = 4 ∨ kind = 5 ∨ kind = 6 ∨ kind = 7 ∨ kind = 8 ∨ kind = 9 ∨ kind = 10 := by omega
    clear hk
    rcases h with rfl | rfl | rfl | rfl | rfl | rfl | rfl | rfl | rfl | rfl
    all_goals go_enter Tryz.func150, Tryz.ntmps150
    all_goals go_wp2
    all_goals go_ret2
    all_goals exact ⟨_, rfl, Sl.lit encFld_len _ _ _ _ _ rfl rfl (by decide), by (repeat' (first | (with_reducible exact Below.refl _ _) | (with_reducible refine below_alloc ?_) | (with_reducible refine below_drew ?_) | (with_reducible refine below_drewN ?_) | (with_reducible refine below_set (by simp; omega) ?_) | (with_reducible refine below_call (by with_reducible assumption) ?_)))⟩
  | false =>
    have hk' := hk
    simp only [isBlock, Bool.and_eq_false_iff, decide_eq_false_iff_not, Int.not_le] at hk
    have n1 : ¬ kind = 1 := by omega
    have m1 : (kind == 1) = false := beq_eq_false_iff_ne.2 n1
    have n2 : ¬ kind = 2 := by omega
    have m2 : (kind == 2) = false := beq_eq_false_iff_ne.2 n2
    have n3 : ¬ kind = 3 := by omega
    have m3 : (kind == 3) = false := beq_eq_false_iff_ne.2 n3
    have n4 : ¬ kind = 4 := by omega
    have m4 : (kind == 4) = false := beq_eq_false_iff_ne.2 n4
    have n5 : ¬ kind = 5 := by omega
    have m5 : (kind == 5) = false := beq_eq_false_iff_ne.2 n5
    have n6 : ¬ kind = 6 := by omega
    have m6 : (kind == 6) = false := beq_eq_false_iff_ne.2 n6
    have n7 : ¬ kind = 7 := by omega
    have m7 : (kind == 7) = false := beq_eq_false_iff_ne.2 n7
    have n8 : ¬ kind = 8 := by omega
    have m8 : (kind == 8) = false := beq_eq_false_iff_ne.2 n8
    have n9 : ¬ kind = 9 := by omega
    have m9 : (kind == 9) = false := beq_eq_false_iff_ne.2 n9
    have n10 : ¬ kind = 10 := by omega
    have m10 : (kind == 10) = false := beq_eq_false_iff_ne.2 n10
    have hE : fieldsErr kind = 92 := by simp [fieldsErr, hk']
    have hF : fieldsOf kind = [] := by simp [fieldsOf, *]
    have HE := Lib.hid hE
    have HF := Lib.hid hF
    clear hE hF hk hk' n1 n2 n3 n4 n5 n6 n7 n8 n9 n10
    go_enter Tryz.func150, Tryz.ntmps150
    go_wp2
    go_ret2
    exact ⟨.slice none 0 0, by rw [HE.out]; rfl, by rw [HF.out]; exact Sl.nil _ _ _, by (repeat' (first | (with_reducible exact Below.refl _ _) | (with_reducible refine below_alloc ?_) | (with_reducible refine below_drew ?_) | (with_reducible refine below_drewN ?_) | (with_reducible refine below_set (by simp; omega) ?_) | (with_reducible refine below_call (by with_reducible assumption) ?_)))⟩
end Go.Proofs.YtenjkplijblcoaaGreatDoor

/- capstanref09: Size, find: what each call answers. -/
namespace Go.Proofs.YtenjkplijblcoaaGreatDoor
open Go.RowKit Cap
set_option maxRecDepth 100000

theorem rsize9_c (v : Vr) (w : World) : Calls Tryz.prog 174 #[vrV v] w fun e w' => (∃ n, e = .returned (.int .i64 n)) ∧ Below w.heap.size w w' := by
  obtain ⟨name, ty, len, init, dir⟩ := v
  have HF := Lib.hid (fun q W => rfields_c q W)
  unfold FieldsR at HF
  unfold vrV
  go_enter Tryz.func174, Tryz.ntmps174
  go_wp2_with (go_at_call 150; refine (HF.out _ _).mono ?_; rintro e w1 ⟨vf, rfl, hS, hb1⟩; obtain ⟨A, c, rfl, -, -, -⟩ := hS)
  all_goals go_ret
  all_goals exact ⟨⟨_, rfl⟩, by (repeat' (first | (with_reducible exact Below.refl _ _) | (with_reducible refine below_alloc ?_) | (with_reducible refine below_drew ?_) | (with_reducible refine below_drewN ?_) | (with_reducible refine below_set (by first | (simp; done) | (simp; omega)) ?_) | (with_reducible refine below_call (by with_reducible assumption) ?_)))⟩
/-- Where a variable is found. -/
def findI : List Vr → ByteArray → Int → Int
  | [], _, _ => -1
  | v :: r, s, i => if (v.name.toList == s.toList) = true then i else findI r s (i + 1)
theorem findI_no : ∀ (l : List Vr) (s : ByteArray) (i : Int), findV l s = none → findI l s i = -1
  | [], _, _, _ => rfl
  | v :: r, s, i, h => by
    rw [findV] at h
    rw [findI]
    by_cases hq : (v.name.toList == s.toList) = true
    · rw [if_pos hq] at h; cases h
    · rw [if_neg hq] at h ⊢
      exact findI_no r s _ h
theorem findI_at : ∀ (l : List Vr) (s : ByteArray) (i : Nat) (v : Vr), findV l s = some v → ∃ k : Nat, findI l s i = ((i + k : Nat) : Int) ∧ l[k]? = some v
  | [], _, _, _, h => by cases h
  | x :: r, s, i, v, h => by
    rw [findV] at h
    rw [findI]
    by_cases hq : (x.name.toList == s.toList) = true
    · rw [if_pos hq] at h ⊢
      injection h with h
      subst h
      exact ⟨0, rfl, rfl⟩
    · rw [if_neg hq] at h ⊢
      obtain ⟨k, h1, h2⟩ := findI_at r s (i + 1) v h
      refine ⟨k + 1, ?_, h2⟩
      have : ((i : Int) + 1) = ((i + 1 : Nat) : Int) := by omega
      rw [this, h1]
      congr 1
      omega
set_option maxHeartbeats 2000000 in
theorem rfind_c (vars : List Vr) (s : ByteArray) (v : Value) (w : World) (hs : Sl encVr 5 w v vars) :
    Calls Tryz.prog 149 #[v, .string s] w fun e w' => (∃ at_, e = .returned (.tuple #[.int .i64 (findI vars s 0), .int .i64 at_])) ∧ Below w.heap.size w w' := by
  obtain ⟨A, c, rfl, hl, hm, hc⟩ := hs
  have HC := Lib.hid hc
  clear hc
  go_enter Tryz.func149, Tryz.ntmps149
  go_wp2
  go_loopg [6, 7] vars.length (fun gg s6 s7 wr => ∃ (k : Nat) (at_ : Int), s6 = .int .i64 at_ ∧ s7 = .int .i64 k ∧ k ≤ vars.length ∧ vars.length - k ≤ gg ∧ Aside (Below w.heap.size w wr) ∧ Aside (findI (vars.drop k) s k = findI vars s 0))
  case atStart => exact ⟨0, 0, rfl, rfl, Nat.zero_le _, by omega, (show Below w.heap.size w _ from Below.refl _ _), (show findI (vars.drop 0) s ((0 : Nat) : Int) = findI vars s 0 by rw [List.drop_zero]; rfl)⟩
  case round =>
    obtain ⟨k, at_, rfl, rfl, hk, hg, HB, HA⟩ := hrel
    have hB := HB.out
    by_cases hlt : k < vars.length
    · obtain ⟨p, hp⟩ : ∃ p, vars[k]? = some p := ⟨vars[k], List.getElem?_eq_getElem hlt⟩
      obtain ⟨b, off, rfl, hb, hcx⟩ := HC.out k p hp
      have c0 : wr.cell? ⟨b, off + k * 5, none⟩ = some (.string p.name) := (hB.cell (p := ⟨b, off + k * 5, none⟩) hb).trans (by simpa using hcx 0 _ rfl)
      have c1 : wr.cell? ⟨b, off + k * 5 + 1, none⟩ = some (.int .i64 p.ty) := (hB.cell (p := ⟨b, off + k * 5 + 1, none⟩) hb).trans (by simpa using hcx 1 _ rfl)
      have c2 : wr.cell? ⟨b, off + k * 5 + 2, none⟩ = some (.int .i64 p.len) := (hB.cell (p := ⟨b, off + k * 5 + 2, none⟩) hb).trans (by simpa using hcx 2 _ rfl)
      have c3 : wr.cell? ⟨b, off + k * 5 + 3, none⟩ = some (.int .i64 p.init) := (hB.cell (p := ⟨b, off + k * 5 + 3, none⟩) hb).trans (by simpa using hcx 3 _ rfl)
      have c4 : wr.cell? ⟨b, off + k * 5 + 4, none⟩ = some (.int .i64 p.dir) := (hB.cell (p := ⟨b, off + k * 5 + 4, none⟩) hb).trans (by simpa using hcx 4 _ rfl)
      have hltz : (k : Int) < (vars.length : Int) := by omega
      have hk0 : (0 : Int) ≤ (k : Int) := Int.natCast_nonneg _
      have HN := Lib.hid (show (if (p.name.toList == s.toList) = true then (k : Int) else findI (vars.drop (k + 1)) s ((k : Int) + 1)) = findI vars s 0 by rw [← HA.out, drop_cons hp]; rfl)
      have HS := Lib.hid (fun W => rsize9_c p W)
      unfold vrV at HS
      clear hcx hp
      cases hq : (p.name.toList == s.toList) with
      | true =>
        have HZ := Lib.hid (show findI vars s 0 = k by rw [← HN.out, if_pos hq])
        go_wp2
        go_ret2
        exact ⟨⟨_, by rw [HZ.out]; rfl⟩, by (repeat' (first | (with_reducible exact Below.refl _ _) | (with_reducible refine below_alloc ?_) | (with_reducible refine below_drew ?_) | (with_reducible refine below_drewN ?_) | (with_reducible refine below_set (by first | (simp; done) | (simp; omega)) ?_) | (with_reducible refine below_call (by with_reducible assumption) ?_)))⟩
      | false =>
        have HZ := Lib.hid (show findI (vars.drop (k + 1)) s ((k + 1 : Nat) : Int) = findI vars s 0 by rw [← HN.out, if_neg (by simp [hq])]; rfl)
        go_wp2_with (go_at_call 174; refine (HS.out _).mono ?_; rintro e w1 ⟨⟨n, rfl⟩, hb1⟩)
        go_roundg (vars.length - (k + 1))
        case measure => omega
        case rel => exact ⟨k + 1, _, rfl, by go_num, by omega, by omega, (show Below w.heap.size w _ from by (repeat' (first | (with_reducible exact Below.refl _ _) | (with_reducible refine below_alloc ?_) | (with_reducible refine below_drew ?_) | (with_reducible refine below_drewN ?_) | (with_reducible refine below_set (by first | (simp; done) | (simp; omega)) ?_) | (with_reducible refine below_call (by with_reducible assumption) ?_)))), HZ.out⟩
    · obtain rfl : k = vars.length := by omega
      have hltz : ¬ (vars.length : Int) < (vars.length : Int) := by omega
      have HZ := Lib.hid (show findI vars s 0 = -1 by rw [← HA.out, List.drop_length]; rfl)
      go_wp2
      go_ret2
      exact ⟨⟨_, by rw [HZ.out]; rfl⟩, by (repeat' (first | (with_reducible exact Below.refl _ _) | (with_reducible refine below_alloc ?_) | (with_reducible refine below_drew ?_) | (with_reducible refine below_drewN ?_) | (with_reducible refine below_set (by first | (simp; done) | (simp; omega)) ?_) | (with_reducible refine below_call (by with_reducible assumption) ?_)))⟩
end Go.Proofs.YtenjkplijblcoaaGreatDoor
