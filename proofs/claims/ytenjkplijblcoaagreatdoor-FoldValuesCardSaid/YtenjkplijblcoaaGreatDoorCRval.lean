/- capstanref06.Names: whether there are any. -/
import Derived.Test.YtenjkplijblcoaaGreatDoorCRsix
import Derived.Test.YtenjkplijblcoaaGreatDoorCNames
import Derived.Test.YtenjkplijblcoaaGreatDoorCTree5
import Derived.Test.YtenjkplijblcoaaGreatDoorCRplain
import Derived.Test.YtenjkplijblcoaaGreatDoorCFKind
import Derived.Test.YtenjkplijblcoaaGreatDoorCRfold
import Derived.Test.YtenjkplijblcoaaGreatDoorCVal
set_option linter.unusedSimpArgs false
set_option linter.unusedVariables false
namespace Go.Proofs.YtenjkplijblcoaaGreatDoor
open Go.RowKit Cap
set_option maxRecDepth 100000

theorem info_str6 : InfoIs Tryz.prog 9 (.string ⟨#[]⟩) 1 16 := by unfold InfoIs; kernel_rfl
theorem encS_len6 (x : ByteArray) : (encS x).length = 1 := rfl
theorem one_S6 (x : ByteArray) : ∀ u ∈ encS x, u.oneCell' = true := fun u hu => by
  simp [encS] at hu
  subst hu
  rfl
/-- What Names hands back, as far as it is asked here. -/
def NamesRR (x : List Prt) (w : World) (e : Ending) (w' : World) : Prop :=
  (if checkX x ≠ 0 then e = .returned (.tuple #[.slice none 0 0, .int .i64 (checkX x)])
    else ∃ A n c, e = .returned (.tuple #[.slice A n c, .int .i64 0]) ∧ (n = 0 ↔ x.any namedP = false) ∧ n ≤ 500) ∧ Below w.heap.size w w'
set_option maxHeartbeats 8000000 in
theorem rnames_c (x : List Prt) (vx : Value) (w : World) (hx : Sl encPrt 5 w vx x) : Calls Tryz.prog 32 #[vx] w (NamesRR x w) := by
  have HCK := Lib.hid (fun W (hW : Below w.heap.size w W) => rcheck6_c x vx W (hx.below hW))
  obtain ⟨A, c, rfl, hl, hm, hc⟩ := hx
  have HC := Lib.hid hc
  clear hc
  by_cases hk : checkX x = 0
  case neg =>
    have hb := ne_i' hk
    have hn : (checkX x != 0) = true := by simpa using hk
    obtain ⟨f, hf⟩ : ∃ f, checkX x = f := ⟨_, rfl⟩
    rw [hf] at HCK hb hn hk
    have HF := Lib.hid hf
    have HK := Lib.hid hk
    clear hf hk
    go_enter Tryz.func32, Tryz.ntmps32
    go_wp2_with (go_at_call 58; refine (HCK.out _ (by (repeat' (first | (with_reducible exact Below.refl _ _) | (with_reducible refine below_alloc ?_) | (with_reducible refine below_drew ?_) | (with_reducible refine below_drewN ?_) | (with_reducible refine below_set (by first | (simp; done) | (simp; omega)) ?_) | (with_reducible refine below_call (by with_reducible assumption) ?_))))).mono ?_; rintro e w1 ⟨rfl, hb1⟩)
    go_ret2
    unfold NamesRR
    rw [HF.out, if_pos HK.out]
    exact ⟨rfl, by (repeat' (first | (with_reducible exact Below.refl _ _) | (with_reducible refine below_alloc ?_) | (with_reducible refine below_drew ?_) | (with_reducible refine below_drewN ?_) | (with_reducible refine below_set (by first | (simp; done) | (simp; omega)) ?_) | (with_reducible refine below_call (by with_reducible assumption) ?_)))⟩
  have HK0 := Lib.hid hk
  have h500 := (check_in hk).1
  rw [hk] at HCK
  clear hk
  go_enter Tryz.func32, Tryz.ntmps32
  go_wp2_with (go_at_call 58; refine (HCK.out _ (by (repeat' (first | (with_reducible exact Below.refl _ _) | (with_reducible refine below_alloc ?_) | (with_reducible refine below_drew ?_) | (with_reducible refine below_drewN ?_) | (with_reducible refine below_set (by first | (simp; done) | (simp; omega)) ?_) | (with_reducible refine below_call (by with_reducible assumption) ?_))))).mono ?_; rintro e w1 ⟨rfl, hb1⟩)
  have HB1 := Lib.hid (show Below w.heap.size w w1 by (repeat' (first | (with_reducible exact Below.refl _ _) | (with_reducible refine below_alloc ?_) | (with_reducible refine below_drew ?_) | (with_reducible refine below_drewN ?_) | (with_reducible refine below_set (by first | (simp; done) | (simp; omega)) ?_) | (with_reducible refine below_call (by with_reducible assumption) ?_))))
  clear hb1 HCK
  go_loopg [5, 6] x.length (fun gg s5 s6 wr => ∃ (i : Nat) (out : List ByteArray), s6 = .int .i64 i ∧ i ≤ x.length ∧ x.length - i ≤ gg ∧ out.length ≤ i ∧ Aside (wr.ownsRow w.heap.size 9 1 s5 out.length (out.flatMap encS)) ∧ Aside (out = [] ↔ (x.take i).any namedP = false) ∧ Aside (Below w.heap.size w wr))
  case atStart => exact ⟨0, [], rfl, Nat.zero_le _, by omega, Nat.le_refl _, (show Aside _ from ⟨by simp, .inl ⟨rfl, rfl⟩⟩), (show (([] : List ByteArray) = [] ↔ (x.take 0).any namedP = false) from by simp), HB1.out⟩
  case round =>
    obtain ⟨i, out, rfl, hi, hg, hol, HO, HN, HB⟩ := hrel
    have hB := HB.out
    have hsz := hB.size
    by_cases hlt : i < x.length
    · obtain ⟨p, hp⟩ : ∃ p, x[i]? = some p := ⟨x[i], List.getElem?_eq_getElem hlt⟩
      obtain ⟨b, off, rfl, hb, hcx⟩ := HC.out i p hp
      have c3 : wr.cell? ⟨b, off + i * 5 + 3, none⟩ = some (.string p.s) := (hB.cell (p := ⟨b, off + i * 5 + 3, none⟩) hb).trans (by simpa using hcx 3 _ rfl)
      have hbw : b < wr.heap.size := by omega
      have hltz : (i : Int) < (x.length : Int) := by omega
      have hi0 : (0 : Int) ≤ (i : Int) := Int.natCast_nonneg _
      have HTK := Lib.hid (show (x.take (i + 1)).any namedP = ((x.take i).any namedP || namedP p) by rw [List.take_add_one, hp]; simp)
      have hcx' : w.cell? ⟨b, off + i * 5 + 3, none⟩ = some (.string p.s) := by simpa using hcx 3 _ rfl
      clear hcx hp
      rcases own_form HO.out with ⟨rfl, rfl⟩ | ⟨g, cap, rfl, hcap, hmax, hgw⟩
      · go_wp2
        go_loopg [7] 0 (fun gg s7 wq => s7 = .int .i64 0 ∧ Aside (Below w.heap.size w wq))
        case atStart => exact ⟨rfl, (show Below w.heap.size w _ from by (repeat' (first | (with_reducible exact Below.refl _ _) | (with_reducible refine below_alloc ?_) | (with_reducible refine below_drew ?_) | (with_reducible refine below_drewN ?_) | (with_reducible refine below_set (by first | (simp; done) | (simp; omega)) ?_) | (with_reducible refine below_call (by with_reducible assumption) ?_))))⟩
        case round =>
          obtain ⟨rfl, HBQ⟩ := hrel
          have d3 : wr.cell? ⟨b, off + i * 5 + 3, none⟩ = some (.string p.s) := (HBQ.out.cell (p := ⟨b, off + i * 5 + 3, none⟩) hb).trans hcx'
          go_upto_region 9 with fail
          go_quiet (fail)
          go_upto_region 11 with fail
          cases hS : (p.s.toList == []) with
          | true =>
            have hS' : p.s.toList = [] := by simpa using hS
            go_quiet (fail)
            have hnp : namedP p = false := by unfold namedP; rw [hS']; rfl
            have HNP := Lib.hid hnp
            clear hnp
            go_wp2
            go_roundg (x.length - (i + 1))
            case measure => omega
            case rel => exact ⟨i + 1, [], by go_num, by omega, by omega, by simp, (show Aside _ from ⟨by simp, .inl ⟨rfl, rfl⟩⟩), (show (([] : List ByteArray) = [] ↔ (x.take (i + 1)).any namedP = false) from by rw [HTK.out, HNP.out, Bool.or_false]; simpa using HN.out), (show Below w.heap.size w _ from below_call (by (repeat' (first | (with_reducible exact Below.refl _ _) | (with_reducible refine below_alloc ?_) | (with_reducible refine below_drew ?_) | (with_reducible refine below_drewN ?_) | (with_reducible refine below_set (by first | (simp; done) | (simp; omega)) ?_) | (with_reducible refine below_call (by with_reducible assumption) ?_)))) HBQ.out)⟩
          | false =>
            have hS' : ¬ p.s.toList = [] := by simpa using hS
            have hnp : namedP p = true := by unfold namedP; cases hl : p.s.toList with | nil => exact absurd hl hS' | cons a r => rfl
            have HNP := Lib.hid hnp
            clear hnp
            go_quiet (fail)
            obtain ⟨tk, htk⟩ : ∃ l : List ByteArray, l = [] := ⟨[], rfl⟩
            obtain ⟨dk, hdk⟩ : ∃ l : List ByteArray, l = [] := ⟨[], rfl⟩
            have htl : tk.length = 0 := by rw [htk]; rfl
            have hdl : dk.length = 0 := by rw [hdk]; rfl
            have HTKS := Lib.hid (show ∀ W, Below wr.heap.size wr W → Sl encS 1 W (.slice none 0 0) tk from fun W _ => by rw [htk]; exact Sl.nil _ _ _)
            have HDRS := Lib.hid (show ∀ W, Below wr.heap.size wr W → Sl encS 1 W (.slice none 0 0) dk from fun W _ => by rw [hdk]; exact Sl.nil _ _ _)
            (have d3x := d3; go_wp2_with (first | (at_builtin; refine wpList_app _ rfl (.tmp 62) (.tmp 65) 44 rfl wr.heap.size 9 _ 1 16 Tryz.underlying44 info_str6 rfl (by decide) encS encS_len6 one_S6 (.slice none 0 0) 0 [] rfl (World.ownsRow_nil _ _ _ _) _ tk rfl (HTKS.out _ (by (repeat' (first | (with_reducible exact Below.refl _ _) | (with_reducible refine below_alloc ?_) | (with_reducible refine below_drew ?_) | (with_reducible refine below_drewN ?_) | (with_reducible refine below_set (by first | (simp; done) | (simp; omega)) ?_) | (with_reducible refine below_call (by with_reducible assumption) ?_))))) (by unfold maxLen; omega) (by omega) (by simp) ?_; intro v2 w2 ho2 hg2; have hb2 := below_grown (w := wr) (by (repeat' (first | (with_reducible exact Below.refl _ _) | (with_reducible refine below_alloc ?_) | (with_reducible refine below_drew ?_) | (with_reducible refine below_drewN ?_) | (with_reducible refine below_set (by first | (simp; done) | (simp; omega)) ?_) | (with_reducible refine below_call (by with_reducible assumption) ?_)))) hg2 (fun g hg => by simp [Value.ownBlock] at hg); have d32 := (hb2.cell (p := ⟨b, off + i * 5 + 3, none⟩) (World.block_lt_of_cell? _ _ d3x)).trans d3x) | (at_builtin; refine wpList_app _ rfl (.tmp 67) (.tmp 73) 44 rfl wr.heap.size 9 _ 1 16 Tryz.underlying44 info_str6 rfl (by decide) encS encS_len6 one_S6 v2 _ _ rfl (own_below ho2 (by (repeat' (first | (with_reducible exact Below.refl _ _) | (with_reducible refine below_alloc ?_) | (with_reducible refine below_drew ?_) | (with_reducible refine below_drewN ?_) | (with_reducible refine below_set (by simp; omega) ?_) | (with_reducible refine below_call (by with_reducible assumption) ?_))))) _ [p.s] rfl (by refine Sl.lit' ?_ _ _ _ _ _ _ ?_ ?_ ?_ ?_ <;> first | (intro _; rfl) | rfl | decide | (simp; done)) (by unfold maxLen; simp; omega) (by simp; omega) (by have := hb2.size; simp; omega) ?_; intro v3 w3 ho3 hg3; have hb3 := below_grown (w := wr) (below_alloc hb2) hg3 (own_ge ho2 (Nat.le_refl _))) | (at_builtin; refine wpList_app _ rfl (.tmp 75) (.tmp 78) 44 rfl wr.heap.size 9 _ 1 16 Tryz.underlying44 info_str6 rfl (by decide) encS encS_len6 one_S6 v3 _ _ rfl ho3 _ dk rfl (HDRS.out _ hb3) (by unfold maxLen; simp; omega) (by simp; omega) (by have := hb3.size; omega) ?_; intro v4 w4 ho4 hg4; have hb4 := below_grown (w := wr) hb3 hg4 (own_ge ho3 (Nat.le_refl _)))))
            go_roundg (x.length - (i + 1))
            case measure => omega
            case rel =>
              refine ⟨i + 1, [p.s], by go_num, by omega, by omega, by simp, ?_, (show ([p.s] = [] ↔ (x.take (i + 1)).any namedP = false) from by rw [HTK.out, HNP.out, Bool.or_true]; simp), (show Below w.heap.size w _ from below_call hb4 HBQ.out)⟩
              subst htk hdk
              have h := own_base ho4 HBQ.out.size
              exact h
      · have HOW := Lib.hid (fun W (hW : Below wr.heap.size wr W) => own_below HO.out hW)
        have HSW := Lib.hid (fun W (hW : Below wr.heap.size wr W) => Sl.own encS_len6 (own_below HO.out hW) rfl)
        go_wp2
        go_loopg [7] out.length (fun gg s7 wq => ∃ k : Nat, s7 = .int .i64 k ∧ k ≤ out.length ∧ out.length - k ≤ gg ∧ Aside (Below wr.heap.size wr wq))
        case atStart => exact ⟨0, rfl, by omega, by omega, (show Aside _ from Below.refl _ _)⟩
        case round =>
          obtain ⟨k, rfl, hk, hgk, HBQ⟩ := hrel
          have hbq := HBQ.out
          have d3 : wr.cell? ⟨b, off + i * 5 + 3, none⟩ = some (.string p.s) := (hbq.cell (p := ⟨b, off + i * 5 + 3, none⟩) hbw).trans c3
          have hk0 : (0 : Int) ≤ (k : Int) := Int.natCast_nonneg _
          by_cases hkl : k < out.length
          · obtain ⟨sk, hsk⟩ : ∃ q, out[k]? = some q := ⟨out[k], List.getElem?_eq_getElem hkl⟩
            have e0 : wr.cell? ⟨g, k, none⟩ = some (.string sk) := by
              obtain ⟨A', c', e', _, _, hcell⟩ := HSW.out wr hbq
              obtain ⟨b', off', he, hb', hcx2⟩ := hcell k sk hsk
              injection e' with e1 e2 e3
              subst e1
              injection he with he
              injection he with e1 e2 _
              subst e1 e2
              simpa using hcx2 0 _ rfl
            have hkz : (k : Int) < (out.length : Int) := by omega
            clear hsk
            have hcm : ¬ cap = k := by omega
            go_upto_region 9 with fail
            go_quiet (fail)
            cases hlt9 : Op.bytesLess sk.toList p.s.toList with
            | true =>
              go_wp2
              go_roundg (out.length - (k + 1))
              case measure => omega
              case rel => exact ⟨k + 1, by go_num, by omega, by omega, (show Aside _ from below_call (by (repeat' (first | (with_reducible exact Below.refl _ _) | (with_reducible refine below_alloc ?_) | (with_reducible refine below_drew ?_) | (with_reducible refine below_drewN ?_) | (with_reducible refine below_set (by first | (simp; done) | (simp; omega)) ?_) | (with_reducible refine below_call (by with_reducible assumption) ?_)))) hbq)⟩
            | false =>
              go_upto_region 11 with fail
              cases hS : (p.s.toList == []) with
              | true =>
                have hS' : p.s.toList = [] := by simpa using hS
                have hnp : namedP p = false := by unfold namedP; rw [hS']; rfl
                have HNP := Lib.hid hnp
                clear hnp
                go_quiet (fail)
                go_wp2
                go_roundg (x.length - (i + 1))
                case measure => omega
                case rel => exact ⟨i + 1, out, by go_num, by omega, by omega, by omega, (show Aside _ from own_below (HOW.out wr hbq) (by (repeat' (first | (with_reducible exact Below.refl _ _) | (with_reducible refine below_alloc ?_) | (with_reducible refine below_drew ?_) | (with_reducible refine below_drewN ?_) | (with_reducible refine below_set (by first | (simp; done) | (simp; omega)) ?_) | (with_reducible refine below_call (by with_reducible assumption) ?_))))), (show (out = [] ↔ (x.take (i + 1)).any namedP = false) from by rw [HTK.out, HNP.out, Bool.or_false]; exact HN.out), (show Below w.heap.size w _ from below_call (by (repeat' (first | (with_reducible exact Below.refl _ _) | (with_reducible refine below_alloc ?_) | (with_reducible refine below_drew ?_) | (with_reducible refine below_drewN ?_) | (with_reducible refine below_set (by first | (simp; done) | (simp; omega)) ?_) | (with_reducible refine below_call (by with_reducible assumption) ?_)))) (below_call hbq hB))⟩
              | false =>
                have hS' : ¬ p.s.toList = [] := by simpa using hS
                have hnp : namedP p = true := by unfold namedP; cases hl : p.s.toList with | nil => exact absurd hl hS' | cons a r => rfl
                have HNP := Lib.hid hnp
                clear hnp
                cases heq : (sk.toList == p.s.toList) with
                | true =>
                  have hne : ¬ out = [] := fun h => by rw [h] at hkl; simp at hkl
                  go_quiet (fail)
                  go_wp2
                  go_roundg (x.length - (i + 1))
                  case measure => omega
                  case rel => exact ⟨i + 1, out, by go_num, by omega, by omega, by omega, (show Aside _ from own_below (HOW.out wr hbq) (by (repeat' (first | (with_reducible exact Below.refl _ _) | (with_reducible refine below_alloc ?_) | (with_reducible refine below_drew ?_) | (with_reducible refine below_drewN ?_) | (with_reducible refine below_set (by first | (simp; done) | (simp; omega)) ?_) | (with_reducible refine below_call (by with_reducible assumption) ?_))))), (show (out = [] ↔ (x.take (i + 1)).any namedP = false) from by rw [HTK.out, HNP.out, Bool.or_true]; simp [hne]), (show Below w.heap.size w _ from below_call (by (repeat' (first | (with_reducible exact Below.refl _ _) | (with_reducible refine below_alloc ?_) | (with_reducible refine below_drew ?_) | (with_reducible refine below_drewN ?_) | (with_reducible refine below_set (by first | (simp; done) | (simp; omega)) ?_) | (with_reducible refine below_call (by with_reducible assumption) ?_)))) (below_call hbq hB))⟩
                | false =>
                  go_quiet (fail)
                  have htl : (out.take k).length = k := by rw [List.length_take]; omega
                  have hdl : (out.drop k).length = out.length - k := List.length_drop
                  have HTKS' := Lib.hid (show ∀ W, Below wr.heap.size wr W → Sl encS 1 W (.slice (some ⟨g, 0, none⟩) k cap) (out.take k) from fun W hW => (HSW.out W (below_call hW hbq)).first hk)
                  have HDRS' := Lib.hid (show ∀ W, Below wr.heap.size wr W → Sl encS 1 W (.slice (some ⟨g, k, none⟩) (out.length - k) (cap - k)) (out.drop k) from fun W hW => by
                    have h := Sl.drop (HSW.out W (below_call hW hbq)) k hk
                    rw [Nat.zero_add, Nat.mul_one] at h
                    exact h)
                  obtain ⟨tk, htk⟩ : ∃ l, out.take k = l := ⟨_, rfl⟩
                  obtain ⟨dk, hdk⟩ : ∃ l, out.drop k = l := ⟨_, rfl⟩
                  rw [htk] at htl HTKS'
                  rw [hdk] at hdl HDRS'
                  have HTKS := Lib.hid HTKS'.out
                  have HDRS := Lib.hid HDRS'.out
                  have hkc : (k : Int) ≤ (cap : Int) := by omega
                  clear htk hdk HTKS' HDRS'
                  (have d3x := d3; go_wp2_with (first | (at_builtin; refine wpList_app _ rfl (.tmp 62) (.tmp 65) 44 rfl wr.heap.size 9 _ 1 16 Tryz.underlying44 info_str6 rfl (by decide) encS encS_len6 one_S6 (.slice none 0 0) 0 [] rfl (World.ownsRow_nil _ _ _ _) _ tk rfl (HTKS.out _ (by (repeat' (first | (with_reducible exact Below.refl _ _) | (with_reducible refine below_alloc ?_) | (with_reducible refine below_drew ?_) | (with_reducible refine below_drewN ?_) | (with_reducible refine below_set (by first | (simp; done) | (simp; omega)) ?_) | (with_reducible refine below_call (by with_reducible assumption) ?_))))) (by unfold maxLen; omega) (by omega) (by simp) ?_; intro v2 w2 ho2 hg2; have hb2 := below_grown (w := wr) (by (repeat' (first | (with_reducible exact Below.refl _ _) | (with_reducible refine below_alloc ?_) | (with_reducible refine below_drew ?_) | (with_reducible refine below_drewN ?_) | (with_reducible refine below_set (by first | (simp; done) | (simp; omega)) ?_) | (with_reducible refine below_call (by with_reducible assumption) ?_)))) hg2 (fun g hg => by simp [Value.ownBlock] at hg); have d32 := (hb2.cell (p := ⟨b, off + i * 5 + 3, none⟩) (World.block_lt_of_cell? _ _ d3x)).trans d3x) | (at_builtin; refine wpList_app _ rfl (.tmp 67) (.tmp 73) 44 rfl wr.heap.size 9 _ 1 16 Tryz.underlying44 info_str6 rfl (by decide) encS encS_len6 one_S6 v2 _ _ rfl (own_below ho2 (by (repeat' (first | (with_reducible exact Below.refl _ _) | (with_reducible refine below_alloc ?_) | (with_reducible refine below_drew ?_) | (with_reducible refine below_drewN ?_) | (with_reducible refine below_set (by simp; omega) ?_) | (with_reducible refine below_call (by with_reducible assumption) ?_))))) _ [p.s] rfl (by refine Sl.lit' ?_ _ _ _ _ _ _ ?_ ?_ ?_ ?_ <;> first | (intro _; rfl) | rfl | decide | (simp; done)) (by unfold maxLen; simp; omega) (by simp; omega) (by have := hb2.size; simp; omega) ?_; intro v3 w3 ho3 hg3; have hb3 := below_grown (w := wr) (below_alloc hb2) hg3 (own_ge ho2 (Nat.le_refl _))) | (at_builtin; refine wpList_app _ rfl (.tmp 75) (.tmp 78) 44 rfl wr.heap.size 9 _ 1 16 Tryz.underlying44 info_str6 rfl (by decide) encS encS_len6 one_S6 v3 _ _ rfl ho3 _ dk rfl (HDRS.out _ hb3) (by unfold maxLen; simp; omega) (by simp; omega) (by have := hb3.size; omega) ?_; intro v4 w4 ho4 hg4; have hb4 := below_grown (w := wr) hb3 hg4 (own_ge ho3 (Nat.le_refl _)))))
                  go_roundg (x.length - (i + 1))
                  case measure => omega
                  case rel =>
                    refine ⟨i + 1, tk ++ [p.s] ++ dk, by go_num, by omega, by omega, by simp; omega, ?_, (show (tk ++ [p.s] ++ dk = [] ↔ (x.take (i + 1)).any namedP = false) from by rw [HTK.out, HNP.out, Bool.or_true]; simp), (show Below w.heap.size w _ from below_call hb4 (below_call hbq hB))⟩
                    show w4.ownsRow w.heap.size 9 1 v4 (tk ++ [p.s] ++ dk).length ((tk ++ [p.s] ++ dk).flatMap encS)
                    rw [List.flatMap_append, List.flatMap_append, List.length_append, List.length_append]
                    have h := own_base ho4 (show w.heap.size ≤ wr.heap.size by have := hbq.size; omega)
                    rw [Nat.zero_add, List.nil_append] at h
                    exact h
          · obtain rfl : k = out.length := by omega
            have hkz : ¬ (out.length : Int) < (out.length : Int) := by omega
            go_upto_region 9 with fail
            go_quiet (fail)
            go_upto_region 11 with fail
            cases hS : (p.s.toList == []) with
            | true =>
              have hS' : p.s.toList = [] := by simpa using hS
              have hnp : namedP p = false := by unfold namedP; rw [hS']; rfl
              have HNP := Lib.hid hnp
              clear hnp
              go_quiet (fail)
              go_wp2
              go_roundg (x.length - (i + 1))
              case measure => omega
              case rel => exact ⟨i + 1, out, by go_num, by omega, by omega, by omega, (show Aside _ from own_below (HOW.out wr hbq) (by (repeat' (first | (with_reducible exact Below.refl _ _) | (with_reducible refine below_alloc ?_) | (with_reducible refine below_drew ?_) | (with_reducible refine below_drewN ?_) | (with_reducible refine below_set (by first | (simp; done) | (simp; omega)) ?_) | (with_reducible refine below_call (by with_reducible assumption) ?_))))), (show (out = [] ↔ (x.take (i + 1)).any namedP = false) from by rw [HTK.out, HNP.out, Bool.or_false]; exact HN.out), (show Below w.heap.size w _ from below_call (by (repeat' (first | (with_reducible exact Below.refl _ _) | (with_reducible refine below_alloc ?_) | (with_reducible refine below_drew ?_) | (with_reducible refine below_drewN ?_) | (with_reducible refine below_set (by first | (simp; done) | (simp; omega)) ?_) | (with_reducible refine below_call (by with_reducible assumption) ?_)))) (below_call hbq hB))⟩
            | false =>
              have hS' : ¬ p.s.toList = [] := by simpa using hS
              have hnp : namedP p = true := by unfold namedP; cases hl : p.s.toList with | nil => exact absurd hl hS' | cons a r => rfl
              have HNP := Lib.hid hnp
              clear hnp
              go_quiet (fail)
              by_cases hcm : cap = out.length
              · subst hcm
                have htl : (out.take out.length).length = out.length := by rw [List.length_take]; omega
                have hdl : (out.drop out.length).length = out.length - out.length := List.length_drop
                have HTKS' := Lib.hid (show ∀ W, Below wr.heap.size wr W → Sl encS 1 W (.slice (some ⟨g, 0, none⟩) out.length out.length) (out.take out.length) from fun W hW => (HSW.out W (below_call hW hbq)).first hk)
                have HDRS' := Lib.hid (show ∀ W, Below wr.heap.size wr W → Sl encS 1 W (.slice (some ⟨g, 0, none⟩) 0 0) (out.drop out.length) from fun W hW => by
                  rw [List.drop_of_length_le (Nat.le_refl _)]
                  exact ⟨_, 0, rfl, Nat.le_refl _, by decide, fun i x hx => by simp at hx⟩)
                obtain ⟨tk, htk⟩ : ∃ l, out.take out.length = l := ⟨_, rfl⟩
                obtain ⟨dk, hdk⟩ : ∃ l, out.drop out.length = l := ⟨_, rfl⟩
                rw [htk] at htl HTKS'
                rw [hdk] at hdl HDRS'
                have HTKS := Lib.hid HTKS'.out
                have HDRS := Lib.hid HDRS'.out
                have hkc : (out.length : Int) ≤ (out.length : Int) := by omega
                clear htk hdk HTKS' HDRS'
                (have d3x := d3; go_wp2_with (first | (at_builtin; refine wpList_app _ rfl (.tmp 62) (.tmp 65) 44 rfl wr.heap.size 9 _ 1 16 Tryz.underlying44 info_str6 rfl (by decide) encS encS_len6 one_S6 (.slice none 0 0) 0 [] rfl (World.ownsRow_nil _ _ _ _) _ tk rfl (HTKS.out _ (by (repeat' (first | (with_reducible exact Below.refl _ _) | (with_reducible refine below_alloc ?_) | (with_reducible refine below_drew ?_) | (with_reducible refine below_drewN ?_) | (with_reducible refine below_set (by first | (simp; done) | (simp; omega)) ?_) | (with_reducible refine below_call (by with_reducible assumption) ?_))))) (by unfold maxLen; omega) (by omega) (by simp) ?_; intro v2 w2 ho2 hg2; have hb2 := below_grown (w := wr) (by (repeat' (first | (with_reducible exact Below.refl _ _) | (with_reducible refine below_alloc ?_) | (with_reducible refine below_drew ?_) | (with_reducible refine below_drewN ?_) | (with_reducible refine below_set (by first | (simp; done) | (simp; omega)) ?_) | (with_reducible refine below_call (by with_reducible assumption) ?_)))) hg2 (fun g hg => by simp [Value.ownBlock] at hg); have d32 := (hb2.cell (p := ⟨b, off + i * 5 + 3, none⟩) (World.block_lt_of_cell? _ _ d3x)).trans d3x) | (at_builtin; refine wpList_app _ rfl (.tmp 67) (.tmp 73) 44 rfl wr.heap.size 9 _ 1 16 Tryz.underlying44 info_str6 rfl (by decide) encS encS_len6 one_S6 v2 _ _ rfl (own_below ho2 (by (repeat' (first | (with_reducible exact Below.refl _ _) | (with_reducible refine below_alloc ?_) | (with_reducible refine below_drew ?_) | (with_reducible refine below_drewN ?_) | (with_reducible refine below_set (by simp; omega) ?_) | (with_reducible refine below_call (by with_reducible assumption) ?_))))) _ [p.s] rfl (by refine Sl.lit' ?_ _ _ _ _ _ _ ?_ ?_ ?_ ?_ <;> first | (intro _; rfl) | rfl | decide | (simp; done)) (by unfold maxLen; simp; omega) (by simp; omega) (by have := hb2.size; simp; omega) ?_; intro v3 w3 ho3 hg3; have hb3 := below_grown (w := wr) (below_alloc hb2) hg3 (own_ge ho2 (Nat.le_refl _))) | (at_builtin; refine wpList_app _ rfl (.tmp 75) (.tmp 78) 44 rfl wr.heap.size 9 _ 1 16 Tryz.underlying44 info_str6 rfl (by decide) encS encS_len6 one_S6 v3 _ _ rfl ho3 _ dk rfl (HDRS.out _ hb3) (by unfold maxLen; simp; omega) (by simp; omega) (by have := hb3.size; omega) ?_; intro v4 w4 ho4 hg4; have hb4 := below_grown (w := wr) hb3 hg4 (own_ge ho3 (Nat.le_refl _)))))
                go_roundg (x.length - (i + 1))
                case measure => omega
                case rel =>
                  refine ⟨i + 1, tk ++ [p.s] ++ dk, by go_num, by omega, by omega, by simp; omega, ?_, (show (tk ++ [p.s] ++ dk = [] ↔ (x.take (i + 1)).any namedP = false) from by rw [HTK.out, HNP.out, Bool.or_true]; simp), (show Below w.heap.size w _ from below_call hb4 (below_call hbq hB))⟩
                  show w4.ownsRow w.heap.size 9 1 v4 (tk ++ [p.s] ++ dk).length ((tk ++ [p.s] ++ dk).flatMap encS)
                  rw [List.flatMap_append, List.flatMap_append, List.length_append, List.length_append]
                  have h := own_base ho4 (show w.heap.size ≤ wr.heap.size by have := hbq.size; omega)
                  rw [Nat.zero_add, List.nil_append] at h
                  exact h
              · have htl : (out.take out.length).length = out.length := by rw [List.length_take]; omega
                have hdl : (out.drop out.length).length = out.length - out.length := List.length_drop
                have HTKS' := Lib.hid (show ∀ W, Below wr.heap.size wr W → Sl encS 1 W (.slice (some ⟨g, 0, none⟩) out.length cap) (out.take out.length) from fun W hW => (HSW.out W (below_call hW hbq)).first hk)
                have HDRS' := Lib.hid (show ∀ W, Below wr.heap.size wr W → Sl encS 1 W (.slice (some ⟨g, out.length, none⟩) 0 (cap - out.length)) (out.drop out.length) from fun W hW => by
                  rw [List.drop_of_length_le (Nat.le_refl _)]
                  exact ⟨_, _, rfl, Nat.zero_le _, by unfold maxLen at hmax; omega, fun i x hx => by simp at hx⟩)
                obtain ⟨tk, htk⟩ : ∃ l, out.take out.length = l := ⟨_, rfl⟩
                obtain ⟨dk, hdk⟩ : ∃ l, out.drop out.length = l := ⟨_, rfl⟩
                rw [htk] at htl HTKS'
                rw [hdk] at hdl HDRS'
                have HTKS := Lib.hid HTKS'.out
                have HDRS := Lib.hid HDRS'.out
                have hkc : (out.length : Int) ≤ (cap : Int) := by omega
                clear htk hdk HTKS' HDRS'
                (have d3x := d3; go_wp2_with (first | (at_builtin; refine wpList_app _ rfl (.tmp 62) (.tmp 65) 44 rfl wr.heap.size 9 _ 1 16 Tryz.underlying44 info_str6 rfl (by decide) encS encS_len6 one_S6 (.slice none 0 0) 0 [] rfl (World.ownsRow_nil _ _ _ _) _ tk rfl (HTKS.out _ (by (repeat' (first | (with_reducible exact Below.refl _ _) | (with_reducible refine below_alloc ?_) | (with_reducible refine below_drew ?_) | (with_reducible refine below_drewN ?_) | (with_reducible refine below_set (by first | (simp; done) | (simp; omega)) ?_) | (with_reducible refine below_call (by with_reducible assumption) ?_))))) (by unfold maxLen; omega) (by omega) (by simp) ?_; intro v2 w2 ho2 hg2; have hb2 := below_grown (w := wr) (by (repeat' (first | (with_reducible exact Below.refl _ _) | (with_reducible refine below_alloc ?_) | (with_reducible refine below_drew ?_) | (with_reducible refine below_drewN ?_) | (with_reducible refine below_set (by first | (simp; done) | (simp; omega)) ?_) | (with_reducible refine below_call (by with_reducible assumption) ?_)))) hg2 (fun g hg => by simp [Value.ownBlock] at hg); have d32 := (hb2.cell (p := ⟨b, off + i * 5 + 3, none⟩) (World.block_lt_of_cell? _ _ d3x)).trans d3x) | (at_builtin; refine wpList_app _ rfl (.tmp 67) (.tmp 73) 44 rfl wr.heap.size 9 _ 1 16 Tryz.underlying44 info_str6 rfl (by decide) encS encS_len6 one_S6 v2 _ _ rfl (own_below ho2 (by (repeat' (first | (with_reducible exact Below.refl _ _) | (with_reducible refine below_alloc ?_) | (with_reducible refine below_drew ?_) | (with_reducible refine below_drewN ?_) | (with_reducible refine below_set (by simp; omega) ?_) | (with_reducible refine below_call (by with_reducible assumption) ?_))))) _ [p.s] rfl (by refine Sl.lit' ?_ _ _ _ _ _ _ ?_ ?_ ?_ ?_ <;> first | (intro _; rfl) | rfl | decide | (simp; done)) (by unfold maxLen; simp; omega) (by simp; omega) (by have := hb2.size; simp; omega) ?_; intro v3 w3 ho3 hg3; have hb3 := below_grown (w := wr) (below_alloc hb2) hg3 (own_ge ho2 (Nat.le_refl _))) | (at_builtin; refine wpList_app _ rfl (.tmp 75) (.tmp 78) 44 rfl wr.heap.size 9 _ 1 16 Tryz.underlying44 info_str6 rfl (by decide) encS encS_len6 one_S6 v3 _ _ rfl ho3 _ dk rfl (HDRS.out _ hb3) (by unfold maxLen; simp; omega) (by simp; omega) (by have := hb3.size; omega) ?_; intro v4 w4 ho4 hg4; have hb4 := below_grown (w := wr) hb3 hg4 (own_ge ho3 (Nat.le_refl _)))))
                go_roundg (x.length - (i + 1))
                case measure => omega
                case rel =>
                  refine ⟨i + 1, tk ++ [p.s] ++ dk, by go_num, by omega, by omega, by simp; omega, ?_, (show (tk ++ [p.s] ++ dk = [] ↔ (x.take (i + 1)).any namedP = false) from by rw [HTK.out, HNP.out, Bool.or_true]; simp), (show Below w.heap.size w _ from below_call hb4 (below_call hbq hB))⟩
                  show w4.ownsRow w.heap.size 9 1 v4 (tk ++ [p.s] ++ dk).length ((tk ++ [p.s] ++ dk).flatMap encS)
                  rw [List.flatMap_append, List.flatMap_append, List.length_append, List.length_append]
                  have h := own_base ho4 (show w.heap.size ≤ wr.heap.size by have := hbq.size; omega)
                  rw [Nat.zero_add, List.nil_append] at h
                  exact h
    · obtain rfl : i = x.length := by omega
      have hltz : ¬ (x.length : Int) < (x.length : Int) := by omega
      have hlen : out.length ≤ 500 := by omega
      have HNN := Lib.hid (show out = [] ↔ x.any namedP = false from by have h := HN.out; rw [List.take_length] at h; exact h)
      obtain ⟨A5, c5, rfl⟩ := own_slice HO.out
      go_wp2
      go_ret2
      unfold NamesRR
      rw [HK0.out, if_neg (by simp)]
      exact ⟨⟨A5, out.length, c5, rfl, by rw [← HNN.out, List.length_eq_zero_iff], hlen⟩, by (repeat' (first | (with_reducible exact Below.refl _ _) | (with_reducible refine below_alloc ?_) | (with_reducible refine below_drew ?_) | (with_reducible refine below_drewN ?_) | (with_reducible refine below_set (by first | (simp; done) | (simp; omega)) ?_) | (with_reducible refine below_call (by with_reducible assumption) ?_)))⟩
end Go.Proofs.YtenjkplijblcoaaGreatDoor

/- capstanref10.Value, and FoldValues: what each call answers. -/
namespace Go.Proofs.YtenjkplijblcoaaGreatDoor
open Go.RowKit Cap
set_option maxRecDepth 100000

set_option maxHeartbeats 4000000 in
theorem rvalue_c (x : List Prt) (t : Int) (vx : Value) (w : World) (hx : Sl encPrt 5 w vx x) :
    Calls Tryz.prog 17 #[vx, .int .i64 t] w fun e w' => e = .returned (.tuple #[.int .i64 (valueX x t).1, .int .i64 (valueX x t).2]) ∧ Below w.heap.size w w' := by
  have HNM := Lib.hid (fun W (hW : Below w.heap.size w W) => rnames_c x vx W (hx.below hW))
  have HFD := Lib.hid (fun W (hW : Below w.heap.size w W) => rfold_c [] x t (.slice none 0 0) vx W (Sl.nil _ _ _) (hx.below hW))
  unfold NamesRR at HNM
  unfold FoldRR at HFD
  obtain ⟨Ax, cx, rfl, -, -, -⟩ := hx
  by_cases hc : checkX x = 0
  case neg =>
    have hb := ne_i hc
    have hn : (checkX x != 0) = true := by simpa using hc
    have HV := Lib.hid (show valueX x t = (0, checkX x) by unfold valueX; rw [if_pos hc])
    simp only [ne_eq, hc, not_false_eq_true, if_true] at HNM
    obtain ⟨f, hf⟩ : ∃ f, checkX x = f := ⟨_, rfl⟩
    rw [hf] at HNM hb hn HV
    clear hf hc HFD
    go_enter Tryz.func17, Tryz.ntmps17
    go_wp2_with (go_at_call 32; refine (HNM.out _ (by (repeat' (first | (with_reducible exact Below.refl _ _) | (with_reducible refine below_alloc ?_) | (with_reducible refine below_drew ?_) | (with_reducible refine below_drewN ?_) | (with_reducible refine below_set (by first | (simp; done) | (simp; omega)) ?_) | (with_reducible refine below_call (by with_reducible assumption) ?_))))).mono ?_; rintro e w1 ⟨rfl, hb1⟩)
    go_ret2
    exact ⟨by rw [HV.out]; rfl, by (repeat' (first | (with_reducible exact Below.refl _ _) | (with_reducible refine below_alloc ?_) | (with_reducible refine below_drew ?_) | (with_reducible refine below_drewN ?_) | (with_reducible refine below_set (by first | (simp; done) | (simp; omega)) ?_) | (with_reducible refine below_call (by with_reducible assumption) ?_)))⟩
  simp only [hc, ne_eq, not_true_eq_false, if_false] at HNM
  obtain ⟨an, han⟩ : ∃ q, x.any namedP = q := ⟨_, rfl⟩
  have HAN := Lib.hid han
  have HV := Lib.hid (show valueX x t = if x.any namedP = true then (0, 90) else if fitsX [] x t ≠ 0 then (0, fitsX [] x t)
    else if 1 < (foldX (askX [] t (treeL x))).length then (0, 41) else (((foldX (askX [] t (treeL x))).getD 0 (numP 0 0)).n, 0) by unfold valueX; rw [if_neg (by simp [hc])])
  have HC0 := Lib.hid hc
  rw [han] at HNM HV
  clear han hc
  cases an with
  | true =>
    have HV2 := Lib.hid (show valueX x t = (0, 90) by rw [HV.out, if_pos rfl])
    clear HV HFD
    go_enter Tryz.func17, Tryz.ntmps17
    go_wp2_with (go_at_call 32; refine (HNM.out _ (by (repeat' (first | (with_reducible exact Below.refl _ _) | (with_reducible refine below_alloc ?_) | (with_reducible refine below_drew ?_) | (with_reducible refine below_drewN ?_) | (with_reducible refine below_set (by first | (simp; done) | (simp; omega)) ?_) | (with_reducible refine below_call (by with_reducible assumption) ?_))))).mono ?_; rintro e w1 ⟨⟨A, n, c, rfl, hn0, hn5⟩, hb1⟩; have hnz : (0 : Int) < (n : Int) := (by rcases Nat.eq_zero_or_pos n with h | h; (focus (exact absurd (hn0.1 h) (by simp))); (focus omega)); clear hn0)
    go_ret2
    exact ⟨by rw [HV2.out]; rfl, by (repeat' (first | (with_reducible exact Below.refl _ _) | (with_reducible refine below_alloc ?_) | (with_reducible refine below_drew ?_) | (with_reducible refine below_drewN ?_) | (with_reducible refine below_set (by first | (simp; done) | (simp; omega)) ?_) | (with_reducible refine below_call (by with_reducible assumption) ?_)))⟩
  | false =>
    have HV := Lib.hid (show valueX x t = if fitsX [] x t ≠ 0 then (0, fitsX [] x t)
      else if 1 < (foldX (askX [] t (treeL x))).length then (0, 41) else (((foldX (askX [] t (treeL x))).getD 0 (numP 0 0)).n, 0) by rw [HV.out, if_neg (by simp)])
    obtain ⟨f, hf⟩ : ∃ f, fitsX [] x t = f := ⟨_, rfl⟩
    rw [hf] at HFD HV
    by_cases hf0 : f = 0
    case neg =>
      have hfb := ne_i hf0
      have hfn : (f != 0) = true := by simpa using hf0
      have HV2 := Lib.hid (show valueX x t = (0, f) by rw [HV.out, if_pos hf0])
      simp only [ne_eq, hf0, not_false_eq_true, if_true] at HFD
      clear HV hf hf0
      go_enter Tryz.func17, Tryz.ntmps17
      go_wp2_with (first | (go_at_call 32; refine (HNM.out _ (by (repeat' (first | (with_reducible exact Below.refl _ _) | (with_reducible refine below_alloc ?_) | (with_reducible refine below_drew ?_) | (with_reducible refine below_drewN ?_) | (with_reducible refine below_set (by first | (simp; done) | (simp; omega)) ?_) | (with_reducible refine below_call (by with_reducible assumption) ?_))))).mono ?_; rintro e w1 ⟨⟨A, n, c, rfl, hn0, hn5⟩, hb1⟩; obtain rfl : n = 0 := (by simpa using hn0)) | (go_at_call 12; refine (HFD.out _ (by (repeat' (first | (with_reducible exact Below.refl _ _) | (with_reducible refine below_alloc ?_) | (with_reducible refine below_drew ?_) | (with_reducible refine below_drewN ?_) | (with_reducible refine below_set (by first | (simp; done) | (simp; omega)) ?_) | (with_reducible refine below_call (by with_reducible assumption) ?_))))).mono ?_; rintro e w2 ⟨rfl, hb2⟩))
      go_ret2
      exact ⟨by rw [HV2.out]; rfl, by (repeat' (first | (with_reducible exact Below.refl _ _) | (with_reducible refine below_alloc ?_) | (with_reducible refine below_drew ?_) | (with_reducible refine below_drewN ?_) | (with_reducible refine below_set (by first | (simp; done) | (simp; omega)) ?_) | (with_reducible refine below_call (by with_reducible assumption) ?_)))⟩
    subst hf0
    have HV := Lib.hid (show valueX x t = if 1 < (foldX (askX [] t (treeL x))).length then (0, 41) else (((foldX (askX [] t (treeL x))).getD 0 (numP 0 0)).n, 0) by rw [HV.out, if_neg (by simp)])
    simp only [ne_eq, not_true_eq_false, if_false] at HFD
    obtain ⟨h1, -⟩ := foldX_len (askX [] t (treeL x))
    obtain ⟨L, hL⟩ : ∃ L, foldX (askX [] t (treeL x)) = L := ⟨_, rfl⟩
    rw [hL] at HFD HV h1
    clear hL hf
    match L, h1, HFD, HV with
    | q :: r, _, HFD, HV =>
      by_cases hr : 1 < (q :: r).length
      · have hrz : (1 : Int) < (((q :: r).length : Nat) : Int) := by omega
        have HV2 := Lib.hid (show valueX x t = (0, 41) by rw [HV.out, if_pos hr])
        obtain ⟨n9, hn9⟩ : ∃ n, (q :: r).length = n := ⟨_, rfl⟩
        have HN9 := Lib.hid hn9
        rw [hn9] at hrz
        clear HV hr hn9
        go_enter Tryz.func17, Tryz.ntmps17
        go_wp2_with (first | (go_at_call 32; refine (HNM.out _ (by (repeat' (first | (with_reducible exact Below.refl _ _) | (with_reducible refine below_alloc ?_) | (with_reducible refine below_drew ?_) | (with_reducible refine below_drewN ?_) | (with_reducible refine below_set (by first | (simp; done) | (simp; omega)) ?_) | (with_reducible refine below_call (by with_reducible assumption) ?_))))).mono ?_; rintro e w1 ⟨⟨A, n, c, rfl, hn0, hn5⟩, hb1⟩; obtain rfl : n = 0 := (by simpa using hn0)) | (go_at_call 12; refine (HFD.out _ (by (repeat' (first | (with_reducible exact Below.refl _ _) | (with_reducible refine below_alloc ?_) | (with_reducible refine below_drew ?_) | (with_reducible refine below_drewN ?_) | (with_reducible refine below_set (by first | (simp; done) | (simp; omega)) ?_) | (with_reducible refine below_call (by with_reducible assumption) ?_))))).mono ?_; rintro e w2 ⟨⟨v2, rfl, hS2⟩, hb2⟩; obtain ⟨A2, c2, rfl, -, -, -⟩ := hS2; rw [HN9.out]))
        go_ret2
        exact ⟨by rw [HV2.out]; rfl, by (repeat' (first | (with_reducible exact Below.refl _ _) | (with_reducible refine below_alloc ?_) | (with_reducible refine below_drew ?_) | (with_reducible refine below_drewN ?_) | (with_reducible refine below_set (by first | (simp; done) | (simp; omega)) ?_) | (with_reducible refine below_call (by with_reducible assumption) ?_)))⟩
      · have hr0 : r = [] := by
          cases r with
          | nil => rfl
          | cons a r => simp at hr
        subst hr0
        have HV2 := Lib.hid (show valueX x t = (q.n, 0) by rw [HV.out, if_neg hr]; rfl)
        clear HV hr
        go_enter Tryz.func17, Tryz.ntmps17
        go_wp2_with (first | (go_at_call 32; refine (HNM.out _ (by (repeat' (first | (with_reducible exact Below.refl _ _) | (with_reducible refine below_alloc ?_) | (with_reducible refine below_drew ?_) | (with_reducible refine below_drewN ?_) | (with_reducible refine below_set (by first | (simp; done) | (simp; omega)) ?_) | (with_reducible refine below_call (by with_reducible assumption) ?_))))).mono ?_; rintro e w1 ⟨⟨A, n, c, rfl, hn0, hn5⟩, hb1⟩; obtain rfl : n = 0 := (by simpa using hn0)) | (go_at_call 12; refine (HFD.out _ (by (repeat' (first | (with_reducible exact Below.refl _ _) | (with_reducible refine below_alloc ?_) | (with_reducible refine below_drew ?_) | (with_reducible refine below_drewN ?_) | (with_reducible refine below_set (by first | (simp; done) | (simp; omega)) ?_) | (with_reducible refine below_call (by with_reducible assumption) ?_))))).mono ?_; rintro e w2 ⟨⟨v2, rfl, hS2⟩, hb2⟩; obtain ⟨A2, c2, rfl, hl2, -, hc2⟩ := hS2; obtain ⟨b2, o2, rfl, hb2', hcx2⟩ := hc2 0 q rfl; have e1 : w2.cell? ⟨b2, o2 + 1, none⟩ = some (.int .i64 q.n) := (by simpa using hcx2 1 _ rfl); rw [show [q].length = 1 from rfl]))
        go_ret2
        exact ⟨by rw [HV2.out]; rfl, by (repeat' (first | (with_reducible exact Below.refl _ _) | (with_reducible refine below_alloc ?_) | (with_reducible refine below_drew ?_) | (with_reducible refine below_drewN ?_) | (with_reducible refine below_set (by first | (simp; done) | (simp; omega)) ?_) | (with_reducible refine below_call (by with_reducible assumption) ?_)))⟩
set_option maxHeartbeats 4000000 in
theorem foldValues_c (x : List Prt) (t : Int) (vx : Value) (w : World) (hx : Sl encPrt 5 w vx x) (hpo : ∀ p ∈ x, PrtOk p) (hG : G w) :
    Calls Tryz.prog 4 #[vx, .int .i64 t] w fun e w' => e = .returned (.bool true) ∧ Below w.heap.size w w' := by
  have HWK := Lib.hid (fun W (hW : Below w.heap.size w W) => works_c W (hG.below hW))
  have HVA := Lib.hid (fun W (hW : Below w.heap.size w W) => value_c x t vx W (hx.below hW) hpo (hG.below hW))
  have HVB := Lib.hid (fun W (hW : Below w.heap.size w W) => rvalue_c x t vx W (hx.below hW))
  obtain ⟨Ax, cx, rfl, -, -, -⟩ := hx
  obtain ⟨⟨a, e⟩, hae⟩ : ∃ q, valueX x t = q := ⟨_, rfl⟩
  rw [hae] at HVA HVB
  simp only at HVA HVB
  clear hae hpo hG
  go_enter Tryz.func4, Tryz.ntmps4
  go_wp2_with (first | (go_at_call 15; refine (HWK.out _ (by (repeat' (first | (with_reducible exact Below.refl _ _) | (with_reducible refine below_alloc ?_) | (with_reducible refine below_drew ?_) | (with_reducible refine below_drewN ?_) | (with_reducible refine below_set (by first | (simp; done) | (simp; omega)) ?_) | (with_reducible refine below_call (by with_reducible assumption) ?_))))).mono ?_; rintro e' w1 ⟨rfl, hb1⟩) | (go_at_call 16; refine (HVA.out _ (by (repeat' (first | (with_reducible exact Below.refl _ _) | (with_reducible refine below_alloc ?_) | (with_reducible refine below_drew ?_) | (with_reducible refine below_drewN ?_) | (with_reducible refine below_set (by first | (simp; done) | (simp; omega)) ?_) | (with_reducible refine below_call (by with_reducible assumption) ?_))))).mono ?_; rintro e' w2 ⟨rfl, hb2⟩) | (go_at_call 17; refine (HVB.out _ (by (repeat' (first | (with_reducible exact Below.refl _ _) | (with_reducible refine below_alloc ?_) | (with_reducible refine below_drew ?_) | (with_reducible refine below_drewN ?_) | (with_reducible refine below_set (by first | (simp; done) | (simp; omega)) ?_) | (with_reducible refine below_call (by with_reducible assumption) ?_))))).mono ?_; rintro e' w3 ⟨rfl, hb3⟩))
  go_ret
  exact ⟨rfl, by (repeat' (first | (with_reducible exact Below.refl _ _) | (with_reducible refine below_alloc ?_) | (with_reducible refine below_drew ?_) | (with_reducible refine below_drewN ?_) | (with_reducible refine below_set (by first | (simp; done) | (simp; omega)) ?_) | (with_reducible refine below_call (by with_reducible assumption) ?_)))⟩
end Go.Proofs.YtenjkplijblcoaaGreatDoor
