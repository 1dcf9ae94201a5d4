/- fold.Value. -/
import Derived.Test.YtenjkplijblcoaaGreatDoorCNames
import Derived.Test.YtenjkplijblcoaaGreatDoorCRes
set_option linter.unusedSimpArgs false
set_option linter.unusedVariables false
namespace Cap
open Go Go.RowKit Go.Maps
theorem namesL_nil (x : List Prt) : namesL x = [] ↔ x.any namedP = false := by
  have hk : keysOf x = [] ↔ x.any namedP = false := by
    unfold keysOf
    rw [List.map_eq_nil_iff, List.filter_eq_nil_iff, List.any_eq_false]
  rw [← hk]
  constructor
  · intro h
    have hl : (strKeys (namesD x)).length = 0 := by
      have := congrArg List.length h
      unfold namesL at this
      rw [List.length_mergeSort] at this
      exact this
    obtain ⟨es, he, _⟩ := tidy_setOf (.lit (.bool true) : DataW Unit) (keysOf x) (keysOf_lit x)
    unfold namesD at hl
    rw [he] at hl
    have hes : es = [] := by
      apply List.eq_nil_of_length_eq_zero
      simpa [strKeys] using hl
    match hx : keysOf x with
    | [] => rfl
    | k :: r =>
      exfalso
      have hh := has_setOf (.lit (.bool true) : DataW Unit) k (keysOf x) (keysOf_lit x)
      rw [he, hes, hx, List.any_cons] at hh
      have hkl := keysOf_lit x k (by rw [hx]; simp)
      have hs : k.sameKey k = true := by
        have := has_put_same (D := (.map [] : DataW Unit)) isMap_empty hkl (.lit (.bool true))
        rw [has_put_same isMap_empty hkl] at this
        have h2 : (Lit.sameKey k k) = true := by
          unfold keysOf at hx
          have hm : k ∈ (x.filter namedP).map fun p => Lit.string p.s.data.toList := by rw [hx]; simp
          rw [List.mem_map] at hm
          obtain ⟨p, _, rfl⟩ := hm
          simp [Lit.sameKey]
        exact h2
      rw [hs] at hh
      cases hh
  · intro h
    apply List.eq_nil_of_length_eq_zero
    unfold namesL namesD
    rw [h, List.length_mergeSort]
    rfl
end Cap
namespace Go.Proofs.YtenjkplijblcoaaGreatDoor
open Go.RowKit Cap
set_option maxRecDepth 100000

theorem prt_one {base : Nat} {w : World} {v : Value} {q : Prt} (h : w.ownsRow base 38 5 v [q].length ([q].flatMap encPrt)) : ∃ g cap, v = .slice (some ⟨g, 0, none⟩) 1 cap ∧ w.cell? ⟨g, 1, none⟩ = some (.int .i64 q.n) := by
  obtain ⟨g, cap, rfl, _, _⟩ := h.form (by simp)
  obtain ⟨A', c', e', _, _, hcell⟩ := Sl.own encPrt_len h rfl
  obtain ⟨b', off', he, hb', hcx⟩ := hcell 0 _ rfl
  injection e' with e1 e2 e3
  subst e1
  injection he with he
  injection he with e1 e2 _
  subst e1 e2
  exact ⟨g, cap, rfl, by simpa using hcx 1 _ rfl⟩
set_option maxHeartbeats 4000000 in
theorem value_c (x : List Prt) (t : Int) (vx : Value) (w : World) (hx : Sl encPrt 5 w vx x) (hpo : ∀ p ∈ x, PrtOk p) (hG : G w) :
    Calls Tryz.prog 16 #[vx, .int .i64 t] w fun e w' => e = .returned (.tuple #[.int .i64 (valueX x t).1, .int .i64 (valueX x t).2]) ∧ Below w.heap.size w w' := by
  have HNM := Lib.hid (show ∀ W, Below w.heap.size w W → Calls Tryz.prog 22 #[vx] W (NamesR x W) from fun W hW => names_c x vx W (hx.below hW) (hG.below hW) hpo)
  have HFD := Lib.hid (show ∀ W, Below w.heap.size w W → Calls Tryz.prog 11 #[.slice none 0 0, vx, .int .i64 t] W (FoldVR [] x t W) from fun W hW => fold_c [] x t _ vx W (Sl.nil _ _ _) (fun v h => by cases h) (hx.below hW) hpo (hG.below hW))
  unfold NamesR at HNM
  unfold FoldVR at HFD
  obtain ⟨Ax, cx, rfl, -, -, -⟩ := hx
  unfold valueX
  by_cases hc : checkX x = 0
  case neg =>
    have hb := ne_i hc
    have hn : (checkX x != 0) = true := by simpa using hc
    rw [if_pos hc]
    simp only [ne_eq, hc, not_false_eq_true, if_true] at HNM
    generalize checkX x = f at *
    clear hG hpo
    go_enter Tryz.func16, Tryz.ntmps16
    go_wp2_with (go_at_call 22; refine (HNM.out _ (by (repeat' (first | (with_reducible exact Below.refl _ _) | (with_reducible refine below_alloc ?_) | (with_reducible refine below_drew ?_) | (with_reducible refine below_drewN ?_) | (with_reducible refine below_set (by first | (simp; done) | (simp; omega)) ?_) | (with_reducible refine below_call (by with_reducible assumption) ?_))))).mono ?_; rintro e w1 ⟨rfl, hb1⟩)
    go_ret2
    exact ⟨rfl, by (repeat' (first | (with_reducible exact Below.refl _ _) | (with_reducible refine below_alloc ?_) | (with_reducible refine below_drew ?_) | (with_reducible refine below_drewN ?_) | (with_reducible refine below_set (by first | (simp; done) | (simp; omega)) ?_) | (with_reducible refine below_call (by with_reducible assumption) ?_)))⟩
  rw [if_neg (by simp [hc])]
  have hcx := hc
  obtain ⟨hTok, _⟩ := tree_in hcx
  have HNE := Lib.hid (foldX_ne (ask_ok [] (treeL x) t hTok))
  simp only [hc, ne_eq, not_true_eq_false, if_false] at HNM
  clear hc hcx hG hpo
  cases hn : x.any namedP with
  | true =>
    rw [if_pos rfl]
    have hl : namesL x ≠ [] := fun h => by rw [(namesL_nil x).1 h] at hn; cases hn
    have HLP := Lib.hid (show 0 < (namesL x).length from List.length_pos_iff.2 hl)
    have hz : (0 : Int) < ((namesL x).length : Int) := by have := HLP.out; omega
    clear hn hl
    go_enter Tryz.func16, Tryz.ntmps16
    go_wp2_with (go_at_call 22; refine (HNM.out _ (by (repeat' (first | (with_reducible exact Below.refl _ _) | (with_reducible refine below_alloc ?_) | (with_reducible refine below_drew ?_) | (with_reducible refine below_drewN ?_) | (with_reducible refine below_set (by first | (simp; done) | (simp; omega)) ?_) | (with_reducible refine below_call (by with_reducible assumption) ?_))))).mono ?_; rintro e w1 ⟨⟨v, rfl, ho1, hv1⟩, hb1⟩; obtain ⟨g, cap, rfl, _, _⟩ := ho1.form HLP.out)
    go_ret2
    exact ⟨rfl, by (repeat' (first | (with_reducible exact Below.refl _ _) | (with_reducible refine below_alloc ?_) | (with_reducible refine below_drew ?_) | (with_reducible refine below_drewN ?_) | (with_reducible refine below_set (by first | (simp; done) | (simp; omega)) ?_) | (with_reducible refine below_call (by with_reducible assumption) ?_)))⟩
  | false =>
    rw [if_neg (by simp)]
    have HLN := Lib.hid ((namesL_nil x).2 hn)
    clear hn
    by_cases hf : fitsX [] x t = 0
    case neg =>
      have hb := ne_i hf
      have hn : (fitsX [] x t != 0) = true := by simpa using hf
      rw [if_pos hf]
      simp only [ne_eq, hf, not_false_eq_true, if_true] at HFD
      generalize fitsX [] x t = f at *
      go_enter Tryz.func16, Tryz.ntmps16
      go_wp2_with (first | (go_at_call 22; refine (HNM.out _ (by (repeat' (first | (with_reducible exact Below.refl _ _) | (with_reducible refine below_alloc ?_) | (with_reducible refine below_drew ?_) | (with_reducible refine below_drewN ?_) | (with_reducible refine below_set (by first | (simp; done) | (simp; omega)) ?_) | (with_reducible refine below_call (by with_reducible assumption) ?_))))).mono ?_; rintro e w1 ⟨⟨v, rfl, ho1, hv1⟩, hb1⟩; obtain rfl := hv1.2 HLN.out; clear hv1) | (go_at_call 11; refine (HFD.out _ (by (repeat' (first | (with_reducible exact Below.refl _ _) | (with_reducible refine below_alloc ?_) | (with_reducible refine below_drew ?_) | (with_reducible refine below_drewN ?_) | (with_reducible refine below_set (by first | (simp; done) | (simp; omega)) ?_) | (with_reducible refine below_call (by with_reducible assumption) ?_))))).mono ?_; rintro e w2 ⟨rfl, hb2⟩))
      go_ret2
      exact ⟨rfl, by (repeat' (first | (with_reducible exact Below.refl _ _) | (with_reducible refine below_alloc ?_) | (with_reducible refine below_drew ?_) | (with_reducible refine below_drewN ?_) | (with_reducible refine below_set (by first | (simp; done) | (simp; omega)) ?_) | (with_reducible refine below_call (by with_reducible assumption) ?_)))⟩
    rw [if_neg (by simp [hf])]
    simp only [hf, ne_eq, not_true_eq_false, if_false] at HFD
    clear hf
    generalize foldX (askX [] t (treeL x)) = L at *
    have HLP := Lib.hid (show 0 < L.length from List.length_pos_iff.2 HNE.out)
    by_cases h1 : 1 < L.length
    · rw [if_pos h1]
      have hz : (1 : Int) < (L.length : Int) := by omega
      go_enter Tryz.func16, Tryz.ntmps16
      go_wp2_with (first | (go_at_call 22; refine (HNM.out _ (by (repeat' (first | (with_reducible exact Below.refl _ _) | (with_reducible refine below_alloc ?_) | (with_reducible refine below_drew ?_) | (with_reducible refine below_drewN ?_) | (with_reducible refine below_set (by first | (simp; done) | (simp; omega)) ?_) | (with_reducible refine below_call (by with_reducible assumption) ?_))))).mono ?_; rintro e w1 ⟨⟨v, rfl, ho1, hv1⟩, hb1⟩; obtain rfl := hv1.2 HLN.out; clear hv1) | (go_at_call 11; refine (HFD.out _ (by (repeat' (first | (with_reducible exact Below.refl _ _) | (with_reducible refine below_alloc ?_) | (with_reducible refine below_drew ?_) | (with_reducible refine below_drewN ?_) | (with_reducible refine below_set (by first | (simp; done) | (simp; omega)) ?_) | (with_reducible refine below_call (by with_reducible assumption) ?_))))).mono ?_; rintro e w2 ⟨⟨u, rfl, ho2⟩, hb2⟩; obtain ⟨g, cap, rfl, _, _⟩ := ho2.form HLP.out))
      go_ret2
      exact ⟨rfl, by (repeat' (first | (with_reducible exact Below.refl _ _) | (with_reducible refine below_alloc ?_) | (with_reducible refine below_drew ?_) | (with_reducible refine below_drewN ?_) | (with_reducible refine below_set (by first | (simp; done) | (simp; omega)) ?_) | (with_reducible refine below_call (by with_reducible assumption) ?_)))⟩
    · rw [if_neg h1]
      have hl1 : L.length = 1 := by have := HLP.out; omega
      obtain ⟨q, rfl⟩ := List.length_eq_one_iff.1 hl1
      simp only [List.getD_cons_zero]
      clear h1 hl1
      go_enter Tryz.func16, Tryz.ntmps16
      go_wp2_with (first | (go_at_call 22; refine (HNM.out _ (by (repeat' (first | (with_reducible exact Below.refl _ _) | (with_reducible refine below_alloc ?_) | (with_reducible refine below_drew ?_) | (with_reducible refine below_drewN ?_) | (with_reducible refine below_set (by first | (simp; done) | (simp; omega)) ?_) | (with_reducible refine below_call (by with_reducible assumption) ?_))))).mono ?_; rintro e w1 ⟨⟨v, rfl, ho1, hv1⟩, hb1⟩; obtain rfl := hv1.2 HLN.out; clear hv1) | (go_at_call 11; refine (HFD.out _ (by (repeat' (first | (with_reducible exact Below.refl _ _) | (with_reducible refine below_alloc ?_) | (with_reducible refine below_drew ?_) | (with_reducible refine below_drewN ?_) | (with_reducible refine below_set (by first | (simp; done) | (simp; omega)) ?_) | (with_reducible refine below_call (by with_reducible assumption) ?_))))).mono ?_; rintro e w2 ⟨⟨u, rfl, ho2⟩, hb2⟩; obtain ⟨g, cap, rfl, hy1⟩ := prt_one ho2))
      go_ret2
      exact ⟨rfl, by (repeat' (first | (with_reducible exact Below.refl _ _) | (with_reducible refine below_alloc ?_) | (with_reducible refine below_drew ?_) | (with_reducible refine below_drewN ?_) | (with_reducible refine below_set (by first | (simp; done) | (simp; omega)) ?_) | (with_reducible refine below_call (by with_reducible assumption) ?_)))⟩
end Go.Proofs.YtenjkplijblcoaaGreatDoor
