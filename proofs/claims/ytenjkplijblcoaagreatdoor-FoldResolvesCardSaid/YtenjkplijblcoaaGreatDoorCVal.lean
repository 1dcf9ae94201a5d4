/- fold.Value. -/
import Derived.Test.YtenjkplijblcoaaGreatDoorCNames
import Derived.Test.YtenjkplijblcoaaGreatDoorCRes
import Derived.Test.YtenjkplijblcoaaGreatDoorCTree5
set_option linter.unusedSimpArgs false
set_option linter.unusedVariables false
namespace Cap
open Go Go.RowKit Go.Maps
theorem namesL_nil (x : List Prt) : namesL x = [] ↔ x.any namedP = false := by
  have hk : keysOf x = [] ↔ x.any namedP = false := by
    unfold keysOf
    rw [List.map_eq_nil_iff, List.filter_eq_nil_iff, List.any_eq_false]
  rw [← hk]
  constructor
  · intro h
    have hl : (strKeys (namesD x)).length = 0 := by
      have := congrArg List.length h
      unfold namesL at this
      rw [List.length_mergeSort] at this
      exact this
    obtain ⟨es, he, _⟩ := tidy_setOf (.lit (.bool true) : DataW Unit) (keysOf x) (keysOf_lit x)
    unfold namesD at hl
    rw [he] at hl
    have hes : es = [] := by
      apply List.eq_nil_of_length_eq_zero
      simpa [strKeys] using hl
    match hx : keysOf x with
    | [] => rfl
    | k :: r =>
      exfalso
      have hh := has_setOf (.lit (.bool true) : DataW Unit) k (keysOf x) (keysOf_lit x)
      rw [he, hes, hx, List.any_cons] at hh
      have hkl := keysOf_lit x k (by rw [hx]; simp)
      have hs : k.sameKey k = true := by
        have := has_put_same (D := (.map [] : DataW Unit)) isMap_empty hkl (.lit (.bool true))
        rw [has_put_same isMap_empty hkl] at this
        have h2 : (Lit.sameKey k k) = true := by
          unfold keysOf at hx
          have hm : k ∈ (x.filter namedP).map fun p => Lit.string p.s.data.toList := by rw [hx]; simp
          rw [List.mem_map] at hm
          obtain ⟨p, _, rfl⟩ := hm
          simp [Lit.sameKey]
        exact h2
      rw [hs] at hh
      cases hh
  · intro h
    apply List.eq_nil_of_length_eq_zero
    unfold namesL namesD
    rw [h, List.length_mergeSort]
    rfl
end Cap
namespace Go.Proofs.YtenjkplijblcoaaGreatDoor
open Go.RowKit Cap
set_option maxRecDepth 100000

theorem prt_one {base : Nat} {w : World} {v : Value} {q : Prt} (h : w.ownsRow base 38 5 v [q].length ([q].flatMap encPrt)) : ∃ g cap, v = .slice (some ⟨g, 0, none⟩) 1 cap ∧ w.cell? ⟨g, 1, none⟩ = some (.int .i64 q.n) := by
  obtain ⟨g, cap, rfl, _, _⟩ := h.form (by simp)
  obtain ⟨A', c', e', _, _, hcell⟩ := Sl.own encPrt_len h rfl
  obtain ⟨b', off', he, hb', hcx⟩ := hcell 0 _ rfl
  injection e' with e1 e2 e3
  subst e1
  injection he with he
  injection he with e1 e2 _
  subst e1 e2
  exact ⟨g, cap, rfl, by simpa using hcx 1 _ rfl⟩
set_option maxHeartbeats 4000000 in
theorem value_c (x : List Prt) (t : Int) (vx : Value) (w : World) (hx : Sl encPrt 5 w vx x) (hpo : ∀ p ∈ x, PrtOk p) (hG : G w) :
    Calls Tryz.prog 16 #[vx, .int .i64 t] w fun e w' => e = .returned (.tuple #[.int .i64 (valueX x t).1, .int .i64 (valueX x t).2]) ∧ Below w.heap.size w w' := by
  have HNM := Lib.hid (show ∀ W, Below w.heap.size w W → Calls Tryz.prog 22 #[vx] W (NamesR x W) from fun W hW => names_c x vx W (hx.below hW) (hG.below hW) hpo)
  have HFD := Lib.hid (show ∀ W, Below w.heap.size w W → Calls Tryz.prog 11 #[.slice none 0 0, vx, .int .i64 t] W (FoldVR [] x t W) from fun W hW => fold_c [] x t _ vx W (Sl.nil _ _ _) (fun v h => by cases h) (hx.below hW) hpo (hG.below hW))
  unfold NamesR at HNM
  unfold FoldVR at HFD
  obtain ⟨Ax, cx, rfl, -, -, -⟩ := hx
  unfold valueX
  by_cases hc : checkX x = 0
  case neg =>
    have hb := ne_i hc
    have hn : (checkX x != 0) = true := by simpa using hc
    rw [if_pos hc]
    simp only [ne_eq, hc, not_false_eq_true, if_true] at HNM
    generalize checkX x = f at *
    clear hG hpo
    go_enter Tryz.func16, Tryz.ntmps16
    go_wp2_with (go_at_call 22; refine (HNM.out _ (by (repeat' (first | (with_reducible exact Below.refl _ _) | (with_reducible refine below_alloc ?_) | (with_reducible refine below_drew ?_) | (with_reducible refine below_drewN ?_) | (with_reducible refine below_set (by first | (simp; done) | (simp; omega)) ?_) | (with_reducible refine below_call (by with_reducible assumption) ?_))))).mono ?_; rintro e w1 ⟨rfl, hb1⟩)
    go_ret2
    exact ⟨rfl, by (repeat' (first | (with_reducible exact Below.refl _ _) | (with_reducible refine below_alloc ?_) | (with_reducible refine below_drew ?_) | (with_reducible refine below_drewN ?_) | (with_reducible refine below_set (by first | (simp; done) | (simp; omega)) ?_) | (with_reducible refine below_call (by with_reducible assumption) ?_)))⟩
  rw [if_neg (by simp [hc])]
  have hcx := hc
  obtain ⟨hTok, _⟩ := tree_in hcx
  have HNE := Lib.hid (foldX_ne (ask_ok [] (treeL x) t hTok))
  simp only [hc, ne_eq, not_true_eq_false, if_false] at HNM
  clear hc hcx hG hpo
  cases hn : x.any namedP with
  | true =>
    rw [if_pos rfl]
    have hl : namesL x ≠ [] := fun h => by rw [(namesL_nil x).1 h] at hn; cases hn
    have HLP := Lib.hid (show 0 < (namesL x).length from List.length_pos_iff.2 hl)
    have hz : (0 : Int) < ((namesL x).length : Int) := by have := HLP.out; omega
    clear hn hl
    go_enter Tryz.func16, Tryz.ntmps16
    go_wp2_with (go_at_call 22; refine (HNM.out _ (by (repeat' (first | (with_reducible exact Below.refl _ _) | (with_reducible refine below_alloc ?_) | (with_reducible refine below_drew ?_) | (with_reducible refine below_drewN ?_) | (with_reducible refine below_set (by first | (simp; done) | (simp; omega)) ?_) | (with_reducible refine below_call (by with_reducible assumption) ?_))))).mono ?_; rintro e w1 ⟨⟨v, rfl, ho1, hv1⟩, hb1⟩; obtain ⟨g, cap, rfl, _, _⟩ := ho1.form HLP.out)
    go_ret2
    exact ⟨rfl, by (repeat' (first | (with_reducible exact Below.refl _ _) | (with_reducible refine below_alloc ?_) | (with_reducible refine below_drew ?_) | (with_reducible refine below_drewN ?_) | (with_reducible refine below_set (by first | (simp; done) | (simp; omega)) ?_) | (with_reducible refine below_call (by with_reducible assumption) ?_)))⟩
  | false =>
    rw [if_neg (by simp)]
    have HLN := Lib.hid ((namesL_nil x).2 hn)
    clear hn
    by_cases hf : fitsX [] x t = 0
    case neg =>
      have hb := ne_i hf
      have hn : (fitsX [] x t != 0) = true := by simpa using hf
      rw [if_pos hf]
      simp only [ne_eq, hf, not_false_eq_true, if_true] at HFD
      generalize fitsX [] x t = f at *
      go_enter Tryz.func16, Tryz.ntmps16
      go_wp2_with (first | (go_at_call 22; refine (HNM.out _ (by (repeat' (first | (with_reducible exact Below.refl _ _) | (with_reducible refine below_alloc ?_) | (with_reducible refine below_drew ?_) | (with_reducible refine below_drewN ?_) | (with_reducible refine below_set (by first | (simp; done) | (simp; omega)) ?_) | (with_reducible refine below_call (by with_reducible assumption) ?_))))).mono ?_; rintro e w1 ⟨⟨v, rfl, ho1, hv1⟩, hb1⟩; obtain rfl := hv1.2 HLN.out; clear hv1) | (go_at_call 11; refine (HFD.out _ (by (repeat' (first | (with_reducible exact Below.refl _ _) | (with_reducible refine below_alloc ?_) | (with_reducible refine below_drew ?_) | (with_reducible refine below_drewN ?_) | (with_reducible refine below_set (by first | (simp; done) | (simp; omega)) ?_) | (with_reducible refine below_call (by with_reducible assumption) ?_))))).mono ?_; rintro e w2 ⟨rfl, hb2⟩))
      go_ret2
      exact ⟨rfl, by (repeat' (first | (with_reducible exact Below.refl _ _) | (with_reducible refine below_alloc ?_) | (with_reducible refine below_drew ?_) | (with_reducible refine below_drewN ?_) | (with_reducible refine below_set (by first | (simp; done) | (simp; omega)) ?_) | (with_reducible refine below_call (by with_reducible assumption) ?_)))⟩
    rw [if_neg (by simp [hf])]
    simp only [hf, ne_eq, not_true_eq_false, if_false] at HFD
    clear hf
    generalize foldX (askX [] t (treeL x)) = L at *
    have HLP := Lib.hid (show 0 < L.length from List.length_pos_iff.2 HNE.out)
    by_cases h1 : 1 < L.length
    · rw [if_pos h1]
      have hz : (1 : Int) < (L.length : Int) := by omega
      go_enter Tryz.func16, Tryz.ntmps16
      go_wp2_with (first | (go_at_call 22; refine (HNM.out _ (by (repeat' (first | (with_reducible exact Below.refl _ _) | (with_reducible refine below_alloc ?_) | (with_reducible refine below_drew ?_) | (with_reducible refine below_drewN ?_) | (with_reducible refine below_set (by first | (simp; done) | (simp; omega)) ?_) | (with_reducible refine below_call (by with_reducible assumption) ?_))))).mono ?_; rintro e w1 ⟨⟨v, rfl, ho1, hv1⟩, hb1⟩; obtain rfl := hv1.2 HLN.out; clear hv1) | (go_at_call 11; refine (HFD.out _ (by (repeat' (first | (with_reducible exact Below.refl _ _) | (with_reducible refine below_alloc ?_) | (with_reducible refine below_drew ?_) | (with_reducible refine below_drewN ?_) | (with_reducible refine below_set (by first | (simp; done) | (simp; omega)) ?_) | (with_reducible refine below_call (by with_reducible assumption) ?_))))).mono ?_; rintro e w2 ⟨⟨u, rfl, ho2⟩, hb2⟩; obtain ⟨g, cap, rfl, _, _⟩ := ho2.form HLP.out))
      go_ret2
      exact ⟨rfl, by (repeat' (first | (with_reducible exact Below.refl _ _) | (with_reducible refine below_alloc ?_) | (with_reducible refine below_drew ?_) | (with_reducible refine below_drewN ?_) | (with_reducible refine below_set (by first | (simp; done) | (simp; omega)) ?_) | (with_reducible refine below_call (by with_reducible assumption) ?_)))⟩
    · rw [if_neg h1]
      have hl1 : L.length = 1 := by have := HLP.out; omega
      obtain ⟨q, rfl⟩ := List.length_eq_one_iff.1 hl1
      simp only [List.getD_cons_zero]
      clear h1 hl1
      go_enter Tryz.func16, Tryz.ntmps16
      go_wp2_with (first | (go_at_call 22; refine (HNM.out _ (by (repeat' (first | (with_reducible exact Below.refl _ _) | (with_reducible refine below_alloc ?_) | (with_reducible refine below_drew ?_) | (with_reducible refine below_drewN ?_) | (with_reducible refine below_set (by first | (simp; done) | (simp; omega)) ?_) | (with_reducible refine below_call (by with_reducible assumption) ?_))))).mono ?_; rintro e w1 ⟨⟨v, rfl, ho1, hv1⟩, hb1⟩; obtain rfl := hv1.2 HLN.out; clear hv1) | (go_at_call 11; refine (HFD.out _ (by (repeat' (first | (with_reducible exact Below.refl _ _) | (with_reducible refine below_alloc ?_) | (with_reducible refine below_drew ?_) | (with_reducible refine below_drewN ?_) | (with_reducible refine below_set (by first | (simp; done) | (simp; omega)) ?_) | (with_reducible refine below_call (by with_reducible assumption) ?_))))).mono ?_; rintro e w2 ⟨⟨u, rfl, ho2⟩, hb2⟩; obtain ⟨g, cap, rfl, hy1⟩ := prt_one ho2))
      go_ret2
      exact ⟨rfl, by (repeat' (first | (with_reducible exact Below.refl _ _) | (with_reducible refine below_alloc ?_) | (with_reducible refine below_drew ?_) | (with_reducible refine below_drewN ?_) | (with_reducible refine below_set (by first | (simp; done) | (simp; omega)) ?_) | (with_reducible refine below_call (by with_reducible assumption) ?_)))⟩
end Go.Proofs.YtenjkplijblcoaaGreatDoor

/- capstanlaw10.works. -/
namespace Go.Proofs.YtenjkplijblcoaaGreatDoor
open Go.RowKit Cap
set_option maxRecDepth 100000

theorem lawop_c (k : Int) (w : World) : Calls Tryz.prog 20 #[.int .i64 k] w fun e w' => e = .returned (prtV (opP k)) ∧ Below w.heap.size w w' := by
  go_enter Tryz.func20, Tryz.ntmps20
  go_wp2
  ((try simp only [Exit.inBlock, Exit.then]); refine bodyPost_ret (v := .agg #[.int .i64 5, .int .i64 k, .int .i64 0, .string ⟨#[]⟩, .string ⟨#[]⟩]) (by rw [results_cell1 rfl]; go_simp) rfl ?_)
  exact ⟨rfl, by (repeat' (first | (with_reducible exact Below.refl _ _) | (with_reducible refine below_alloc ?_) | (with_reducible refine below_drew ?_) | (with_reducible refine below_drewN ?_) | (with_reducible refine below_set (by first | (simp; done) | (simp; omega)) ?_) | (with_reducible refine below_call (by with_reducible assumption) ?_)))⟩
theorem lawn_c (k : Int) (w : World) : Calls Tryz.prog 31 #[.int .i64 k] w fun e w' => e = .returned (prtV (numP k 0)) ∧ Below w.heap.size w w' := by
  go_enter Tryz.func31, Tryz.ntmps31
  go_wp2
  ((try simp only [Exit.inBlock, Exit.then]); refine bodyPost_ret (v := .agg #[.int .i64 1, .int .i64 k, .int .i64 0, .string ⟨#[]⟩, .string ⟨#[]⟩]) (by rw [results_cell1 rfl]; go_simp) rfl ?_)
  exact ⟨rfl, by (repeat' (first | (with_reducible exact Below.refl _ _) | (with_reducible refine below_alloc ?_) | (with_reducible refine below_drew ?_) | (with_reducible refine below_drewN ?_) | (with_reducible refine below_set (by first | (simp; done) | (simp; omega)) ?_) | (with_reducible refine below_call (by with_reducible assumption) ?_)))⟩
theorem own_cells {base n : Nat} {w : World} {v : Value} {xs : List Prt} (h : w.ownsRow base 38 5 v n (xs.flatMap encPrt)) (hn : n = xs.length) (h0 : 0 < xs.length) : ∃ g cap, v = .slice (some ⟨g, 0, none⟩) n cap ∧ g < w.heap.size ∧ ∀ i q, xs[i]? = some q → ∀ j u, (encPrt q)[j]? = some u → w.cell? ⟨g, i * 5 + j, none⟩ = some u := by
  subst hn
  obtain ⟨g, cap, rfl, _, hg⟩ := h.form h0
  refine ⟨g, cap, rfl, hg, fun i q hq j u hu => ?_⟩
  obtain ⟨A', c', e', _, _, hcell⟩ := Sl.own encPrt_len h rfl
  obtain ⟨b', off', he, hb', hcx⟩ := hcell i q hq
  injection e' with e1 e2 e3
  subst e1
  injection he with he
  injection he with e1 e2 _
  subst e1 e2
  simpa using hcx j u hu
theorem works_vok : ∀ v ∈ worksV, VrOk v := fun v hv => by
  simp [worksV] at hv
  rcases hv with rfl | rfl <;> (unfold VrOk; decide)
theorem prt_ok0 {p : Prt} (hs : p.s.size ≤ 24) (hf : p.f.size ≤ 24) : PrtOk p := ⟨by omega, by omega⟩
theorem resolve_1 (vv vx : Value) (w : World) (hs : Sl encVr 5 w vv worksV) (hx : Sl encPrt 5 w vx T1.flat) (hG : G w) : Calls Tryz.prog 9 #[vv, vx, .int .i64 2] w fun e w' => (∃ g cap, e = .returned (.tuple #[.slice (some ⟨g, 0, none⟩) 3 cap, .int .i64 0]) ∧ g < w'.heap.size ∧ ∀ j u, (encPrt (numP 1 2))[j]? = some u → w'.cell? ⟨g, 5 + j, none⟩ = some u) ∧ Below w.heap.size w w' := by
  refine (resolve_c worksV T1.flat 2 vv vx w hs works_vok hx (fun p hp => ?_) hG).mono ?_
  · simp [T1, Ex.flat] at hp
    rcases hp with rfl | rfl | rfl <;> exact prt_ok0 (by decide) (by decide)
  · rintro e w' ⟨h, hb⟩
    rw [fits_T1, if_neg (by simp), treeL_flat T1_ok, ask_T1] at h
    obtain ⟨v, rfl, ho⟩ := h
    obtain ⟨g, cap, rfl, hg, hc⟩ := own_cells ho rfl (by simp)
    exact ⟨⟨g, cap, rfl, hg, fun j u hu => hc 1 _ rfl j u hu⟩, hb⟩
theorem fold_2 (vv vx : Value) (w : World) (hs : Sl encVr 5 w vv worksV) (hx : Sl encPrt 5 w vx T2.flat) (hG : G w) : Calls Tryz.prog 11 #[vv, vx, .int .i64 3] w fun e w' => (∃ g cap, e = .returned (.tuple #[.slice (some ⟨g, 0, none⟩) 3 cap, .int .i64 0]) ∧ g < w'.heap.size ∧ ∀ j u, (encPrt (numP 6 3))[j]? = some u → w'.cell? ⟨g, j, none⟩ = some u) ∧ Below w.heap.size w w' := by
  refine (fold_c worksV T2.flat 3 vv vx w hs works_vok hx (fun p hp => ?_) hG).mono ?_
  · simp [T2, T2t, T2m, Ex.flat] at hp
    rcases hp with rfl | rfl | rfl | rfl | rfl | rfl <;> exact prt_ok0 (by decide) (by decide)
  · rintro e w' ⟨h, hb⟩
    rw [fits_T2, if_neg (by simp), treeL_flat T2_ok, fold_T2] at h
    obtain ⟨v, rfl, ho⟩ := h
    obtain ⟨g, cap, rfl, hg, hc⟩ := own_cells ho rfl (by simp)
    exact ⟨⟨g, cap, rfl, hg, fun j u hu => by have := hc 0 _ rfl j u hu; rwa [Nat.zero_mul, Nat.zero_add] at this⟩, hb⟩
theorem value_3 (vx : Value) (w : World) (hx : Sl encPrt 5 w vx T3.flat) (hG : G w) : Calls Tryz.prog 16 #[vx, .int .i64 2] w fun e w' => e = .returned (.tuple #[.int .i64 0, .int .i64 41]) ∧ Below w.heap.size w w' := by
  have h := value_c T3.flat 2 vx w hx (fun p hp => by
    simp [T3, Ex.flat] at hp
    rcases hp with rfl | rfl | rfl <;> exact prt_ok0 (by decide) (by decide)) hG
  rw [value_T3] at h
  exact h
theorem value_4 (vx : Value) (w : World) (hx : Sl encPrt 5 w vx T4.flat) (hG : G w) : Calls Tryz.prog 16 #[vx, .int .i64 1] w fun e w' => e = .returned (.tuple #[.int .i64 1, .int .i64 0]) ∧ Below w.heap.size w w' := by
  have h := value_c T4.flat 1 vx w hx (fun p hp => by
    simp [T4, T4a, Ex.flat] at hp
    rcases hp with rfl | rfl | rfl | rfl | rfl <;> exact prt_ok0 (by decide) (by decide)) hG
  rw [value_T4] at h
  exact h
set_option maxHeartbeats 8000000 in
theorem works_c (w : World) (hG : G w) : Calls Tryz.prog 15 #[] w fun e w' => e = .returned (.bool true) ∧ Below w.heap.size w w' := by
  have HG := Lib.hid hG
  have HV := Lib.hid (show Sl encVr 5 (w.alloc (.cells #[.string ⟨#[78]⟩, .int .i64 2, .int .i64 0, .int .i64 0, .int .i64 0, .string ⟨#[68]⟩, .int .i64 3, .int .i64 0, .int .i64 0, .int .i64 0] 59)) (.slice (some ⟨w.heap.size, 0, none⟩) 2 2) worksV from by refine Sl.lit' ?_ _ _ _ _ _ _ ?_ ?_ ?_ ?_ <;> first | (intro _; rfl) | rfl | decide | (simp; done))
  have HON := Lib.hid lawn_c
  have HOO := Lib.hid lawop_c
  unfold prtV numP at HON
  unfold prtV opP at HOO
  simp only at HON HOO
  clear hG
  go_enter Tryz.func15, Tryz.ntmps15
  go_upto_region 2 with fail
  have HB0 := Lib.hid (show Below w.heap.size w (w.alloc (.cells #[.string ⟨#[78]⟩, .int .i64 2, .int .i64 0, .int .i64 0, .int .i64 0, .string ⟨#[68]⟩, .int .i64 3, .int .i64 0, .int .i64 0, .int .i64 0] 59)) by (repeat' (first | (with_reducible exact Below.refl _ _) | (with_reducible refine below_alloc ?_) | (with_reducible refine below_drew ?_) | (with_reducible refine below_drewN ?_) | (with_reducible refine below_set (by first | (simp; done) | (simp; omega)) ?_) | (with_reducible refine below_call (by with_reducible assumption) ?_))))
  have HG0 := Lib.hid (HG.out.below HB0.out)
  generalize hW0 : w.alloc (.cells #[.string ⟨#[78]⟩, .int .i64 2, .int .i64 0, .int .i64 0, .int .i64 0, .string ⟨#[68]⟩, .int .i64 3, .int .i64 0, .int .i64 0, .int .i64 0] 59) = W0 at *
  clear hW0
  go_upto_region 6 with (first
    | (go_at_call 31; refine (HON.out _ _).mono ?_; rintro e w1 ⟨rfl, hb1⟩)
    | (go_at_call 20; refine (HOO.out _ _).mono ?_; rintro e w1 ⟨rfl, hb1⟩)
    | (go_at_call 9; refine (resolve_1 _ _ _ (HV.out.below (by (repeat' (first | (with_reducible exact Below.refl _ _) | (with_reducible refine below_alloc ?_) | (with_reducible refine below_drew ?_) | (with_reducible refine below_drewN ?_) | (with_reducible refine below_set (by first | (simp; done) | (simp; omega)) ?_) | (with_reducible refine below_call (by with_reducible assumption) ?_))))) (by refine Sl.lit' ?_ _ _ _ _ _ _ ?_ ?_ ?_ ?_ <;> first | (intro _; rfl) | rfl | decide | (simp; done)) (HG0.out.below (by (repeat' (first | (with_reducible exact Below.refl _ _) | (with_reducible refine below_alloc ?_) | (with_reducible refine below_drew ?_) | (with_reducible refine below_drewN ?_) | (with_reducible refine below_set (by first | (simp; done) | (simp; omega)) ?_) | (with_reducible refine below_call (by with_reducible assumption) ?_)))))).mono ?_; rintro e w2 ⟨⟨g2, cap2, rfl, hg2, hc2⟩, hb2⟩)
    | (go_at_call 11; refine (fold_2 _ _ _ (HV.out.below (by (repeat' (first | (with_reducible exact Below.refl _ _) | (with_reducible refine below_alloc ?_) | (with_reducible refine below_drew ?_) | (with_reducible refine below_drewN ?_) | (with_reducible refine below_set (by first | (simp; done) | (simp; omega)) ?_) | (with_reducible refine below_call (by with_reducible assumption) ?_))))) (by refine Sl.lit' ?_ _ _ _ _ _ _ ?_ ?_ ?_ ?_ <;> first | (intro _; rfl) | rfl | decide | (simp; done)) (HG0.out.below (by (repeat' (first | (with_reducible exact Below.refl _ _) | (with_reducible refine below_alloc ?_) | (with_reducible refine below_drew ?_) | (with_reducible refine below_drewN ?_) | (with_reducible refine below_set (by first | (simp; done) | (simp; omega)) ?_) | (with_reducible refine below_call (by with_reducible assumption) ?_)))))).mono ?_; rintro e w3 ⟨⟨g3, cap3, rfl, hg3, hc3⟩, hb3⟩)
    | (go_at_call_of 16 (Value.int IntKind.i64 2); refine (value_3 _ _ (by refine Sl.lit' ?_ _ _ _ _ _ _ ?_ ?_ ?_ ?_ <;> first | (intro _; rfl) | rfl | decide | (simp; done)) (HG0.out.below (by (repeat' (first | (with_reducible exact Below.refl _ _) | (with_reducible refine below_alloc ?_) | (with_reducible refine below_drew ?_) | (with_reducible refine below_drewN ?_) | (with_reducible refine below_set (by first | (simp; done) | (simp; omega)) ?_) | (with_reducible refine below_call (by with_reducible assumption) ?_)))))).mono ?_; rintro e w4 ⟨rfl, hb4⟩)
    | (go_at_call 16; refine (value_4 _ _ (by refine Sl.lit' ?_ _ _ _ _ _ _ ?_ ?_ ?_ ?_ <;> first | (intro _; rfl) | rfl | decide | (simp; done)) (HG0.out.below (by (repeat' (first | (with_reducible exact Below.refl _ _) | (with_reducible refine below_alloc ?_) | (with_reducible refine below_drew ?_) | (with_reducible refine below_drewN ?_) | (with_reducible refine below_set (by first | (simp; done) | (simp; omega)) ?_) | (with_reducible refine below_call (by with_reducible assumption) ?_)))))).mono ?_; rintro e w5 ⟨rfl, hb5⟩))
  have HB25 := Lib.hid (show Below w2.heap.size w2 w5 by (repeat' (first | (with_reducible exact Below.refl _ _) | (with_reducible refine below_alloc ?_) | (with_reducible refine below_drew ?_) | (with_reducible refine below_drewN ?_) | (with_reducible refine below_set (by first | (simp; done) | (simp; omega)) ?_) | (with_reducible refine below_call (by with_reducible assumption) ?_))))
  have HB35 := Lib.hid (show Below w3.heap.size w3 w5 by (repeat' (first | (with_reducible exact Below.refl _ _) | (with_reducible refine below_alloc ?_) | (with_reducible refine below_drew ?_) | (with_reducible refine below_drewN ?_) | (with_reducible refine below_set (by first | (simp; done) | (simp; omega)) ?_) | (with_reducible refine below_call (by with_reducible assumption) ?_))))
  have HBE := Lib.hid (show Below w.heap.size w w5 from below_call (show Below W0.heap.size W0 w5 by (repeat' (first | (with_reducible exact Below.refl _ _) | (with_reducible refine below_alloc ?_) | (with_reducible refine below_drew ?_) | (with_reducible refine below_drewN ?_) | (with_reducible refine below_set (by first | (simp; done) | (simp; omega)) ?_) | (with_reducible refine below_call (by with_reducible assumption) ?_)))) HB0.out)
  have a0 : w5.cell? ⟨g2, 5, none⟩ = some (.int .i64 1) := (HB25.out.cell (p := ⟨g2, 5, none⟩) hg2).trans (hc2 0 _ rfl)
  have a1 : w5.cell? ⟨g2, 6, none⟩ = some (.int .i64 1) := (HB25.out.cell (p := ⟨g2, 6, none⟩) hg2).trans (hc2 1 _ rfl)
  have a2 : w5.cell? ⟨g2, 7, none⟩ = some (.int .i64 2) := (HB25.out.cell (p := ⟨g2, 7, none⟩) hg2).trans (hc2 2 _ rfl)
  have a3 : w5.cell? ⟨g2, 8, none⟩ = some (.string ⟨#[]⟩) := (HB25.out.cell (p := ⟨g2, 8, none⟩) hg2).trans (hc2 3 _ rfl)
  have a4 : w5.cell? ⟨g2, 9, none⟩ = some (.string ⟨#[]⟩) := (HB25.out.cell (p := ⟨g2, 9, none⟩) hg2).trans (hc2 4 _ rfl)
  have d0 : w5.cell? ⟨g3, 0, none⟩ = some (.int .i64 1) := (HB35.out.cell (p := ⟨g3, 0, none⟩) hg3).trans (hc3 0 _ rfl)
  have d1 : w5.cell? ⟨g3, 1, none⟩ = some (.int .i64 6) := (HB35.out.cell (p := ⟨g3, 1, none⟩) hg3).trans (hc3 1 _ rfl)
  have d2 : w5.cell? ⟨g3, 2, none⟩ = some (.int .i64 3) := (HB35.out.cell (p := ⟨g3, 2, none⟩) hg3).trans (hc3 2 _ rfl)
  have d3 : w5.cell? ⟨g3, 3, none⟩ = some (.string ⟨#[]⟩) := (HB35.out.cell (p := ⟨g3, 3, none⟩) hg3).trans (hc3 3 _ rfl)
  have d4 : w5.cell? ⟨g3, 4, none⟩ = some (.string ⟨#[]⟩) := (HB35.out.cell (p := ⟨g3, 4, none⟩) hg3).trans (hc3 4 _ rfl)
  clear hc2 hc3
  go_wp2
  go_ret
  exact ⟨rfl, HBE.out⟩
end Go.Proofs.YtenjkplijblcoaaGreatDoor
