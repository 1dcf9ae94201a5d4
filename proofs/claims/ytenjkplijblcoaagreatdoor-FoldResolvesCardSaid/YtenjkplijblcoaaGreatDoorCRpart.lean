/- capstanref09.named: what each call answers. -/
import Derived.Test.YtenjkplijblcoaaGreatDoorCRnine
import Derived.Test.YtenjkplijblcoaaGreatDoorCReight
set_option linter.unusedSimpArgs false
set_option linter.unusedVariables false
namespace Go.Proofs.YtenjkplijblcoaaGreatDoor
open Go.RowKit Cap
set_option maxRecDepth 100000

set_option maxHeartbeats 8000000 in
theorem rnamed9_c (vars : List Vr) (p : Prt) (ta : Int) (la : List Int) (Aa : Option Addr) (ca : Nat) (vv : Value) (w : World) (hs : Sl encVr 5 w vv vars) (hmay : ∀ v ∈ vars, mayV v = true) (ha : Sl encI 1 w (.slice Aa la.length ca) la) :
    Calls Tryz.prog 117 #[vv, prtV p, .agg #[.int .i64 ta, .slice Aa la.length ca]] w (RvR w (namedR vars p ⟨ta, la⟩)) := by
  obtain ⟨k, n, t, s, f⟩ := p
  have HF := Lib.hid (fun W (hW : Below w.heap.size w W) => rfind_c vars s vv W (hs.below hW))
  have HA := Lib.hid ha
  obtain ⟨Av, cv, rfl, hvl, hvm, hvc⟩ := hs
  unfold prtV
  simp only at HF ⊢
  cases hq : findV vars s with
  | none =>
    have HR := Lib.hid (show namedR vars ⟨k, n, t, s, f⟩ ⟨ta, la⟩ = (⟨0, []⟩, 90) by unfold namedR; simp only [hq])
    rw [findI_no vars s 0 hq] at HF
    clear hq hmay hvc ha
    go_enter Tryz.func117, Tryz.ntmps117
    go_wp2_with (go_at_call 149; refine (HF.out _ (by (repeat' (first | (with_reducible exact Below.refl _ _) | (with_reducible refine below_alloc ?_) | (with_reducible refine below_drew ?_) | (with_reducible refine below_drewN ?_) | (with_reducible refine below_set (by simp; omega) ?_) | (with_reducible refine below_call (by with_reducible assumption) ?_))))).mono ?_; rintro e w1 ⟨⟨at_, rfl⟩, hb1⟩; obtain ⟨hc1, hf1⟩ := bcell hb1; have hz1 := hb1.size; (try simp at hz1); (try have hw01 : w.heap.size < w1.heap.size := by omega); (try have hw11 : w.heap.size + 1 < w1.heap.size := by omega); (try have hw21 : w.heap.size + 1 + 1 < w1.heap.size := by omega))
    ((try simp only [Exit.inBlock, Exit.then]); refine bodyPost_ret (v := ?_) ?_ rfl ?_; rotate_left; (focus (rw [results_cell_tmp rfl]; go_simp; (first | rfl | exact ⟨rfl, rfl⟩))))
    rw [HR.out]
    exact ⟨none, 0, rfl, Nums.nil _, by (repeat' (first | (with_reducible exact Below.refl _ _) | (with_reducible refine below_alloc ?_) | (with_reducible refine below_drew ?_) | (with_reducible refine below_drewN ?_) | (with_reducible refine below_set (by first | (simp; done) | (simp; omega)) ?_) | (with_reducible refine below_call (by with_reducible assumption) ?_)))⟩
  | some x =>
    obtain ⟨i, hi1, hi2⟩ := findI_at vars s 0 x hq
    have hi1' : findI vars s 0 = (i : Int) := by simpa using hi1
    rw [hi1'] at HF
    have hmx := hmay x (findV_in hq)
    obtain ⟨m1, m2⟩ := may_ty hmx
    obtain ⟨m3, m4⟩ := may_more hmx
    have m110 : x.ty ≤ 110 := may_110 hmx
    obtain ⟨bv, ov, rfl, hbv, hcx⟩ := hvc i x hi2
    have hil : i < vars.length := (List.getElem?_eq_some_iff.1 hi2).1
    have hiz : (i : Int) < (vars.length : Int) := by omega
    have hi0 : (0 : Int) ≤ (i : Int) := Int.natCast_nonneg _
    obtain ⟨nm, ty, len, init, dir⟩ := x
    simp only at m1 m2 m3 m4 m110
    have HR := Lib.hid (show namedR vars ⟨k, n, t, s, f⟩ ⟨ta, la⟩ = if k = 2 then (if 0 < len ∨ 100 < ty then (⟨0, []⟩, 91) else (⟨ty, []⟩, 0))
      else if k = 3 then (if len = 0 then (⟨0, []⟩, 91) else (⟨ty, []⟩, countsR ⟨ta, la⟩ false))
      else match findF (fieldsOf (ty - 100)) f with
        | some f => (⟨f.ty, []⟩, 0)
        | none => (⟨0, []⟩, 91) by
      unfold namedR
      rw [show (⟨k, n, t, s, f⟩ : Prt).s = s from rfl, hq]
      dsimp only
      cases findF (fieldsOf (ty - 100)) f <;> rfl)
    have HV := Lib.hid (show ∀ W, Below w.heap.size w W → W.cell? ⟨bv, ov + i * 5, none⟩ = some (.string nm) ∧ W.cell? ⟨bv, ov + i * 5 + 1, none⟩ = some (.int .i64 ty) ∧ W.cell? ⟨bv, ov + i * 5 + 2, none⟩ = some (.int .i64 len) ∧ W.cell? ⟨bv, ov + i * 5 + 3, none⟩ = some (.int .i64 init) ∧ W.cell? ⟨bv, ov + i * 5 + 4, none⟩ = some (.int .i64 dir) from fun W hW => by
      refine ⟨(hW.cell (p := ⟨bv, ov + i * 5, none⟩) hbv).trans (by simpa using hcx 0 _ rfl), (hW.cell (p := ⟨bv, ov + i * 5 + 1, none⟩) hbv).trans (by simpa using hcx 1 _ rfl), (hW.cell (p := ⟨bv, ov + i * 5 + 2, none⟩) hbv).trans (by simpa using hcx 2 _ rfl), (hW.cell (p := ⟨bv, ov + i * 5 + 3, none⟩) hbv).trans (by simpa using hcx 3 _ rfl), (hW.cell (p := ⟨bv, ov + i * 5 + 4, none⟩) hbv).trans (by simpa using hcx 4 _ rfl)⟩)
    clear hq hmay hvc ha hcx hi1 hi1' hi2 hmx
    by_cases h2 : k = 2
    · subst h2
      rw [if_pos rfl] at HR
      by_cases hl : 0 < len
      · have HR2 := Lib.hid (show namedR vars ⟨2, n, t, s, f⟩ ⟨ta, la⟩ = (⟨0, []⟩, 91) by rw [HR.out, if_pos (.inl hl)])
        clear HR
        go_enter Tryz.func117, Tryz.ntmps117
        go_wp2_with (go_at_call 149; refine (HF.out _ (by (repeat' (first | (with_reducible exact Below.refl _ _) | (with_reducible refine below_alloc ?_) | (with_reducible refine below_drew ?_) | (with_reducible refine below_drewN ?_) | (with_reducible refine below_set (by simp; omega) ?_) | (with_reducible refine below_call (by with_reducible assumption) ?_))))).mono ?_; rintro e w1 ⟨⟨at_, rfl⟩, hb1⟩; obtain ⟨hc1, hf1⟩ := bcell hb1; have hz1 := hb1.size; (try simp at hz1); (try have hw01 : w.heap.size < w1.heap.size := by omega); (try have hw11 : w.heap.size + 1 < w1.heap.size := by omega); (try have hw21 : w.heap.size + 1 + 1 < w1.heap.size := by omega); obtain ⟨v0, v1, v2, v3, v4⟩ := HV.out w1 (by (repeat' (first | (with_reducible exact Below.refl _ _) | (with_reducible refine below_alloc ?_) | (with_reducible refine below_drew ?_) | (with_reducible refine below_drewN ?_) | (with_reducible refine below_set (by first | (simp; done) | (simp; omega)) ?_) | (with_reducible refine below_call (by with_reducible assumption) ?_)))))
        ((try simp only [Exit.inBlock, Exit.then]); refine bodyPost_ret (v := ?_) ?_ rfl ?_; rotate_left; (focus (rw [results_cell_tmp rfl]; go_simp; (first | rfl | exact ⟨rfl, rfl⟩))))
        rw [HR2.out]
        exact ⟨none, 0, rfl, Nums.nil _, by (repeat' (first | (with_reducible exact Below.refl _ _) | (with_reducible refine below_alloc ?_) | (with_reducible refine below_drew ?_) | (with_reducible refine below_drewN ?_) | (with_reducible refine below_set (by first | (simp; done) | (simp; omega)) ?_) | (with_reducible refine below_call (by with_reducible assumption) ?_)))⟩
      by_cases hy : 100 < ty
      · have HR2 := Lib.hid (show namedR vars ⟨2, n, t, s, f⟩ ⟨ta, la⟩ = (⟨0, []⟩, 91) by rw [HR.out, if_pos (.inr hy)])
        clear HR
        go_enter Tryz.func117, Tryz.ntmps117
        go_wp2_with (go_at_call 149; refine (HF.out _ (by (repeat' (first | (with_reducible exact Below.refl _ _) | (with_reducible refine below_alloc ?_) | (with_reducible refine below_drew ?_) | (with_reducible refine below_drewN ?_) | (with_reducible refine below_set (by simp; omega) ?_) | (with_reducible refine below_call (by with_reducible assumption) ?_))))).mono ?_; rintro e w1 ⟨⟨at_, rfl⟩, hb1⟩; obtain ⟨hc1, hf1⟩ := bcell hb1; have hz1 := hb1.size; (try simp at hz1); (try have hw01 : w.heap.size < w1.heap.size := by omega); (try have hw11 : w.heap.size + 1 < w1.heap.size := by omega); (try have hw21 : w.heap.size + 1 + 1 < w1.heap.size := by omega); obtain ⟨v0, v1, v2, v3, v4⟩ := HV.out w1 (by (repeat' (first | (with_reducible exact Below.refl _ _) | (with_reducible refine below_alloc ?_) | (with_reducible refine below_drew ?_) | (with_reducible refine below_drewN ?_) | (with_reducible refine below_set (by first | (simp; done) | (simp; omega)) ?_) | (with_reducible refine below_call (by with_reducible assumption) ?_)))))
        ((try simp only [Exit.inBlock, Exit.then]); refine bodyPost_ret (v := ?_) ?_ rfl ?_; rotate_left; (focus (rw [results_cell_tmp rfl]; go_simp; (first | rfl | exact ⟨rfl, rfl⟩))))
        rw [HR2.out]
        exact ⟨none, 0, rfl, Nums.nil _, by (repeat' (first | (with_reducible exact Below.refl _ _) | (with_reducible refine below_alloc ?_) | (with_reducible refine below_drew ?_) | (with_reducible refine below_drewN ?_) | (with_reducible refine below_set (by first | (simp; done) | (simp; omega)) ?_) | (with_reducible refine below_call (by with_reducible assumption) ?_)))⟩
      · have HR2 := Lib.hid (show namedR vars ⟨2, n, t, s, f⟩ ⟨ta, la⟩ = (⟨ty, []⟩, 0) by rw [HR.out, if_neg (fun h => h.elim hl hy)])
        clear HR
        go_enter Tryz.func117, Tryz.ntmps117
        go_wp2_with (go_at_call 149; refine (HF.out _ (by (repeat' (first | (with_reducible exact Below.refl _ _) | (with_reducible refine below_alloc ?_) | (with_reducible refine below_drew ?_) | (with_reducible refine below_drewN ?_) | (with_reducible refine below_set (by simp; omega) ?_) | (with_reducible refine below_call (by with_reducible assumption) ?_))))).mono ?_; rintro e w1 ⟨⟨at_, rfl⟩, hb1⟩; obtain ⟨hc1, hf1⟩ := bcell hb1; have hz1 := hb1.size; (try simp at hz1); (try have hw01 : w.heap.size < w1.heap.size := by omega); (try have hw11 : w.heap.size + 1 < w1.heap.size := by omega); (try have hw21 : w.heap.size + 1 + 1 < w1.heap.size := by omega); obtain ⟨v0, v1, v2, v3, v4⟩ := HV.out w1 (by (repeat' (first | (with_reducible exact Below.refl _ _) | (with_reducible refine below_alloc ?_) | (with_reducible refine below_drew ?_) | (with_reducible refine below_drewN ?_) | (with_reducible refine below_set (by first | (simp; done) | (simp; omega)) ?_) | (with_reducible refine below_call (by with_reducible assumption) ?_)))))
        ((try simp only [Exit.inBlock, Exit.then]); refine bodyPost_ret (v := ?_) ?_ rfl ?_; rotate_left; (focus (rw [results_cell_tmp rfl]; go_simp; (first | rfl | exact ⟨rfl, rfl⟩))))
        rw [HR2.out]
        exact ⟨none, 0, rfl, Nums.nil _, by (repeat' (first | (with_reducible exact Below.refl _ _) | (with_reducible refine below_alloc ?_) | (with_reducible refine below_drew ?_) | (with_reducible refine below_drewN ?_) | (with_reducible refine below_set (by first | (simp; done) | (simp; omega)) ?_) | (with_reducible refine below_call (by with_reducible assumption) ?_)))⟩
    have hb2 := ne_i h2
    rw [if_neg h2] at HR
    by_cases h3 : k = 3
    · subst h3
      rw [if_pos rfl] at HR
      by_cases hl : len = 0
      · subst hl
        have HR2 := Lib.hid (show namedR vars ⟨3, n, t, s, f⟩ ⟨ta, la⟩ = (⟨0, []⟩, 91) by rw [HR.out, if_pos rfl])
        clear HR
        go_enter Tryz.func117, Tryz.ntmps117
        go_wp2_with (go_at_call 149; refine (HF.out _ (by (repeat' (first | (with_reducible exact Below.refl _ _) | (with_reducible refine below_alloc ?_) | (with_reducible refine below_drew ?_) | (with_reducible refine below_drewN ?_) | (with_reducible refine below_set (by simp; omega) ?_) | (with_reducible refine below_call (by with_reducible assumption) ?_))))).mono ?_; rintro e w1 ⟨⟨at_, rfl⟩, hb1⟩; obtain ⟨hc1, hf1⟩ := bcell hb1; have hz1 := hb1.size; (try simp at hz1); (try have hw01 : w.heap.size < w1.heap.size := by omega); (try have hw11 : w.heap.size + 1 < w1.heap.size := by omega); (try have hw21 : w.heap.size + 1 + 1 < w1.heap.size := by omega); obtain ⟨v0, v1, v2, v3, v4⟩ := HV.out w1 (by (repeat' (first | (with_reducible exact Below.refl _ _) | (with_reducible refine below_alloc ?_) | (with_reducible refine below_drew ?_) | (with_reducible refine below_drewN ?_) | (with_reducible refine below_set (by first | (simp; done) | (simp; omega)) ?_) | (with_reducible refine below_call (by with_reducible assumption) ?_)))))
        ((try simp only [Exit.inBlock, Exit.then]); refine bodyPost_ret (v := ?_) ?_ rfl ?_; rotate_left; (focus (rw [results_cell_tmp rfl]; go_simp; (first | rfl | exact ⟨rfl, rfl⟩))))
        rw [HR2.out]
        exact ⟨none, 0, rfl, Nums.nil _, by (repeat' (first | (with_reducible exact Below.refl _ _) | (with_reducible refine below_alloc ?_) | (with_reducible refine below_drew ?_) | (with_reducible refine below_drewN ?_) | (with_reducible refine below_set (by first | (simp; done) | (simp; omega)) ?_) | (with_reducible refine below_call (by with_reducible assumption) ?_)))⟩
      · have hlb := ne_i hl
        have HR2 := Lib.hid (show namedR vars ⟨3, n, t, s, f⟩ ⟨ta, la⟩ = (⟨ty, []⟩, countsR ⟨ta, la⟩ false) by rw [HR.out, if_neg hl])
        have HC := Lib.hid (fun W (hW : Below w.heap.size w W) => rcounts_c ta la Aa ca false W (HA.out.below hW))
        obtain ⟨ce, hce⟩ : ∃ q, countsR ⟨ta, la⟩ false = q := ⟨_, rfl⟩
        rw [hce] at HC HR2
        clear HR hce
        go_enter Tryz.func117, Tryz.ntmps117
        go_upto_region 13 with (go_at_call 149; refine (HF.out _ (by (repeat' (first | (with_reducible exact Below.refl _ _) | (with_reducible refine below_alloc ?_) | (with_reducible refine below_drew ?_) | (with_reducible refine below_drewN ?_) | (with_reducible refine below_set (by simp; omega) ?_) | (with_reducible refine below_call (by with_reducible assumption) ?_))))).mono ?_; rintro e w1 ⟨⟨at_, rfl⟩, hb1⟩; obtain ⟨hc1, hf1⟩ := bcell hb1; have hz1 := hb1.size; (try simp at hz1); (try have hw01 : w.heap.size < w1.heap.size := by omega); (try have hw11 : w.heap.size + 1 < w1.heap.size := by omega); (try have hw21 : w.heap.size + 1 + 1 < w1.heap.size := by omega); obtain ⟨v0, v1, v2, v3, v4⟩ := HV.out w1 (by (repeat' (first | (with_reducible exact Below.refl _ _) | (with_reducible refine below_alloc ?_) | (with_reducible refine below_drew ?_) | (with_reducible refine below_drewN ?_) | (with_reducible refine below_set (by first | (simp; done) | (simp; omega)) ?_) | (with_reducible refine below_call (by with_reducible assumption) ?_)))))
        have hwl : ∀ o, (w1.alloc o).heap.size = w1.heap.size + 1 := fun o => by simp
        have HK := Lib.hid (show ∀ (W : World), Below (w1.alloc (.cells #[.string nm, .int .i64 ty, .int .i64 len, .int .i64 init, .int .i64 dir] 59)).heap.size (w1.alloc (.cells #[.string nm, .int .i64 ty, .int .i64 len, .int .i64 init, .int .i64 dir] 59)) W → (W.cell? ⟨w1.heap.size, 1, none⟩ = some (.int .i64 ty) ∧ W.cell? ⟨w.heap.size + 1, 0, none⟩ = some (.int .i64 ta) ∧ W.cell? ⟨w.heap.size + 1, 1, none⟩ = some (.slice Aa la.length ca)) from fun W hW => by
          refine ⟨(hW.cell (p := ⟨w1.heap.size, 1, none⟩) (by simp)).trans (by rw [World.cell?_alloc_at _ _ _ _ rfl]; rfl), (hW.cell (p := ⟨w.heap.size + 1, 0, none⟩) (by simp; omega)).trans ?_, (hW.cell (p := ⟨w.heap.size + 1, 1, none⟩) (by simp; omega)).trans ?_⟩
          · rw [World.cell?_alloc_old _ _ _ (by simp; omega)]
            refine (hb1.cell (p := ⟨w.heap.size + 1, 0, none⟩) (by simp)).trans ?_
            exact cell_of_row _ _ 0 _ _ _ (box3b _ _ _ _)
          · rw [World.cell?_alloc_old _ _ _ (by simp; omega)]
            refine (hb1.cell (p := ⟨w.heap.size + 1, 1, none⟩) (by simp)).trans ?_
            exact cell_of_row _ _ 1 _ _ _ (box3b _ _ _ _))
        have HS3 := Lib.hid (show ∀ (W : World) (u0 u1 : Value), (W.cell? ⟨w1.heap.size, 1, none⟩ = some (.int .i64 ty) ∧ W.cell? ⟨w.heap.size + 1, 0, none⟩ = some (.int .i64 ta) ∧ W.cell? ⟨w.heap.size + 1, 1, none⟩ = some (.slice Aa la.length ca)) → (((W.setCell ⟨w.heap.size + 1 + 1, 0, none⟩ u0).setCell ⟨w.heap.size + 1 + 1, 1, none⟩ u1).cell? ⟨w1.heap.size, 1, none⟩ = some (.int .i64 ty) ∧ ((W.setCell ⟨w.heap.size + 1 + 1, 0, none⟩ u0).setCell ⟨w.heap.size + 1 + 1, 1, none⟩ u1).cell? ⟨w.heap.size + 1, 0, none⟩ = some (.int .i64 ta) ∧ ((W.setCell ⟨w.heap.size + 1 + 1, 0, none⟩ u0).setCell ⟨w.heap.size + 1 + 1, 1, none⟩ u1).cell? ⟨w.heap.size + 1, 1, none⟩ = some (.slice Aa la.length ca)) from fun W u0 u1 hS => by
          have hq : ∀ b o, b ≠ w.heap.size + 1 + 1 → ((W.setCell ⟨w.heap.size + 1 + 1, 0, none⟩ u0).setCell ⟨w.heap.size + 1 + 1, 1, none⟩ u1).cell? ⟨b, o, none⟩ = W.cell? ⟨b, o, none⟩ := fun b o hb => World.cell?_of_block ((Below.heap_setCell _ _ _ _ hb).trans (Below.heap_setCell _ _ _ _ hb))
          rw [hq _ _ (by omega), hq _ _ (by omega), hq _ _ (by omega)]
          exact hS)
        go_region_held3 (fun W => W.cell? ⟨w1.heap.size, 1, none⟩ = some (.int .i64 ty) ∧ W.cell? ⟨w.heap.size + 1, 0, none⟩ = some (.int .i64 ta) ∧ W.cell? ⟨w.heap.size + 1, 1, none⟩ = some (.slice Aa la.length ca)) (first | (refine HS3.out _ _ _ ?_; assumption) | exact HK.out _ (by (repeat' (first | (with_reducible exact Below.refl _ _) | (with_reducible refine below_alloc ?_) | (with_reducible refine below_drew ?_) | (with_reducible refine below_drewN ?_) | (with_reducible refine below_set (by first | (simp; done) | (simp; omega)) ?_) | (with_reducible refine below_call (by with_reducible assumption) ?_))))) (first | (go_at_call 114; refine (HC.out _ (by (repeat' (first | (with_reducible exact Below.refl _ _) | (with_reducible refine below_alloc ?_) | (with_reducible refine below_drew ?_) | (with_reducible refine below_drewN ?_) | (with_reducible refine below_set (by first | (simp; done) | (simp; omega)) ?_) | (with_reducible refine below_call (by with_reducible assumption) ?_))))).mono ?_; rintro e w3 ⟨rfl, hb3⟩; obtain ⟨hc3, hf3⟩ := bcell hb3; have hz3 := hb3.size; (try simp at hz3); (try have hw03 : w.heap.size < w3.heap.size := by omega); (try have hw13 : w.heap.size + 1 < w3.heap.size := by omega); (try have hw23 : w.heap.size + 1 + 1 < w3.heap.size := by omega)))
        all_goals go_wp2
        all_goals ((try simp only [Exit.inBlock, Exit.then]); refine bodyPost_ret (v := ?_) ?_ rfl ?_; rotate_left; (focus (rw [results_cell_tmp rfl]; go_simp; (first | rfl | exact ⟨rfl, rfl⟩))))
        all_goals rw [HR2.out]
        all_goals exact ⟨none, 0, rfl, Nums.nil _, by (repeat' (first | (with_reducible exact Below.refl _ _) | (with_reducible refine below_alloc ?_) | (with_reducible refine below_drew ?_) | (with_reducible refine below_drewN ?_) | (with_reducible refine below_set (by first | (simp; done) | (simp; omega)) ?_) | (with_reducible refine below_call (by with_reducible assumption) ?_)))⟩
    have hb3 := ne_i h3
    rw [if_neg h3] at HR
    have HFL := Lib.hid (fun W => rfields_c (ty - 100) W)
    unfold FieldsR at HFL
    obtain ⟨F, hF⟩ : ∃ F, fieldsOf (ty - 100) = F := ⟨_, rfl⟩
    rw [hF] at HFL HR
    generalize fieldsErr (ty - 100) = fe at HFL
    clear hF
    go_enter Tryz.func117, Tryz.ntmps117
    go_wp2_with (first | (go_at_call 149; refine (HF.out _ (by (repeat' (first | (with_reducible exact Below.refl _ _) | (with_reducible refine below_alloc ?_) | (with_reducible refine below_drew ?_) | (with_reducible refine below_drewN ?_) | (with_reducible refine below_set (by simp; omega) ?_) | (with_reducible refine below_call (by with_reducible assumption) ?_))))).mono ?_; rintro e w1 ⟨⟨at_, rfl⟩, hb1⟩; obtain ⟨hc1, hf1⟩ := bcell hb1; have hz1 := hb1.size; (try simp at hz1); (try have hw01 : w.heap.size < w1.heap.size := by omega); (try have hw11 : w.heap.size + 1 < w1.heap.size := by omega); (try have hw21 : w.heap.size + 1 + 1 < w1.heap.size := by omega); obtain ⟨v0, v1, v2, v3, v4⟩ := HV.out w1 (by (repeat' (first | (with_reducible exact Below.refl _ _) | (with_reducible refine below_alloc ?_) | (with_reducible refine below_drew ?_) | (with_reducible refine below_drewN ?_) | (with_reducible refine below_set (by first | (simp; done) | (simp; omega)) ?_) | (with_reducible refine below_call (by with_reducible assumption) ?_))))) | (go_at_call 150; refine (HFL.out _).mono ?_; rintro e w2 ⟨vf, rfl, hSF, hb2⟩; obtain ⟨Af, cf, rfl, hfl, hfm, hfc⟩ := hSF; obtain ⟨hc2, hf2⟩ := bcell hb2; have hz2 := hb2.size; (try simp at hz2); (try have hw02 : w.heap.size < w2.heap.size := by omega); (try have hw12 : w.heap.size + 1 < w2.heap.size := by omega); (try have hw22 : w.heap.size + 1 + 1 < w2.heap.size := by omega)))
    have hX := (hb2.block (w.heap.size + 1 + 1) (by simp; omega)).trans ((heap_alloc_old w1 _ hw21).trans ((hb1.block (w.heap.size + 1 + 1) (by simp)).trans (box3 _ _ _ _)))
    have hXp := (hb2.block w.heap.size (by simp; omega)).trans ((heap_alloc_old w1 _ hw01).trans ((hb1.block w.heap.size (by simp; omega)).trans (box3a _ _ _ _)))
    have HXR := Lib.hid hX
    have HXP := Lib.hid hXp
    have HBW := Lib.hid (show Below w.heap.size w w2 by (repeat' (first | (with_reducible exact Below.refl _ _) | (with_reducible refine below_alloc ?_) | (with_reducible refine below_drew ?_) | (with_reducible refine below_drewN ?_) | (with_reducible refine below_set (by first | (simp; done) | (simp; omega)) ?_) | (with_reducible refine below_call (by with_reducible assumption) ?_))))
    have HFC := Lib.hid hfc
    clear hb1 hc1 hf1 hb2 hc2 hf2 hfc hX hXp v0 v1 v2 v3 v4 HV HF HFL HA
    go_loopg [13] F.length (fun gg s13 wr => ∃ j : Nat, s13 = .int .i64 j ∧ j ≤ F.length ∧ F.length - j ≤ gg ∧ Aside (Below w2.heap.size w2 wr) ∧ Aside (findF (F.drop j) f = findF F f))
    case atStart => exact ⟨0, rfl, Nat.zero_le _, by omega, (show Below w2.heap.size w2 _ from Below.refl _ _), (show findF (F.drop 0) f = findF F f by rw [List.drop_zero])⟩
    case round =>
      obtain ⟨j, rfl, hj, hg, HB, HG⟩ := hrel
      have hB := HB.out
      have hbz := hB.size
      have hXr := (hB.block (w.heap.size + 1 + 1) hw22).trans HXR.out
      have r0 := cell_of_row _ _ 0 _ _ _ hXr
      have r1 := cell_of_row _ _ 1 _ _ _ hXr
      have f0 := frozen_row 0 hXr
      have f1 := frozen_row 1 hXr
      simp at r0 r1
      have hszx : w.heap.size + 1 + 1 < wr.heap.size := by omega
      clear hXr
      by_cases hlt : j < F.length
      · obtain ⟨y, hy⟩ : ∃ y, F[j]? = some y := ⟨F[j], List.getElem?_eq_getElem hlt⟩
        obtain ⟨b, off, rfl, hb, hcx⟩ := HFC.out j y hy
        have c0 : wr.cell? ⟨b, off + j * 3, none⟩ = some (.string y.name) := (hB.cell (p := ⟨b, off + j * 3, none⟩) hb).trans (by simpa using hcx 0 _ rfl)
        have c1 : wr.cell? ⟨b, off + j * 3 + 1, none⟩ = some (.int .i64 y.ty) := (hB.cell (p := ⟨b, off + j * 3 + 1, none⟩) hb).trans (by simpa using hcx 1 _ rfl)
        have c2 : wr.cell? ⟨w.heap.size, 4, none⟩ = some (.string f) := (hB.cell (p := ⟨w.heap.size, 4, none⟩) hw02).trans (cell_of_row _ _ 4 _ _ _ HXP.out)
        have HN := Lib.hid (show (if (y.name.toList == f.toList) = true then some y else findF (F.drop (j + 1)) f) = findF F f by rw [← HG.out, drop_cons hy]; rfl)
        have hjz : (j : Int) < (F.length : Int) := by omega
        have hj0 : (0 : Int) ≤ (j : Int) := Int.natCast_nonneg _
        clear hcx hy
        go_upto_region 18 with fail
        go_region_held3 (fun W => W.cell? ⟨b, off + j * 3, none⟩ = some (.string y.name) ∧ W.cell? ⟨w.heap.size, 4, none⟩ = some (.string f)) (first | exact ⟨c0, c2⟩) (first | fail)
        cases hq : (y.name.toList == f.toList) with
        | true =>
          have HZ := Lib.hid (show namedR vars ⟨k, n, t, s, f⟩ ⟨ta, la⟩ = (⟨y.ty, []⟩, 0) by rw [HR.out, ← HN.out, if_pos hq])
          go_wp2
          ((try simp only [Exit.inBlock, Exit.then]); refine bodyPost_ret (v := ?_) ?_ rfl ?_; rotate_left; (focus (rw [results_cell_tmp rfl]; go_simp; (first | rfl | exact ⟨rfl, rfl⟩))))
          rw [HZ.out]
          exact ⟨none, 0, rfl, Nums.nil _, below_drew <| below_set (by simp; omega) (below_set (by simp; omega) (below_call (by (repeat' (first | (with_reducible exact Below.refl _ _) | (with_reducible refine below_alloc ?_) | (with_reducible refine below_drew ?_) | (with_reducible refine below_drewN ?_) | (with_reducible refine below_set (by first | (simp; done) | (simp; omega)) ?_) | (with_reducible refine below_call (by with_reducible assumption) ?_)))) HBW.out))⟩
        | false =>
          have HZ := Lib.hid (show findF (F.drop (j + 1)) f = findF F f by rw [← HN.out, if_neg (by simp [hq])])
          go_wp2
          go_roundg (F.length - (j + 1))
          case measure => omega
          case rel => exact ⟨j + 1, by go_num, by omega, by omega, (show Below w2.heap.size w2 _ from by (repeat' (first | (with_reducible exact Below.refl _ _) | (with_reducible refine below_alloc ?_) | (with_reducible refine below_drew ?_) | (with_reducible refine below_drewN ?_) | (with_reducible refine below_set (by first | (simp; done) | (simp; omega)) ?_) | (with_reducible refine below_call (by with_reducible assumption) ?_)))), HZ.out⟩
      · obtain rfl : j = F.length := by omega
        have hjz : ¬ (F.length : Int) < (F.length : Int) := by omega
        have HZ := Lib.hid (show namedR vars ⟨k, n, t, s, f⟩ ⟨ta, la⟩ = (⟨0, []⟩, 91) by rw [HR.out, ← HG.out, List.drop_length]; rfl)
        go_wp2
        ((try simp only [Exit.inBlock, Exit.then]); refine bodyPost_ret (v := ?_) ?_ rfl ?_; rotate_left; (focus (rw [results_cell_tmp rfl]; go_simp; (first | rfl | exact ⟨rfl, rfl⟩))))
        rw [HZ.out]
        exact ⟨none, 0, rfl, Nums.nil _, below_set (by simp; omega) (below_set (by simp; omega) (below_call (by (repeat' (first | (with_reducible exact Below.refl _ _) | (with_reducible refine below_alloc ?_) | (with_reducible refine below_drew ?_) | (with_reducible refine below_drewN ?_) | (with_reducible refine below_set (by first | (simp; done) | (simp; omega)) ?_) | (with_reducible refine below_call (by with_reducible assumption) ?_)))) HBW.out))⟩
end Go.Proofs.YtenjkplijblcoaaGreatDoor

/- capstanref09.part: what each call answers. -/
namespace Go.Proofs.YtenjkplijblcoaaGreatDoor
open Go.RowKit Cap
set_option maxRecDepth 100000

/-- A value as it lies: its list's array, and how much that takes. -/
structure Rr where
  t : Int
  A : Option Addr
  c : Nat
  nums : List Int
def encRr (r : Rr) : List Value := [.int .i64 r.t, .slice r.A r.nums.length r.c]
def Rr.v (r : Rr) : Rv := ⟨r.t, r.nums⟩
theorem encRr_len (r : Rr) : (encRr r).length = 2 := rfl
theorem one_Rr (r : Rr) : ∀ u ∈ encRr r, u.oneCell' = true := fun u hu => by
  simp [encRr] at hu
  rcases hu with rfl | rfl <;> rfl
theorem partR_1 (vars : List Vr) (n t : Int) (s f : ByteArray) (top : List Rv) : partR vars ⟨1, n, t, s, f⟩ top = if t = 0 then (⟨0, [n]⟩, 0) else (⟨t, []⟩, 0) := rfl
theorem partR_6 (vars : List Vr) (n t : Int) (s f : ByteArray) (top : List Rv) : partR vars ⟨6, n, t, s, f⟩ top = (⟨t, []⟩, countsR (top.getD 0 ⟨0, []⟩) true) := rfl
theorem partR_5 (vars : List Vr) (n t : Int) (s f : ByteArray) (top : List Rv) : partR vars ⟨5, n, t, s, f⟩ top = if top.length = 1 then oneRv n (top.getD 0 ⟨0, []⟩) else twoRv n (top.getD 0 ⟨0, []⟩) (top.getD 1 ⟨0, []⟩) := rfl
theorem partR_3 (vars : List Vr) (n t : Int) (s f : ByteArray) (top : List Rv) : partR vars ⟨3, n, t, s, f⟩ top = namedR vars ⟨3, n, t, s, f⟩ (top.getD 0 ⟨0, []⟩) := rfl
theorem nums_lit (w : World) (n : Int) : Nums (w.alloc (.cells #[.int .i64 n] 2)) (some ⟨w.heap.size, 0, none⟩) 1 [n] :=
  ⟨Sl.lit encI_len w _ _ 1 [n] rfl rfl (by simp), fun _ g hg => by
    simp [Value.ownBlock] at hg
    subst hg
    exact ⟨_, _, heap_alloc_new _ _⟩⟩
set_option maxHeartbeats 1000000 in
theorem rpart9_1 (vars : List Vr) (n t : Int) (s f : ByteArray) (top : List Rv) (vv : Value) (At : Option Addr) (lt ct : Nat) (w : World) :
    Calls Tryz.prog 71 #[vv, prtV ⟨1, n, t, s, f⟩, .slice At lt ct] w (RvR w (partR vars ⟨1, n, t, s, f⟩ top)) := by
  rw [partR_1]
  unfold prtV
  by_cases h0 : t = 0
  · subst h0
    rw [if_pos rfl]
    go_enter Tryz.func71, Tryz.ntmps71
    go_wp2
    ((try simp only [Exit.inBlock, Exit.then]); refine bodyPost_ret (v := ?_) ?_ rfl ?_; rotate_left; (focus (rw [results_cell_tmp rfl]; go_simp; (first | rfl | exact ⟨rfl, rfl⟩))))
    refine ⟨some ⟨w.heap.size + 1 + 1, 0, none⟩, 1, rfl, ?_, by (repeat' (first | (with_reducible exact Below.refl _ _) | (with_reducible refine below_alloc ?_) | (with_reducible refine below_drew ?_) | (with_reducible refine below_drewN ?_) | (with_reducible refine below_set (by first | (simp; done) | (simp; omega)) ?_) | (with_reducible refine below_call (by with_reducible assumption) ?_)))⟩
    have h := nums_lit ((w.alloc (.cells #[.int .i64 1, .int .i64 n, .int .i64 0, .string s, .string f] 38)).alloc (.cells #[.int .i64 0, .slice (some ⟨w.heap.size + 1 + 1, 0, none⟩) 1 1] 83)) n
    have e : ((w.alloc (.cells #[.int .i64 1, .int .i64 n, .int .i64 0, .string s, .string f] 38)).alloc (.cells #[.int .i64 0, .slice (some ⟨w.heap.size + 1 + 1, 0, none⟩) 1 1] 83)).heap.size = w.heap.size + 1 + 1 := by simp
    rw [e] at h
    exact h
  · have hb0 := ne_i h0
    have hn0 : (t != 0) = true := by simpa using h0
    rw [if_neg h0]
    go_enter Tryz.func71, Tryz.ntmps71
    go_wp2
    ((try simp only [Exit.inBlock, Exit.then]); refine bodyPost_ret (v := ?_) ?_ rfl ?_; rotate_left; (focus (rw [results_cell_tmp rfl]; go_simp; (first | rfl | exact ⟨rfl, rfl⟩))))
    exact ⟨none, 0, rfl, Nums.nil _, by (repeat' (first | (with_reducible exact Below.refl _ _) | (with_reducible refine below_alloc ?_) | (with_reducible refine below_drew ?_) | (with_reducible refine below_drewN ?_) | (with_reducible refine below_set (by first | (simp; done) | (simp; omega)) ?_) | (with_reducible refine below_call (by with_reducible assumption) ?_)))⟩
set_option maxHeartbeats 2000000 in
theorem rpart9_6 (vars : List Vr) (n t : Int) (s f : ByteArray) (a : Rr) (vv vt : Value) (w : World) (ht : Sl encRr 2 w vt [a]) (hN : Nums w a.A a.c a.nums) :
    Calls Tryz.prog 71 #[vv, prtV ⟨6, n, t, s, f⟩, vt] w (RvR w (partR vars ⟨6, n, t, s, f⟩ [a.v])) := by
  have HR := Lib.hid (show partR vars ⟨6, n, t, s, f⟩ [a.v] = (⟨t, []⟩, countsR ⟨a.t, a.nums⟩ true) from rfl)
  obtain ⟨at_, aA, ac, an⟩ := a
  simp only at hN HR
  have HC := Lib.hid (fun W (hW : Below w.heap.size w W) => rcounts_c at_ an aA ac true W (hN.1.below hW))
  obtain ⟨ce, hce⟩ : ∃ q, countsR ⟨at_, an⟩ true = q := ⟨_, rfl⟩
  rw [hce] at HC HR
  obtain ⟨At, ct, rfl, htl, htm, htc⟩ := ht
  obtain ⟨b, off, rfl, hb, hcx⟩ := htc 0 _ rfl
  have a0 : w.cell? ⟨b, off, none⟩ = some (.int .i64 at_) := by simpa [encRr] using hcx 0 _ rfl
  have a1 : w.cell? ⟨b, off + 1, none⟩ = some (.slice aA an.length ac) := by simpa [encRr] using hcx 1 _ rfl
  clear hce htl htc hcx hN
  unfold prtV
  go_enter Tryz.func71, Tryz.ntmps71
  go_upto_region 7 with fail
  have HK := Lib.hid (show ∀ W, Below ((w.alloc (.cells #[.int .i64 6, .int .i64 n, .int .i64 t, .string s, .string f] 38)).alloc (.cells #[.int .i64 0, .slice none 0 0] 83)).heap.size ((w.alloc (.cells #[.int .i64 6, .int .i64 n, .int .i64 t, .string s, .string f] 38)).alloc (.cells #[.int .i64 0, .slice none 0 0] 83)) W → (W.cell? ⟨w.heap.size, 2, none⟩ = some (.int .i64 t) ∧ W.cell? ⟨b, off, none⟩ = some (.int .i64 at_) ∧ W.cell? ⟨b, off + 1, none⟩ = some (.slice aA an.length ac)) from fun W hW =>
    ⟨(hW.cell (p := ⟨w.heap.size, 2, none⟩) (by simp; omega)).trans (by rw [World.cell?_alloc_old _ _ _ (by simp), World.cell?_alloc_at _ _ _ _ rfl]; rfl),
     (hW.cell (p := ⟨b, off, none⟩) (by simp; omega)).trans (((below_alloc (below_alloc (Below.refl _ w))).cell (p := ⟨b, off, none⟩) hb).trans a0),
     (hW.cell (p := ⟨b, off + 1, none⟩) (by simp; omega)).trans (((below_alloc (below_alloc (Below.refl _ w))).cell (p := ⟨b, off + 1, none⟩) hb).trans a1)⟩)
  have HS3 := Lib.hid (show ∀ (W : World) (u0 u1 : Value), (W.cell? ⟨w.heap.size, 2, none⟩ = some (.int .i64 t) ∧ W.cell? ⟨b, off, none⟩ = some (.int .i64 at_) ∧ W.cell? ⟨b, off + 1, none⟩ = some (.slice aA an.length ac)) → (((W.setCell ⟨w.heap.size + 1, 0, none⟩ u0).setCell ⟨w.heap.size + 1, 1, none⟩ u1).cell? ⟨w.heap.size, 2, none⟩ = some (.int .i64 t) ∧ ((W.setCell ⟨w.heap.size + 1, 0, none⟩ u0).setCell ⟨w.heap.size + 1, 1, none⟩ u1).cell? ⟨b, off, none⟩ = some (.int .i64 at_) ∧ ((W.setCell ⟨w.heap.size + 1, 0, none⟩ u0).setCell ⟨w.heap.size + 1, 1, none⟩ u1).cell? ⟨b, off + 1, none⟩ = some (.slice aA an.length ac)) from fun W u0 u1 hS => by
    have hq : ∀ b o, b ≠ w.heap.size + 1 → ((W.setCell ⟨w.heap.size + 1, 0, none⟩ u0).setCell ⟨w.heap.size + 1, 1, none⟩ u1).cell? ⟨b, o, none⟩ = W.cell? ⟨b, o, none⟩ := fun b o hb => World.cell?_of_block ((Below.heap_setCell _ _ _ _ hb).trans (Below.heap_setCell _ _ _ _ hb))
    rw [hq _ _ (by omega), hq _ _ (by omega), hq _ _ (by omega)]
    exact hS)
  go_region_held3 (fun W => W.cell? ⟨w.heap.size, 2, none⟩ = some (.int .i64 t) ∧ W.cell? ⟨b, off, none⟩ = some (.int .i64 at_) ∧ W.cell? ⟨b, off + 1, none⟩ = some (.slice aA an.length ac)) (first | (refine HS3.out _ _ _ ?_; assumption) | exact HK.out _ (by (repeat' (first | (with_reducible exact Below.refl _ _) | (with_reducible refine below_alloc ?_) | (with_reducible refine below_drew ?_) | (with_reducible refine below_drewN ?_) | (with_reducible refine below_set (by first | (simp; done) | (simp; omega)) ?_) | (with_reducible refine below_call (by with_reducible assumption) ?_))))) (first | (go_at_call 114; refine (HC.out _ (by (repeat' (first | (with_reducible exact Below.refl _ _) | (with_reducible refine below_alloc ?_) | (with_reducible refine below_drew ?_) | (with_reducible refine below_drewN ?_) | (with_reducible refine below_set (by first | (simp; done) | (simp; omega)) ?_) | (with_reducible refine below_call (by with_reducible assumption) ?_))))).mono ?_; rintro e w3 ⟨rfl, hb3⟩; obtain ⟨hc3, hf3⟩ := bcell hb3; have hz3 := hb3.size; (try simp at hz3); (try have hw03 : w.heap.size < w3.heap.size := by omega); (try have hw13 : w.heap.size + 1 < w3.heap.size := by omega); (try have hw23 : w.heap.size + 1 + 1 < w3.heap.size := by omega)))
  all_goals go_wp2
  all_goals ((try simp only [Exit.inBlock, Exit.then]); refine bodyPost_ret (v := ?_) ?_ rfl ?_; rotate_left; (focus (rw [results_cell_tmp rfl]; go_simp; (first | rfl | exact ⟨rfl, rfl⟩))))
  all_goals rw [HR.out]
  all_goals exact ⟨none, 0, rfl, Nums.nil _, by (repeat' (first | (with_reducible exact Below.refl _ _) | (with_reducible refine below_alloc ?_) | (with_reducible refine below_drew ?_) | (with_reducible refine below_drewN ?_) | (with_reducible refine below_set (by first | (simp; done) | (simp; omega)) ?_) | (with_reducible refine below_call (by with_reducible assumption) ?_)))⟩
set_option maxHeartbeats 2000000 in
theorem rpart9_51 (vars : List Vr) (n t : Int) (s f : ByteArray) (a : Rr) (vv vt : Value) (w : World) (ht : Sl encRr 2 w vt [a]) (hN : Nums w a.A a.c a.nums) :
    Calls Tryz.prog 71 #[vv, prtV ⟨5, n, t, s, f⟩, vt] w (RvR w (partR vars ⟨5, n, t, s, f⟩ [a.v])) := by
  have HR := Lib.hid (show partR vars ⟨5, n, t, s, f⟩ [a.v] = oneRv n ⟨a.t, a.nums⟩ from rfl)
  obtain ⟨at_, aA, ac, an⟩ := a
  simp only at hN HR
  have HC := Lib.hid (fun W (hW : Below w.heap.size w W) => rone9_c n at_ an aA ac W (hN.below hW))
  obtain ⟨⟨⟨rt, rn⟩, ce⟩, hce⟩ : ∃ q, oneRv n ⟨at_, an⟩ = q := ⟨_, rfl⟩
  rw [hce] at HC HR
  unfold RvR at HC
  simp only at HC
  obtain ⟨At, ct, rfl, htl, htm, htc⟩ := ht
  obtain ⟨b, off, rfl, hb, hcx⟩ := htc 0 _ rfl
  have a0 : w.cell? ⟨b, off, none⟩ = some (.int .i64 at_) := by simpa [encRr] using hcx 0 _ rfl
  have a1 : w.cell? ⟨b, off + 1, none⟩ = some (.slice aA an.length ac) := by simpa [encRr] using hcx 1 _ rfl
  clear hce htl htc hcx hN
  unfold prtV
  go_enter Tryz.func71, Tryz.ntmps71
  go_upto_region 10 with fail
  have HK := Lib.hid (show ∀ W, Below ((w.alloc (.cells #[.int .i64 5, .int .i64 n, .int .i64 t, .string s, .string f] 38)).alloc (.cells #[.int .i64 0, .slice none 0 0] 83)).heap.size ((w.alloc (.cells #[.int .i64 5, .int .i64 n, .int .i64 t, .string s, .string f] 38)).alloc (.cells #[.int .i64 0, .slice none 0 0] 83)) W → (W.cell? ⟨w.heap.size, 1, none⟩ = some (.int .i64 n) ∧ W.cell? ⟨b, off, none⟩ = some (.int .i64 at_) ∧ W.cell? ⟨b, off + 1, none⟩ = some (.slice aA an.length ac)) from fun W hW =>
    ⟨(hW.cell (p := ⟨w.heap.size, 1, none⟩) (by simp; omega)).trans (by rw [World.cell?_alloc_old _ _ _ (by simp), World.cell?_alloc_at _ _ _ _ rfl]; rfl),
     (hW.cell (p := ⟨b, off, none⟩) (by simp; omega)).trans (((below_alloc (below_alloc (Below.refl _ w))).cell (p := ⟨b, off, none⟩) hb).trans a0),
     (hW.cell (p := ⟨b, off + 1, none⟩) (by simp; omega)).trans (((below_alloc (below_alloc (Below.refl _ w))).cell (p := ⟨b, off + 1, none⟩) hb).trans a1)⟩)
  have HS3 := Lib.hid (show ∀ (W : World) (u0 u1 : Value), (W.cell? ⟨w.heap.size, 1, none⟩ = some (.int .i64 n) ∧ W.cell? ⟨b, off, none⟩ = some (.int .i64 at_) ∧ W.cell? ⟨b, off + 1, none⟩ = some (.slice aA an.length ac)) → (((W.setCell ⟨w.heap.size + 1, 0, none⟩ u0).setCell ⟨w.heap.size + 1, 1, none⟩ u1).cell? ⟨w.heap.size, 1, none⟩ = some (.int .i64 n) ∧ ((W.setCell ⟨w.heap.size + 1, 0, none⟩ u0).setCell ⟨w.heap.size + 1, 1, none⟩ u1).cell? ⟨b, off, none⟩ = some (.int .i64 at_) ∧ ((W.setCell ⟨w.heap.size + 1, 0, none⟩ u0).setCell ⟨w.heap.size + 1, 1, none⟩ u1).cell? ⟨b, off + 1, none⟩ = some (.slice aA an.length ac)) from fun W u0 u1 hS => by
    have hq : ∀ b o, b ≠ w.heap.size + 1 → ((W.setCell ⟨w.heap.size + 1, 0, none⟩ u0).setCell ⟨w.heap.size + 1, 1, none⟩ u1).cell? ⟨b, o, none⟩ = W.cell? ⟨b, o, none⟩ := fun b o hb => World.cell?_of_block ((Below.heap_setCell _ _ _ _ hb).trans (Below.heap_setCell _ _ _ _ hb))
    rw [hq _ _ (by omega), hq _ _ (by omega), hq _ _ (by omega)]
    exact hS)
  go_region_held3 (fun W => W.cell? ⟨w.heap.size, 1, none⟩ = some (.int .i64 n) ∧ W.cell? ⟨b, off, none⟩ = some (.int .i64 at_) ∧ W.cell? ⟨b, off + 1, none⟩ = some (.slice aA an.length ac)) (first | (refine HS3.out _ _ _ ?_; assumption) | exact HK.out _ (by (repeat' (first | (with_reducible exact Below.refl _ _) | (with_reducible refine below_alloc ?_) | (with_reducible refine below_drew ?_) | (with_reducible refine below_drewN ?_) | (with_reducible refine below_set (by first | (simp; done) | (simp; omega)) ?_) | (with_reducible refine below_call (by with_reducible assumption) ?_))))) (first | (go_at_call 115; refine (HC.out _ (by (repeat' (first | (with_reducible exact Below.refl _ _) | (with_reducible refine below_alloc ?_) | (with_reducible refine below_drew ?_) | (with_reducible refine below_drewN ?_) | (with_reducible refine below_set (by first | (simp; done) | (simp; omega)) ?_) | (with_reducible refine below_call (by with_reducible assumption) ?_))))).mono ?_; rintro e w3 ⟨A3, c3, rfl, hS3, hb3⟩; have HN3 := Lib.hid hS3; have hX3 := (hb3.block (w.heap.size + 1) (by simp)).trans (box2 _ _ _); have HX3 := Lib.hid hX3; have r0 := cell_of_row _ _ 0 _ _ _ hX3; have r1 := cell_of_row _ _ 1 _ _ _ hX3; have f0 := frozen_row 0 hX3; have f1 := frozen_row 1 hX3; simp at r0 r1; clear hX3 hS3; obtain ⟨hc3, hf3⟩ := bcell hb3; have hz3 := hb3.size; (try simp at hz3); (try have hw03 : w.heap.size < w3.heap.size := by omega); (try have hw13 : w.heap.size + 1 < w3.heap.size := by omega); (try have hw23 : w.heap.size + 1 + 1 < w3.heap.size := by omega)))
  all_goals go_wp2
  all_goals ((try simp only [Exit.inBlock, Exit.then]); refine bodyPost_ret (v := ?_) ?_ rfl ?_; rotate_left; (focus (rw [results_cell_tmp rfl]; go_simp; (first | rfl | exact ⟨rfl, rfl⟩))))
  all_goals rw [HR.out]
  all_goals exact ⟨A3, c3, rfl, HN3.out.put HX3.out (by decide) _ _ _ _, by (repeat' (first | (with_reducible exact Below.refl _ _) | (with_reducible refine below_alloc ?_) | (with_reducible refine below_drew ?_) | (with_reducible refine below_drewN ?_) | (with_reducible refine below_set (by first | (simp; done) | (simp; omega)) ?_) | (with_reducible refine below_call (by with_reducible assumption) ?_)))⟩
set_option maxHeartbeats 2000000 in
theorem rpart9_52 (vars : List Vr) (n t : Int) (s f : ByteArray) (a a' : Rr) (vv vt : Value) (w : World) (ht : Sl encRr 2 w vt [a, a']) (hN : Nums w a.A a.c a.nums) (hN' : Nums w a'.A a'.c a'.nums) (hn : a.nums.length + a'.nums.length ≤ 1000) :
    Calls Tryz.prog 71 #[vv, prtV ⟨5, n, t, s, f⟩, vt] w (RvR w (partR vars ⟨5, n, t, s, f⟩ [a.v, a'.v])) := by
  have HR := Lib.hid (show partR vars ⟨5, n, t, s, f⟩ [a.v, a'.v] = twoRv n ⟨a.t, a.nums⟩ ⟨a'.t, a'.nums⟩ from rfl)
  obtain ⟨at_, aA, ac, an⟩ := a
  obtain ⟨bt_, bA, bc, bn⟩ := a'
  simp only at hN hN' HR hn
  have HC := Lib.hid (fun W (hW : Below w.heap.size w W) => rtwo9_c n at_ bt_ an bn aA bA ac bc W (hN.1.below hW) (hN'.1.below hW) hn)
  obtain ⟨⟨⟨rt, rn⟩, ce⟩, hce⟩ : ∃ q, twoRv n ⟨at_, an⟩ ⟨bt_, bn⟩ = q := ⟨_, rfl⟩
  rw [hce] at HC HR
  unfold RvR at HC
  simp only at HC
  obtain ⟨At, ct, rfl, htl, htm, htc⟩ := ht
  obtain ⟨b, off, rfl, hb, hcx⟩ := htc 0 _ rfl
  obtain ⟨b', off', he, _, hcy⟩ := htc 1 _ rfl
  injection he with he
  injection he with e1 e2 _
  subst e1 e2
  have a0 : w.cell? ⟨b, off, none⟩ = some (.int .i64 at_) := by simpa [encRr] using hcx 0 _ rfl
  have a1 : w.cell? ⟨b, off + 1, none⟩ = some (.slice aA an.length ac) := by simpa [encRr] using hcx 1 _ rfl
  have a2 : w.cell? ⟨b, off + 2, none⟩ = some (.int .i64 bt_) := by simpa [encRr] using hcy 0 _ rfl
  have a3 : w.cell? ⟨b, off + 3, none⟩ = some (.slice bA bn.length bc) := by simpa [encRr] using hcy 1 _ rfl
  clear hce htl htc hcx hcy hN hN'
  unfold prtV
  go_enter Tryz.func71, Tryz.ntmps71
  go_upto_region 11 with fail
  have HK := Lib.hid (show ∀ W, Below ((w.alloc (.cells #[.int .i64 5, .int .i64 n, .int .i64 t, .string s, .string f] 38)).alloc (.cells #[.int .i64 0, .slice none 0 0] 83)).heap.size ((w.alloc (.cells #[.int .i64 5, .int .i64 n, .int .i64 t, .string s, .string f] 38)).alloc (.cells #[.int .i64 0, .slice none 0 0] 83)) W → (W.cell? ⟨w.heap.size, 1, none⟩ = some (.int .i64 n) ∧ W.cell? ⟨b, off, none⟩ = some (.int .i64 at_) ∧ W.cell? ⟨b, off + 1, none⟩ = some (.slice aA an.length ac) ∧ W.cell? ⟨b, off + 2, none⟩ = some (.int .i64 bt_) ∧ W.cell? ⟨b, off + 3, none⟩ = some (.slice bA bn.length bc)) from fun W hW =>
    ⟨(hW.cell (p := ⟨w.heap.size, 1, none⟩) (by simp; omega)).trans (by rw [World.cell?_alloc_old _ _ _ (by simp), World.cell?_alloc_at _ _ _ _ rfl]; rfl),
     (hW.cell (p := ⟨b, off, none⟩) (by simp; omega)).trans (((below_alloc (below_alloc (Below.refl _ w))).cell (p := ⟨b, off, none⟩) hb).trans a0),
     (hW.cell (p := ⟨b, off + 1, none⟩) (by simp; omega)).trans (((below_alloc (below_alloc (Below.refl _ w))).cell (p := ⟨b, off + 1, none⟩) hb).trans a1),
     (hW.cell (p := ⟨b, off + 2, none⟩) (by simp; omega)).trans (((below_alloc (below_alloc (Below.refl _ w))).cell (p := ⟨b, off + 2, none⟩) hb).trans a2),
     (hW.cell (p := ⟨b, off + 3, none⟩) (by simp; omega)).trans (((below_alloc (below_alloc (Below.refl _ w))).cell (p := ⟨b, off + 3, none⟩) hb).trans a3)⟩)
  have HS3 := Lib.hid (show ∀ (W : World) (u0 u1 : Value), (W.cell? ⟨w.heap.size, 1, none⟩ = some (.int .i64 n) ∧ W.cell? ⟨b, off, none⟩ = some (.int .i64 at_) ∧ W.cell? ⟨b, off + 1, none⟩ = some (.slice aA an.length ac) ∧ W.cell? ⟨b, off + 2, none⟩ = some (.int .i64 bt_) ∧ W.cell? ⟨b, off + 3, none⟩ = some (.slice bA bn.length bc)) → (((W.setCell ⟨w.heap.size + 1, 0, none⟩ u0).setCell ⟨w.heap.size + 1, 1, none⟩ u1).cell? ⟨w.heap.size, 1, none⟩ = some (.int .i64 n) ∧ ((W.setCell ⟨w.heap.size + 1, 0, none⟩ u0).setCell ⟨w.heap.size + 1, 1, none⟩ u1).cell? ⟨b, off, none⟩ = some (.int .i64 at_) ∧ ((W.setCell ⟨w.heap.size + 1, 0, none⟩ u0).setCell ⟨w.heap.size + 1, 1, none⟩ u1).cell? ⟨b, off + 1, none⟩ = some (.slice aA an.length ac) ∧ ((W.setCell ⟨w.heap.size + 1, 0, none⟩ u0).setCell ⟨w.heap.size + 1, 1, none⟩ u1).cell? ⟨b, off + 2, none⟩ = some (.int .i64 bt_) ∧ ((W.setCell ⟨w.heap.size + 1, 0, none⟩ u0).setCell ⟨w.heap.size + 1, 1, none⟩ u1).cell? ⟨b, off + 3, none⟩ = some (.slice bA bn.length bc)) from fun W u0 u1 hS => by
    have hq : ∀ b o, b ≠ w.heap.size + 1 → ((W.setCell ⟨w.heap.size + 1, 0, none⟩ u0).setCell ⟨w.heap.size + 1, 1, none⟩ u1).cell? ⟨b, o, none⟩ = W.cell? ⟨b, o, none⟩ := fun b o hb => World.cell?_of_block ((Below.heap_setCell _ _ _ _ hb).trans (Below.heap_setCell _ _ _ _ hb))
    rw [hq _ _ (by omega), hq _ _ (by omega), hq _ _ (by omega), hq _ _ (by omega), hq _ _ (by omega)]
    exact hS)
  go_region_held3 (fun W => W.cell? ⟨w.heap.size, 1, none⟩ = some (.int .i64 n) ∧ W.cell? ⟨b, off, none⟩ = some (.int .i64 at_) ∧ W.cell? ⟨b, off + 1, none⟩ = some (.slice aA an.length ac) ∧ W.cell? ⟨b, off + 2, none⟩ = some (.int .i64 bt_) ∧ W.cell? ⟨b, off + 3, none⟩ = some (.slice bA bn.length bc)) (first | (refine HS3.out _ _ _ ?_; assumption) | exact HK.out _ (by (repeat' (first | (with_reducible exact Below.refl _ _) | (with_reducible refine below_alloc ?_) | (with_reducible refine below_drew ?_) | (with_reducible refine below_drewN ?_) | (with_reducible refine below_set (by first | (simp; done) | (simp; omega)) ?_) | (with_reducible refine below_call (by with_reducible assumption) ?_))))) (first | (go_at_call 116; refine (HC.out _ (by (repeat' (first | (with_reducible exact Below.refl _ _) | (with_reducible refine below_alloc ?_) | (with_reducible refine below_drew ?_) | (with_reducible refine below_drewN ?_) | (with_reducible refine below_set (by first | (simp; done) | (simp; omega)) ?_) | (with_reducible refine below_call (by with_reducible assumption) ?_))))).mono ?_; rintro e w3 ⟨A3, c3, rfl, hS3, hb3⟩; have HN3 := Lib.hid hS3; have hX3 := (hb3.block (w.heap.size + 1) (by simp)).trans (box2 _ _ _); have HX3 := Lib.hid hX3; have r0 := cell_of_row _ _ 0 _ _ _ hX3; have r1 := cell_of_row _ _ 1 _ _ _ hX3; have f0 := frozen_row 0 hX3; have f1 := frozen_row 1 hX3; simp at r0 r1; clear hX3 hS3; obtain ⟨hc3, hf3⟩ := bcell hb3; have hz3 := hb3.size; (try simp at hz3); (try have hw03 : w.heap.size < w3.heap.size := by omega); (try have hw13 : w.heap.size + 1 < w3.heap.size := by omega); (try have hw23 : w.heap.size + 1 + 1 < w3.heap.size := by omega)))
  all_goals go_wp2
  all_goals ((try simp only [Exit.inBlock, Exit.then]); refine bodyPost_ret (v := ?_) ?_ rfl ?_; rotate_left; (focus (rw [results_cell_tmp rfl]; go_simp; (first | rfl | exact ⟨rfl, rfl⟩))))
  all_goals rw [HR.out]
  all_goals exact ⟨A3, c3, rfl, HN3.out.put HX3.out (by decide) _ _ _ _, by (repeat' (first | (with_reducible exact Below.refl _ _) | (with_reducible refine below_alloc ?_) | (with_reducible refine below_drew ?_) | (with_reducible refine below_drewN ?_) | (with_reducible refine below_set (by first | (simp; done) | (simp; omega)) ?_) | (with_reducible refine below_call (by with_reducible assumption) ?_)))⟩
set_option maxHeartbeats 2000000 in
theorem rpart9_3 (vars : List Vr) (n t : Int) (s f : ByteArray) (a : Rr) (vv vt : Value) (w : World) (hs : Sl encVr 5 w vv vars) (hmay : ∀ v ∈ vars, mayV v = true) (ht : Sl encRr 2 w vt [a]) (hN : Nums w a.A a.c a.nums) :
    Calls Tryz.prog 71 #[vv, prtV ⟨3, n, t, s, f⟩, vt] w (RvR w (partR vars ⟨3, n, t, s, f⟩ [a.v])) := by
  have HR := Lib.hid (show partR vars ⟨3, n, t, s, f⟩ [a.v] = namedR vars ⟨3, n, t, s, f⟩ ⟨a.t, a.nums⟩ from rfl)
  obtain ⟨at_, aA, ac, an⟩ := a
  simp only at hN HR
  have HC := Lib.hid (fun W (hW : Below w.heap.size w W) => rnamed9_c vars ⟨3, n, t, s, f⟩ at_ an aA ac vv W (hs.below hW) hmay (hN.1.below hW))
  obtain ⟨⟨⟨rt, rn⟩, ce⟩, hce⟩ : ∃ q, namedR vars ⟨3, n, t, s, f⟩ ⟨at_, an⟩ = q := ⟨_, rfl⟩
  rw [hce] at HC HR
  unfold RvR at HC
  simp only at HC
  obtain ⟨At, ct, rfl, htl, htm, htc⟩ := ht
  obtain ⟨b, off, rfl, hb, hcx⟩ := htc 0 _ rfl
  have a0 : w.cell? ⟨b, off, none⟩ = some (.int .i64 at_) := by simpa [encRr] using hcx 0 _ rfl
  have a1 : w.cell? ⟨b, off + 1, none⟩ = some (.slice aA an.length ac) := by simpa [encRr] using hcx 1 _ rfl
  obtain ⟨Av, cv, rfl, -, -, -⟩ := hs
  clear hce htl htc hcx hN hmay
  unfold prtV at HC ⊢
  go_enter Tryz.func71, Tryz.ntmps71
  go_upto_region 13 with fail
  have HK := Lib.hid (show ∀ W, Below ((w.alloc (.cells #[.int .i64 3, .int .i64 n, .int .i64 t, .string s, .string f] 38)).alloc (.cells #[.int .i64 0, .slice none 0 0] 83)).heap.size ((w.alloc (.cells #[.int .i64 3, .int .i64 n, .int .i64 t, .string s, .string f] 38)).alloc (.cells #[.int .i64 0, .slice none 0 0] 83)) W → (W.cell? ⟨w.heap.size, 0, none⟩ = some (.int .i64 3) ∧ W.cell? ⟨w.heap.size, 1, none⟩ = some (.int .i64 n) ∧ W.cell? ⟨w.heap.size, 2, none⟩ = some (.int .i64 t) ∧ W.cell? ⟨w.heap.size, 3, none⟩ = some (.string s) ∧ W.cell? ⟨w.heap.size, 4, none⟩ = some (.string f) ∧ W.cell? ⟨b, off, none⟩ = some (.int .i64 at_) ∧ W.cell? ⟨b, off + 1, none⟩ = some (.slice aA an.length ac)) from fun W hW =>
    ⟨(hW.cell (p := ⟨w.heap.size, 0, none⟩) (by simp; omega)).trans (by rw [World.cell?_alloc_old _ _ _ (by simp), World.cell?_alloc_at _ _ _ _ rfl]; rfl),
     (hW.cell (p := ⟨w.heap.size, 1, none⟩) (by simp; omega)).trans (by rw [World.cell?_alloc_old _ _ _ (by simp), World.cell?_alloc_at _ _ _ _ rfl]; rfl),
     (hW.cell (p := ⟨w.heap.size, 2, none⟩) (by simp; omega)).trans (by rw [World.cell?_alloc_old _ _ _ (by simp), World.cell?_alloc_at _ _ _ _ rfl]; rfl),
     (hW.cell (p := ⟨w.heap.size, 3, none⟩) (by simp; omega)).trans (by rw [World.cell?_alloc_old _ _ _ (by simp), World.cell?_alloc_at _ _ _ _ rfl]; rfl),
     (hW.cell (p := ⟨w.heap.size, 4, none⟩) (by simp; omega)).trans (by rw [World.cell?_alloc_old _ _ _ (by simp), World.cell?_alloc_at _ _ _ _ rfl]; rfl),
     (hW.cell (p := ⟨b, off, none⟩) (by simp; omega)).trans (((below_alloc (below_alloc (Below.refl _ w))).cell (p := ⟨b, off, none⟩) hb).trans a0),
     (hW.cell (p := ⟨b, off + 1, none⟩) (by simp; omega)).trans (((below_alloc (below_alloc (Below.refl _ w))).cell (p := ⟨b, off + 1, none⟩) hb).trans a1)⟩)
  have HS3 := Lib.hid (show ∀ (W : World) (u0 u1 : Value), (W.cell? ⟨w.heap.size, 0, none⟩ = some (.int .i64 3) ∧ W.cell? ⟨w.heap.size, 1, none⟩ = some (.int .i64 n) ∧ W.cell? ⟨w.heap.size, 2, none⟩ = some (.int .i64 t) ∧ W.cell? ⟨w.heap.size, 3, none⟩ = some (.string s) ∧ W.cell? ⟨w.heap.size, 4, none⟩ = some (.string f) ∧ W.cell? ⟨b, off, none⟩ = some (.int .i64 at_) ∧ W.cell? ⟨b, off + 1, none⟩ = some (.slice aA an.length ac)) → (((W.setCell ⟨w.heap.size + 1, 0, none⟩ u0).setCell ⟨w.heap.size + 1, 1, none⟩ u1).cell? ⟨w.heap.size, 0, none⟩ = some (.int .i64 3) ∧ ((W.setCell ⟨w.heap.size + 1, 0, none⟩ u0).setCell ⟨w.heap.size + 1, 1, none⟩ u1).cell? ⟨w.heap.size, 1, none⟩ = some (.int .i64 n) ∧ ((W.setCell ⟨w.heap.size + 1, 0, none⟩ u0).setCell ⟨w.heap.size + 1, 1, none⟩ u1).cell? ⟨w.heap.size, 2, none⟩ = some (.int .i64 t) ∧ ((W.setCell ⟨w.heap.size + 1, 0, none⟩ u0).setCell ⟨w.heap.size + 1, 1, none⟩ u1).cell? ⟨w.heap.size, 3, none⟩ = some (.string s) ∧ ((W.setCell ⟨w.heap.size + 1, 0, none⟩ u0).setCell ⟨w.heap.size + 1, 1, none⟩ u1).cell? ⟨w.heap.size, 4, none⟩ = some (.string f) ∧ ((W.setCell ⟨w.heap.size + 1, 0, none⟩ u0).setCell ⟨w.heap.size + 1, 1, none⟩ u1).cell? ⟨b, off, none⟩ = some (.int .i64 at_) ∧ ((W.setCell ⟨w.heap.size + 1, 0, none⟩ u0).setCell ⟨w.heap.size + 1, 1, none⟩ u1).cell? ⟨b, off + 1, none⟩ = some (.slice aA an.length ac)) from fun W u0 u1 hS => by
    have hq : ∀ b o, b ≠ w.heap.size + 1 → ((W.setCell ⟨w.heap.size + 1, 0, none⟩ u0).setCell ⟨w.heap.size + 1, 1, none⟩ u1).cell? ⟨b, o, none⟩ = W.cell? ⟨b, o, none⟩ := fun b o hb => World.cell?_of_block ((Below.heap_setCell _ _ _ _ hb).trans (Below.heap_setCell _ _ _ _ hb))
    rw [hq _ _ (by omega), hq _ _ (by omega), hq _ _ (by omega), hq _ _ (by omega), hq _ _ (by omega), hq _ _ (by omega), hq _ _ (by omega)]
    exact hS)
  go_region_held3 (fun W => W.cell? ⟨w.heap.size, 0, none⟩ = some (.int .i64 3) ∧ W.cell? ⟨w.heap.size, 1, none⟩ = some (.int .i64 n) ∧ W.cell? ⟨w.heap.size, 2, none⟩ = some (.int .i64 t) ∧ W.cell? ⟨w.heap.size, 3, none⟩ = some (.string s) ∧ W.cell? ⟨w.heap.size, 4, none⟩ = some (.string f) ∧ W.cell? ⟨b, off, none⟩ = some (.int .i64 at_) ∧ W.cell? ⟨b, off + 1, none⟩ = some (.slice aA an.length ac)) (first | (refine HS3.out _ _ _ ?_; assumption) | exact HK.out _ (by (repeat' (first | (with_reducible exact Below.refl _ _) | (with_reducible refine below_alloc ?_) | (with_reducible refine below_drew ?_) | (with_reducible refine below_drewN ?_) | (with_reducible refine below_set (by first | (simp; done) | (simp; omega)) ?_) | (with_reducible refine below_call (by with_reducible assumption) ?_))))) (first | (go_at_call 117; refine (HC.out _ (by (repeat' (first | (with_reducible exact Below.refl _ _) | (with_reducible refine below_alloc ?_) | (with_reducible refine below_drew ?_) | (with_reducible refine below_drewN ?_) | (with_reducible refine below_set (by first | (simp; done) | (simp; omega)) ?_) | (with_reducible refine below_call (by with_reducible assumption) ?_))))).mono ?_; rintro e w3 ⟨A3, c3, rfl, hS3, hb3⟩; have HN3 := Lib.hid hS3; have hX3 := (hb3.block (w.heap.size + 1) (by simp)).trans (box2 _ _ _); have HX3 := Lib.hid hX3; have r0 := cell_of_row _ _ 0 _ _ _ hX3; have r1 := cell_of_row _ _ 1 _ _ _ hX3; have f0 := frozen_row 0 hX3; have f1 := frozen_row 1 hX3; simp at r0 r1; clear hX3 hS3; obtain ⟨hc3, hf3⟩ := bcell hb3; have hz3 := hb3.size; (try simp at hz3); (try have hw03 : w.heap.size < w3.heap.size := by omega); (try have hw13 : w.heap.size + 1 < w3.heap.size := by omega); (try have hw23 : w.heap.size + 1 + 1 < w3.heap.size := by omega)))
  all_goals go_wp2
  all_goals ((try simp only [Exit.inBlock, Exit.then]); refine bodyPost_ret (v := ?_) ?_ rfl ?_; rotate_left; (focus (rw [results_cell_tmp rfl]; go_simp; (first | rfl | exact ⟨rfl, rfl⟩))))
  all_goals rw [HR.out]
  all_goals exact ⟨A3, c3, rfl, HN3.out.put HX3.out (by decide) _ _ _ _, by (repeat' (first | (with_reducible exact Below.refl _ _) | (with_reducible refine below_alloc ?_) | (with_reducible refine below_drew ?_) | (with_reducible refine below_drewN ?_) | (with_reducible refine below_set (by first | (simp; done) | (simp; omega)) ?_) | (with_reducible refine below_call (by with_reducible assumption) ?_)))⟩
set_option maxHeartbeats 2000000 in
theorem rpart9_n (vars : List Vr) (k n t : Int) (s f : ByteArray) (top : List Rv) (vv : Value) (At : Option Addr) (lt ct : Nat) (w : World) (hs : Sl encVr 5 w vv vars) (hmay : ∀ v ∈ vars, mayV v = true) (h1 : ¬ k = 1) (h6 : ¬ k = 6) (h5 : ¬ k = 5) (h3 : ¬ k = 3) :
    Calls Tryz.prog 71 #[vv, prtV ⟨k, n, t, s, f⟩, .slice At lt ct] w (RvR w (partR vars ⟨k, n, t, s, f⟩ top)) := by
  have HR := Lib.hid (show partR vars ⟨k, n, t, s, f⟩ top = namedR vars ⟨k, n, t, s, f⟩ ⟨0, []⟩ by
    unfold partR
    simp only
    rw [if_neg h1, if_neg h6, if_neg h5, if_neg h3])
  have HC := Lib.hid (fun W (hW : Below w.heap.size w W) => rnamed9_c vars ⟨k, n, t, s, f⟩ 0 [] none 0 vv W (hs.below hW) hmay (Sl.nil _ _ _))
  obtain ⟨⟨⟨rt, rn⟩, ce⟩, hce⟩ : ∃ q, namedR vars ⟨k, n, t, s, f⟩ ⟨0, []⟩ = q := ⟨_, rfl⟩
  rw [hce] at HC HR
  unfold RvR at HC
  simp only [List.length_nil] at HC
  obtain ⟨Av, cv, rfl, -, -, -⟩ := hs
  have b1 := ne_i h1
  have b3 := ne_i h3
  have b5 := ne_i h5
  have b6 := ne_i h6
  clear hce hmay h1 h3 h5 h6
  unfold prtV at HC ⊢
  go_enter Tryz.func71, Tryz.ntmps71
  go_wp2_with (go_at_call 117; refine (HC.out _ (by (repeat' (first | (with_reducible exact Below.refl _ _) | (with_reducible refine below_alloc ?_) | (with_reducible refine below_drew ?_) | (with_reducible refine below_drewN ?_) | (with_reducible refine below_set (by first | (simp; done) | (simp; omega)) ?_) | (with_reducible refine below_call (by with_reducible assumption) ?_))))).mono ?_; rintro e w3 ⟨A3, c3, rfl, hS3, hb3⟩; have HN3 := Lib.hid hS3; have hX3 := (hb3.block (w.heap.size + 1) (by simp)).trans (box2 _ _ _); have HX3 := Lib.hid hX3; have r0 := cell_of_row _ _ 0 _ _ _ hX3; have r1 := cell_of_row _ _ 1 _ _ _ hX3; have f0 := frozen_row 0 hX3; have f1 := frozen_row 1 hX3; simp at r0 r1; clear hX3 hS3; obtain ⟨hc3, hf3⟩ := bcell hb3; have hz3 := hb3.size; (try simp at hz3); (try have hw03 : w.heap.size < w3.heap.size := by omega); (try have hw13 : w.heap.size + 1 < w3.heap.size := by omega); (try have hw23 : w.heap.size + 1 + 1 < w3.heap.size := by omega))
  ((try simp only [Exit.inBlock, Exit.then]); refine bodyPost_ret (v := ?_) ?_ rfl ?_; rotate_left; (focus (rw [results_cell_tmp rfl]; go_simp; (first | rfl | exact ⟨rfl, rfl⟩))))
  rw [HR.out]
  exact ⟨A3, c3, rfl, HN3.out.put HX3.out (by decide) _ _ _ _, by (repeat' (first | (with_reducible exact Below.refl _ _) | (with_reducible refine below_alloc ?_) | (with_reducible refine below_drew ?_) | (with_reducible refine below_drewN ?_) | (with_reducible refine below_set (by first | (simp; done) | (simp; omega)) ?_) | (with_reducible refine below_call (by with_reducible assumption) ?_)))⟩
theorem rpart9_c (vars : List Vr) (p : Prt) (top : List Rr) (vv vt : Value) (w : World) (hs : Sl encVr 5 w vv vars) (hmay : ∀ v ∈ vars, mayV v = true) (ht : Sl encRr 2 w vt top) (hN : ∀ r ∈ top, Nums w r.A r.c r.nums) (hl : top.length = takesE p) (hn : (top.map (fun r => r.nums.length)).sum ≤ 1000) :
    Calls Tryz.prog 71 #[vv, prtV p, vt] w (RvR w (partR vars p (top.map Rr.v))) := by
  obtain ⟨k, n, t, s, f⟩ := p
  by_cases h1 : k = 1
  · subst h1
    obtain ⟨A, c, rfl, -, -, -⟩ := ht
    exact rpart9_1 vars n t s f _ vv A _ c w
  by_cases h6 : k = 6
  · subst h6
    have hl1 : top.length = 1 := by rw [hl]; rfl
    match top, hl1 with
    | [a], _ => exact rpart9_6 vars n t s f a vv vt w ht (hN a (by simp))
  by_cases h5 : k = 5
  · subst h5
    by_cases h15 : 15 ≤ n ∧ n ≤ 16
    · have hl1 : top.length = 1 := by rw [hl, takesE, if_pos (.inr (.inr ⟨rfl, h15⟩))]
      match top, hl1 with
      | [a], _ => exact rpart9_51 vars n t s f a vv vt w ht (hN a (by simp))
    · have hl2 : top.length = 2 := by rw [hl, takesE, if_neg (by rintro (h | h | h) <;> first | exact h15 h.2 | simp at h), if_pos rfl]
      match top, hl2 with
      | [a, a'], _ => exact rpart9_52 vars n t s f a a' vv vt w ht (hN a (by simp)) (hN a' (by simp)) (by simpa using hn)
  by_cases h3 : k = 3
  · subst h3
    have hl1 : top.length = 1 := by rw [hl]; rfl
    match top, hl1 with
    | [a], _ => exact rpart9_3 vars n t s f a vv vt w hs hmay ht (hN a (by simp))
  obtain ⟨A, c, rfl, -, -, -⟩ := ht
  exact rpart9_n vars k n t s f _ vv A _ c w hs hmay h1 h6 h5 h3
end Go.Proofs.YtenjkplijblcoaaGreatDoor
