/- typed.named, of variables that hold one number each. -/
import Derived.Test.YtenjkplijblcoaaGreatDoorCFFind
import Derived.Test.YtenjkplijblcoaaGreatDoorCFTwo
set_option linter.unusedSimpArgs false
set_option linter.unusedVariables false
namespace Go.Proofs.YtenjkplijblcoaaGreatDoor
open Go.RowKit Cap
set_option maxRecDepth 100000

theorem findV_mem {vars : List Vr} {s : ByteArray} {x : Vr} (h : findV vars s = some x) : x ∈ vars := by
  induction vars with
  | nil => cases h
  | cons v r ih =>
    rw [findV] at h
    split at h
    · injection h with h
      subst h
      exact List.mem_cons_self
    · exact List.mem_cons_of_mem _ (ih h)
theorem findF_idx (f : ByteArray) : ∀ (l : List Fld) (i : Int), 0 ≤ i → match findF l f with
    | some x => ∃ j : Nat, idxP (fun x : Fld => x.name.toList == f.toList) l i = i + j ∧ l[j]? = some x
    | none => idxP (fun x : Fld => x.name.toList == f.toList) l i = -1
  | [], i, _ => rfl
  | x :: r, i, hi => by
    rw [findF, idxP]
    cases h : (x.name.toList == f.toList) with
    | true =>
      rw [if_pos rfl, if_pos rfl]
      exact ⟨0, by simp, rfl⟩
    | false =>
      rw [if_neg (by simp), if_neg (by simp)]
      have ih := findF_idx f r (i + 1) (by omega)
      cases hq : findF r f with
      | none =>
        rw [hq] at ih
        exact ih
      | some y =>
        rw [hq] at ih
        obtain ⟨j, h1, h2⟩ := ih
        exact ⟨j + 1, by rw [h1]; push_cast; omega, h2⟩
theorem namedP_c (x : Fld) (f : ByteArray) (bp : Nat) (w : World) (hc : w.cell? ⟨bp, 4, none⟩ = some (.string f)) : Calls Tryz.prog 133 #[fldV x, .pointer (some ⟨bp, 0, none⟩)] w fun e w' => e = .returned (.bool (x.name.toList == f.toList)) ∧ Below w.heap.size w w' := by
  have hbp := World.block_lt_of_cell? w _ hc
  obtain ⟨nm, ty, st⟩ := x
  unfold fldV
  simp only at hbp ⊢
  go_enter Tryz.func133, Tryz.ntmps133
  go_wp2
  go_ret
  exact ⟨rfl, by (repeat' (first | (with_reducible exact Below.refl _ _) | (with_reducible refine below_alloc ?_) | (with_reducible refine below_drew ?_) | (with_reducible refine below_drewN ?_) | (with_reducible refine below_set (by first | (simp; done) | (simp; omega)) ?_) | (with_reducible refine below_call (by with_reducible assumption) ?_)))⟩
set_option maxHeartbeats 8000000 in
theorem named_c (vars : List Vr) (p : Prt) (top : List Va) (vv vt : Value) (w : World) (hs : Sl encVr 5 w vv vars) (hp : ∀ x ∈ vars, OneV x) (h64 : vars.length ≤ 64) (ht : Sl encVa 3 w vt top) (hk3 : p.k = 3 → top ≠ []) :
    Calls Tryz.prog 88 #[vv, prtV p, vt] w fun e w' => e = .returned (.tuple #[vaV (namedV vars p (top.getD 0 (plainV 0))).1, .int .i64 (namedV vars p (top.getD 0 (plainV 0))).2]) ∧ Below w.heap.size w w' := by
  have HF := Lib.hid (fun W (hW : Below w.heap.size w W) => find_c vars vv p.s W (hs.below hW) hp h64)
  have hone : ∀ x, findV vars p.s = some x → OneV x := fun x hx => hp x (findV_mem hx)
  clear hs hp
  obtain ⟨k, n, t, s, f⟩ := p
  unfold prtV
  simp only at HF hone hk3 ⊢
  cases hq : findV vars s with
  | none =>
    have HR := Lib.hid (show namedV vars ⟨k, n, t, s, f⟩ (top.getD 0 (plainV 0)) = (plainV 0, 90) by unfold namedV; simp only [hq])
    rw [hq] at HF
    obtain ⟨At, ct, rfl, -, -, -⟩ := ht
    clear hone hq
    go_enter Tryz.func88, Tryz.ntmps88
    go_wp2_with (go_at_call 130; refine (HF.out _ (by (repeat' (first | (with_reducible exact Below.refl _ _) | (with_reducible refine below_alloc ?_) | (with_reducible refine below_drew ?_) | (with_reducible refine below_drewN ?_) | (with_reducible refine below_set (by simp; omega) ?_) | (with_reducible refine below_call (by with_reducible assumption) ?_))))).mono ?_; rintro e w1 (_ | ⟨hb1⟩); obtain ⟨hc1, hf1⟩ := bcell hb1; have hz1 := hb1.size; (try simp at hz1); (try have hw01 : w.heap.size < w1.heap.size := by omega); (try have hw11 : w.heap.size + 1 < w1.heap.size := by omega); (try have hw21 : w.heap.size + 1 + 1 < w1.heap.size := by omega))
    ((try simp only [Exit.inBlock, Exit.then]); refine bodyPost_ret (v := ?_) ?_ rfl ?_; rotate_left; (focus (rw [results_cell_tmp rfl]; go_simp; (first | rfl | exact ⟨rfl, rfl⟩))))
    exact ⟨by rw [HR.out]; rfl, by (repeat' (first | (with_reducible exact Below.refl _ _) | (with_reducible refine below_alloc ?_) | (with_reducible refine below_drew ?_) | (with_reducible refine below_drewN ?_) | (with_reducible refine below_set (by first | (simp; done) | (simp; omega)) ?_) | (with_reducible refine below_call (by with_reducible assumption) ?_)))⟩
  | some x =>
    obtain ⟨ho1, h110⟩ := hone x hq
    obtain ⟨nm, ty, len, init, dir⟩ := x
    simp only at ho1 h110
    have HR := Lib.hid (show namedV vars ⟨k, n, t, s, f⟩ (top.getD 0 (plainV 0)) = if k = 2 ∧ len = 0 ∧ ty < 100 then (plainV ty, 0) else if k = 3 ∧ 0 < len then (plainV ty, countsV (top.getD 0 (plainV 0)) false) else if k = 4 ∧ 100 < ty then (match findF (fieldsOf (ty - 100)) f with
      | some f => (plainV f.ty, 0)
      | none => (plainV 0, 91)) else (plainV 0, 91) by
      unfold namedV
      rw [show (⟨k, n, t, s, f⟩ : Prt).s = s from rfl, hq]
      dsimp only
      cases findF (fieldsOf (ty - 100)) f <;> rfl)
    rw [hq] at HF
    clear hone hq
    by_cases h2 : k = 2
    · subst h2
      obtain ⟨At, ct, rfl, -, -, -⟩ := ht
      go_enter Tryz.func88, Tryz.ntmps88
      by_cases hty : len = 0 ∧ ty < 100
      · obtain ⟨rfl, hty⟩ := hty
        go_wp2_with (first
          | (go_at_call 130; refine (HF.out _ (by (repeat' (first | (with_reducible exact Below.refl _ _) | (with_reducible refine below_alloc ?_) | (with_reducible refine below_drew ?_) | (with_reducible refine below_drewN ?_) | (with_reducible refine below_set (by simp; omega) ?_) | (with_reducible refine below_call (by with_reducible assumption) ?_))))).mono ?_; rintro e w1 (⟨hb1⟩ | _); obtain ⟨hc1, hf1⟩ := bcell hb1; have hz1 := hb1.size; (try simp at hz1); (try have hw01 : w.heap.size < w1.heap.size := by omega); (try have hw11 : w.heap.size + 1 < w1.heap.size := by omega); (try have hw21 : w.heap.size + 1 + 1 < w1.heap.size := by omega))
          | (go_at_call 40; refine (plain_c _ _).mono ?_; rintro e w2 ⟨rfl, hb2⟩; obtain ⟨hc2, hf2⟩ := bcell hb2; have hz2 := hb2.size; (try simp at hz2); (try have hw02 : w.heap.size < w2.heap.size := by omega); (try have hw12 : w.heap.size + 1 < w2.heap.size := by omega); (try have hw22 : w.heap.size + 1 + 1 < w2.heap.size := by omega)))
        ((try simp only [Exit.inBlock, Exit.then]); refine bodyPost_ret (v := ?_) ?_ rfl ?_; rotate_left; (focus (rw [results_cell_tmp rfl]; go_simp; (first | rfl | exact ⟨rfl, rfl⟩))))
        exact ⟨by rw [HR.out, if_pos (by simp [hty])]; rfl, by (repeat' (first | (with_reducible exact Below.refl _ _) | (with_reducible refine below_alloc ?_) | (with_reducible refine below_drew ?_) | (with_reducible refine below_drewN ?_) | (with_reducible refine below_set (by first | (simp; done) | (simp; omega)) ?_) | (with_reducible refine below_call (by with_reducible assumption) ?_)))⟩
      · have HR2 := Lib.hid (show namedV vars ⟨2, n, t, s, f⟩ (top.getD 0 (plainV 0)) = (plainV 0, 91) by rw [HR.out, if_neg (fun h => hty h.2), if_neg (fun h => absurd h.1 (by decide)), if_neg (fun h => absurd h.1 (by decide))])
        by_cases hl : len = 0
        · subst hl
          have hty' : ¬ ty < 100 := fun h => hty ⟨rfl, h⟩
          clear hty
          go_wp2_with (first
            | (go_at_call 130; refine (HF.out _ (by (repeat' (first | (with_reducible exact Below.refl _ _) | (with_reducible refine below_alloc ?_) | (with_reducible refine below_drew ?_) | (with_reducible refine below_drewN ?_) | (with_reducible refine below_set (by simp; omega) ?_) | (with_reducible refine below_call (by with_reducible assumption) ?_))))).mono ?_; rintro e w1 (⟨hb1⟩ | _); obtain ⟨hc1, hf1⟩ := bcell hb1; have hz1 := hb1.size; (try simp at hz1); (try have hw01 : w.heap.size < w1.heap.size := by omega); (try have hw11 : w.heap.size + 1 < w1.heap.size := by omega); (try have hw21 : w.heap.size + 1 + 1 < w1.heap.size := by omega)))
          ((try simp only [Exit.inBlock, Exit.then]); refine bodyPost_ret (v := ?_) ?_ rfl ?_; rotate_left; (focus (rw [results_cell_tmp rfl]; go_simp; (first | rfl | exact ⟨rfl, rfl⟩))))
          exact ⟨by rw [HR2.out]; rfl, by (repeat' (first | (with_reducible exact Below.refl _ _) | (with_reducible refine below_alloc ?_) | (with_reducible refine below_drew ?_) | (with_reducible refine below_drewN ?_) | (with_reducible refine below_set (by first | (simp; done) | (simp; omega)) ?_) | (with_reducible refine below_call (by with_reducible assumption) ?_)))⟩
        · have hlb := ne_i hl
          clear hty
          go_wp2_with (first
            | (go_at_call 130; refine (HF.out _ (by (repeat' (first | (with_reducible exact Below.refl _ _) | (with_reducible refine below_alloc ?_) | (with_reducible refine below_drew ?_) | (with_reducible refine below_drewN ?_) | (with_reducible refine below_set (by simp; omega) ?_) | (with_reducible refine below_call (by with_reducible assumption) ?_))))).mono ?_; rintro e w1 (⟨hb1⟩ | _); obtain ⟨hc1, hf1⟩ := bcell hb1; have hz1 := hb1.size; (try simp at hz1); (try have hw01 : w.heap.size < w1.heap.size := by omega); (try have hw11 : w.heap.size + 1 < w1.heap.size := by omega); (try have hw21 : w.heap.size + 1 + 1 < w1.heap.size := by omega)))
          ((try simp only [Exit.inBlock, Exit.then]); refine bodyPost_ret (v := ?_) ?_ rfl ?_; rotate_left; (focus (rw [results_cell_tmp rfl]; go_simp; (first | rfl | exact ⟨rfl, rfl⟩))))
          exact ⟨by rw [HR2.out]; rfl, by (repeat' (first | (with_reducible exact Below.refl _ _) | (with_reducible refine below_alloc ?_) | (with_reducible refine below_drew ?_) | (with_reducible refine below_drewN ?_) | (with_reducible refine below_set (by first | (simp; done) | (simp; omega)) ?_) | (with_reducible refine below_call (by with_reducible assumption) ?_)))⟩
    have hb2 := ne_i h2
    by_cases h3 : k = 3
    · subst h3
      by_cases hl : 0 < len
      · have HR2 := Lib.hid (show namedV vars ⟨3, n, t, s, f⟩ (top.getD 0 (plainV 0)) = (plainV ty, countsV (top.getD 0 (plainV 0)) false) by rw [HR.out, if_neg (fun h => absurd h.1 (by decide)), if_pos (by simp [hl])])
        obtain ⟨a0, rest, rfl⟩ : ∃ a r, top = a :: r := by
          cases top with
          | nil => exact absurd rfl (hk3 rfl)
          | cons a r => exact ⟨a, r, rfl⟩
        simp only [List.getD_cons_zero] at HR2 ⊢
        have HC := Lib.hid (fun W => counts_c a0 false W)
        obtain ⟨ce, hce⟩ : ∃ q, countsV a0 false = q := ⟨_, rfl⟩
        rw [hce] at HC HR2
        obtain ⟨At, ct, rfl, htl, htm, htc⟩ := ht
        obtain ⟨bt, ot, rfl, hbt, hcx⟩ := htc 0 a0 rfl
        have a1 : w.cell? ⟨bt, ot, none⟩ = some (.int .i64 a0.t) := by simpa using hcx 0 _ rfl
        have a2 : w.cell? ⟨bt, ot + 1, none⟩ = some (.int .i64 a0.lo) := by simpa using hcx 1 _ rfl
        have a3 : w.cell? ⟨bt, ot + 2, none⟩ = some (.int .i64 a0.hi) := by simpa using hcx 2 _ rfl
        have hlen : (0 : Int) < ((a0 :: rest).length : Int) := by simp
        obtain ⟨L, hL⟩ : ∃ L, (a0 :: rest).length = L := ⟨_, rfl⟩
        rw [hL] at hlen ⊢
        have hLN : 0 < L := by omega
        unfold vaV at HC
        clear hce hL htl htc hcx hk3
        go_enter Tryz.func88, Tryz.ntmps88
        go_upto_region 7 with (go_at_call 130; refine (HF.out _ (by (repeat' (first | (with_reducible exact Below.refl _ _) | (with_reducible refine below_alloc ?_) | (with_reducible refine below_drew ?_) | (with_reducible refine below_drewN ?_) | (with_reducible refine below_set (by simp; omega) ?_) | (with_reducible refine below_call (by with_reducible assumption) ?_))))).mono ?_; rintro e w1 (⟨hb1⟩ | _); obtain ⟨hc1, hf1⟩ := bcell hb1; have hz1 := hb1.size; (try simp at hz1); (try have hw01 : w.heap.size < w1.heap.size := by omega); (try have hw11 : w.heap.size + 1 < w1.heap.size := by omega); (try have hw21 : w.heap.size + 1 + 1 < w1.heap.size := by omega))
        have HS : ∀ (W : World), Below w.heap.size w W → W.cell? ⟨bt, ot, none⟩ = some (.int .i64 a0.t) ∧ W.cell? ⟨bt, ot + 1, none⟩ = some (.int .i64 a0.lo) ∧ W.cell? ⟨bt, ot + 2, none⟩ = some (.int .i64 a0.hi) := fun W hbw => ⟨(hbw.cell (p := ⟨bt, ot, none⟩) hbt).trans a1, (hbw.cell (p := ⟨bt, ot + 1, none⟩) hbt).trans a2, (hbw.cell (p := ⟨bt, ot + 2, none⟩) hbt).trans a3⟩
        have HK := Lib.hid (show ∀ (W : World), Below (w1.alloc (.cells #[.string nm, .int .i64 ty, .int .i64 len, .int .i64 init, .int .i64 dir] 59)).heap.size (w1.alloc (.cells #[.string nm, .int .i64 ty, .int .i64 len, .int .i64 init, .int .i64 dir] 59)) W → (W.cell? ⟨w1.heap.size, 1, none⟩ = some (.int .i64 ty) ∧ W.cell? ⟨bt, ot, none⟩ = some (.int .i64 a0.t) ∧ W.cell? ⟨bt, ot + 1, none⟩ = some (.int .i64 a0.lo) ∧ W.cell? ⟨bt, ot + 2, none⟩ = some (.int .i64 a0.hi)) from fun W hW =>
          ⟨(hW.cell (p := ⟨w1.heap.size, 1, none⟩) (by simp)).trans (by rw [World.cell?_alloc_at _ _ _ _ rfl]; rfl), HS W (by (repeat' (first | (with_reducible exact Below.refl _ _) | (with_reducible refine below_alloc ?_) | (with_reducible refine below_drew ?_) | (with_reducible refine below_drewN ?_) | (with_reducible refine below_set (by first | (simp; done) | (simp; omega)) ?_) | (with_reducible refine below_call (by with_reducible assumption) ?_))))⟩)
        have HS3 := Lib.hid (show ∀ (W : World) (u0 u1 u2 : Value), (W.cell? ⟨w1.heap.size, 1, none⟩ = some (.int .i64 ty) ∧ W.cell? ⟨bt, ot, none⟩ = some (.int .i64 a0.t) ∧ W.cell? ⟨bt, ot + 1, none⟩ = some (.int .i64 a0.lo) ∧ W.cell? ⟨bt, ot + 2, none⟩ = some (.int .i64 a0.hi)) → ((((W.setCell ⟨w.heap.size + 1, 0, none⟩ u0).setCell ⟨w.heap.size + 1, 1, none⟩ u1).setCell ⟨w.heap.size + 1, 2, none⟩ u2).cell? ⟨w1.heap.size, 1, none⟩ = some (.int .i64 ty) ∧ (((W.setCell ⟨w.heap.size + 1, 0, none⟩ u0).setCell ⟨w.heap.size + 1, 1, none⟩ u1).setCell ⟨w.heap.size + 1, 2, none⟩ u2).cell? ⟨bt, ot, none⟩ = some (.int .i64 a0.t) ∧ (((W.setCell ⟨w.heap.size + 1, 0, none⟩ u0).setCell ⟨w.heap.size + 1, 1, none⟩ u1).setCell ⟨w.heap.size + 1, 2, none⟩ u2).cell? ⟨bt, ot + 1, none⟩ = some (.int .i64 a0.lo) ∧ (((W.setCell ⟨w.heap.size + 1, 0, none⟩ u0).setCell ⟨w.heap.size + 1, 1, none⟩ u1).setCell ⟨w.heap.size + 1, 2, none⟩ u2).cell? ⟨bt, ot + 2, none⟩ = some (.int .i64 a0.hi)) from fun W u0 u1 u2 hS => by
          have hq : ∀ b o, b ≠ w.heap.size + 1 → (((W.setCell ⟨w.heap.size + 1, 0, none⟩ u0).setCell ⟨w.heap.size + 1, 1, none⟩ u1).setCell ⟨w.heap.size + 1, 2, none⟩ u2).cell? ⟨b, o, none⟩ = W.cell? ⟨b, o, none⟩ := fun b o hb => World.cell?_of_block (((Below.heap_setCell _ _ _ _ hb).trans (Below.heap_setCell _ _ _ _ hb)).trans (Below.heap_setCell _ _ _ _ hb))
          rw [hq _ _ (by omega), hq _ _ (by omega), hq _ _ (by omega), hq _ _ (by omega)]
          exact hS)
        clear HS
        go_region_held3 (fun W => W.cell? ⟨w1.heap.size, 1, none⟩ = some (.int .i64 ty) ∧ W.cell? ⟨bt, ot, none⟩ = some (.int .i64 a0.t) ∧ W.cell? ⟨bt, ot + 1, none⟩ = some (.int .i64 a0.lo) ∧ W.cell? ⟨bt, ot + 2, none⟩ = some (.int .i64 a0.hi)) (first | (refine HS3.out _ _ _ _ ?_; assumption) | exact HK.out _ (by (repeat' (first | (with_reducible exact Below.refl _ _) | (with_reducible refine below_alloc ?_) | (with_reducible refine below_drew ?_) | (with_reducible refine below_drewN ?_) | (with_reducible refine below_set (by first | (simp; done) | (simp; omega)) ?_) | (with_reducible refine below_call (by with_reducible assumption) ?_))))) (first | (go_at_call 40; refine (plain_c _ _).mono ?_; rintro e w2 ⟨rfl, hb2⟩; obtain ⟨hc2, hf2⟩ := bcell hb2; have hz2 := hb2.size; (try simp at hz2); (try have hw02 : w.heap.size < w2.heap.size := by omega); (try have hw12 : w.heap.size + 1 < w2.heap.size := by omega); (try have hw22 : w.heap.size + 1 + 1 < w2.heap.size := by omega)) | (go_at_call 85; refine (HC.out _).mono ?_; rintro e w3 ⟨rfl, hb3⟩; obtain ⟨hc3, hf3⟩ := bcell hb3; have hz3 := hb3.size; (try simp at hz3); (try have hw03 : w.heap.size < w3.heap.size := by omega); (try have hw13 : w.heap.size + 1 < w3.heap.size := by omega); (try have hw23 : w.heap.size + 1 + 1 < w3.heap.size := by omega)))
        all_goals go_wp2
        all_goals ((try simp only [Exit.inBlock, Exit.then]); refine bodyPost_ret (v := ?_) ?_ rfl ?_; rotate_left; (focus (rw [results_cell_tmp rfl]; go_simp; (first | rfl | exact ⟨rfl, rfl⟩))))
        all_goals exact ⟨by rw [HR2.out]; rfl, by (repeat' (first | (with_reducible exact Below.refl _ _) | (with_reducible refine below_alloc ?_) | (with_reducible refine below_drew ?_) | (with_reducible refine below_drewN ?_) | (with_reducible refine below_set (by first | (simp; done) | (simp; omega)) ?_) | (with_reducible refine below_call (by with_reducible assumption) ?_)))⟩
      · have HR2 := Lib.hid (show namedV vars ⟨3, n, t, s, f⟩ (top.getD 0 (plainV 0)) = (plainV 0, 91) by rw [HR.out, if_neg (fun h => absurd h.1 (by decide)), if_neg (fun h => hl h.2), if_neg (fun h => absurd h.1 (by decide))])
        obtain ⟨At, ct, rfl, -, -, -⟩ := ht
        go_enter Tryz.func88, Tryz.ntmps88
        go_wp2_with (go_at_call 130; refine (HF.out _ (by (repeat' (first | (with_reducible exact Below.refl _ _) | (with_reducible refine below_alloc ?_) | (with_reducible refine below_drew ?_) | (with_reducible refine below_drewN ?_) | (with_reducible refine below_set (by simp; omega) ?_) | (with_reducible refine below_call (by with_reducible assumption) ?_))))).mono ?_; rintro e w1 (⟨hb1⟩ | _); obtain ⟨hc1, hf1⟩ := bcell hb1; have hz1 := hb1.size; (try simp at hz1); (try have hw01 : w.heap.size < w1.heap.size := by omega); (try have hw11 : w.heap.size + 1 < w1.heap.size := by omega); (try have hw21 : w.heap.size + 1 + 1 < w1.heap.size := by omega))
        ((try simp only [Exit.inBlock, Exit.then]); refine bodyPost_ret (v := ?_) ?_ rfl ?_; rotate_left; (focus (rw [results_cell_tmp rfl]; go_simp; (first | rfl | exact ⟨rfl, rfl⟩))))
        exact ⟨by rw [HR2.out]; rfl, by (repeat' (first | (with_reducible exact Below.refl _ _) | (with_reducible refine below_alloc ?_) | (with_reducible refine below_drew ?_) | (with_reducible refine below_drewN ?_) | (with_reducible refine below_set (by first | (simp; done) | (simp; omega)) ?_) | (with_reducible refine below_call (by with_reducible assumption) ?_)))⟩
    have hb3 := ne_i h3
    by_cases h4 : k = 4
    · subst h4
      by_cases hty : 100 < ty
      · have HFD := Lib.hid (fun W => fields_c (ty - 100) W)
        obtain ⟨At, ct, rfl, -, -, -⟩ := ht
        go_enter Tryz.func88, Tryz.ntmps88
        go_wp2_with (first
          | (go_at_call 130; refine (HF.out _ (by (repeat' (first | (with_reducible exact Below.refl _ _) | (with_reducible refine below_alloc ?_) | (with_reducible refine below_drew ?_) | (with_reducible refine below_drewN ?_) | (with_reducible refine below_set (by simp; omega) ?_) | (with_reducible refine below_call (by with_reducible assumption) ?_))))).mono ?_; rintro e w1 (⟨hb1⟩ | _); obtain ⟨hc1, hf1⟩ := bcell hb1; have hz1 := hb1.size; (try simp at hz1); (try have hw01 : w.heap.size < w1.heap.size := by omega); (try have hw11 : w.heap.size + 1 < w1.heap.size := by omega); (try have hw21 : w.heap.size + 1 + 1 < w1.heap.size := by omega))
          | (go_at_call 131; refine (HFD.out _).mono ?_; rintro e w2 ⟨vf, rfl, hSl, hb2⟩; have HSL := Lib.hid hSl; obtain ⟨Af, cf, rfl, -, -, -⟩ := hSl; obtain ⟨hc2, hf2⟩ := bcell hb2; have hz2 := hb2.size; (try simp at hz2); (try have hw02 : w.heap.size < w2.heap.size := by omega); (try have hw12 : w.heap.size + 1 < w2.heap.size := by omega); (try have hw22 : w.heap.size + 1 + 1 < w2.heap.size := by omega)))
        have hP : PredC Tryz.prog 133 #[.pointer (some ⟨w.heap.size, 0, none⟩)] (fun x => fldV x) (fun x => x.name.toList == f.toList) (fieldsOf (ty - 100)) w2 := fun W x _ hW => by
          refine namedP_c x f w.heap.size W ?_
          rw [hW.cell (p := ⟨w.heap.size, 4, none⟩) hw02, hc2 _ _ (by simp; omega), World.cell?_alloc_lt _ _ _ (by simp; omega), hc1 _ _ (by simp; omega), World.cell?_alloc_lt _ _ _ (by simp), World.cell?_alloc_at _ _ _ _ rfl]
          rfl
        have hI := indexFunc_fld _ _ _ (enters_of Tryz.func133 (by kernel_rfl) rfl) _ _ _ hP HSL.out
        have hfi := findF_idx f (fieldsOf (ty - 100)) 0 (by omega)
        obtain ⟨_, _, hve, hflc, hfcm, hfcx⟩ := HSL.out
        injection hve with e1 e2 e3
        subst e1 e3
        clear hP e2
        have HFX := Lib.hid hfcx
        clear hfcx
        obtain ⟨q, hqq⟩ : ∃ q, idxP (fun x : Fld => x.name.toList == f.toList) (fieldsOf (ty - 100)) 0 = q := ⟨_, rfl⟩
        rw [hqq] at hI hfi
        clear hqq
        cases hff : findF (fieldsOf (ty - 100)) f with
        | none =>
          rw [hff] at hfi
          have HR2 := Lib.hid (show namedV vars ⟨4, n, t, s, f⟩ (top.getD 0 (plainV 0)) = (plainV 0, 91) by rw [HR.out, if_neg (fun h => absurd h.1 (by decide)), if_neg (fun h => absurd h.1 (by decide)), if_pos (by simp [hty]), hff])
          subst hfi
          clear hff HFX HSL HR HF HFD
          go_wp2_with (go_at_call 132; refine hI.mono ?_; rintro e w3 ⟨rfl, hb3⟩; obtain ⟨hc3, hf3⟩ := bcell hb3; have hz3 := hb3.size; (try simp at hz3); (try have hw03 : w.heap.size < w3.heap.size := by omega); (try have hw13 : w.heap.size + 1 < w3.heap.size := by omega); (try have hw23 : w.heap.size + 1 + 1 < w3.heap.size := by omega))
          ((try simp only [Exit.inBlock, Exit.then]); refine bodyPost_ret (v := ?_) ?_ rfl ?_; rotate_left; (focus (rw [results_cell_tmp rfl]; go_simp; (first | rfl | exact ⟨rfl, rfl⟩))))
          exact ⟨by rw [HR2.out]; rfl, by (repeat' (first | (with_reducible exact Below.refl _ _) | (with_reducible refine below_alloc ?_) | (with_reducible refine below_drew ?_) | (with_reducible refine below_drewN ?_) | (with_reducible refine below_set (by first | (simp; done) | (simp; omega)) ?_) | (with_reducible refine below_call (by with_reducible assumption) ?_)))⟩
        | some y =>
          rw [hff] at hfi
          obtain ⟨j, hqj, hj⟩ := hfi
          have hqj' : q = (j : Int) := by omega
          subst hqj'
          have HR2 := Lib.hid (show namedV vars ⟨4, n, t, s, f⟩ (top.getD 0 (plainV 0)) = (plainV y.ty, 0) by rw [HR.out, if_neg (fun h => absurd h.1 (by decide)), if_neg (fun h => absurd h.1 (by decide)), if_pos (by simp [hty]), hff])
          obtain ⟨b, off, rfl, hb, hcx⟩ := HFX.out j y hj
          have e1 : w2.cell? ⟨b, off + j * 3 + 1, none⟩ = some (.int .i64 y.ty) := by simpa using hcx 1 _ rfl
          have hjl : j < (fieldsOf (ty - 100)).length := (List.getElem?_eq_some_iff.1 hj).1
          obtain ⟨L, hL⟩ : ∃ L, (fieldsOf (ty - 100)).length = L := ⟨_, rfl⟩
          rw [hL] at hjl hI ⊢
          clear hff hcx hj HFX HSL HR HF HFD hqj
          go_wp2_with (first
            | (go_at_call 132; refine hI.mono ?_; rintro e w3 ⟨rfl, hb3⟩; have e13 : w3.cell? ⟨b, off + j * 3 + 1, none⟩ = some (.int .i64 y.ty) := (hb3.cell (p := ⟨b, off + j * 3 + 1, none⟩) hb).trans e1; obtain ⟨hc3, hf3⟩ := bcell hb3; have hz3 := hb3.size; (try simp at hz3); (try have hw03 : w.heap.size < w3.heap.size := by omega); (try have hw13 : w.heap.size + 1 < w3.heap.size := by omega); (try have hw23 : w.heap.size + 1 + 1 < w3.heap.size := by omega))
            | (go_at_call 40; refine (plain_c _ _).mono ?_; rintro e w4 ⟨rfl, hb4⟩; obtain ⟨hc4, hf4⟩ := bcell hb4; have hz4 := hb4.size; (try simp at hz4); (try have hw04 : w.heap.size < w4.heap.size := by omega); (try have hw14 : w.heap.size + 1 < w4.heap.size := by omega); (try have hw24 : w.heap.size + 1 + 1 < w4.heap.size := by omega)))
          ((try simp only [Exit.inBlock, Exit.then]); refine bodyPost_ret (v := ?_) ?_ rfl ?_; rotate_left; (focus (rw [results_cell_tmp rfl]; go_simp; (first | rfl | exact ⟨rfl, rfl⟩))))
          exact ⟨by rw [HR2.out]; rfl, by (repeat' (first | (with_reducible exact Below.refl _ _) | (with_reducible refine below_alloc ?_) | (with_reducible refine below_drew ?_) | (with_reducible refine below_drewN ?_) | (with_reducible refine below_set (by first | (simp; done) | (simp; omega)) ?_) | (with_reducible refine below_call (by with_reducible assumption) ?_)))⟩
      · have HR2 := Lib.hid (show namedV vars ⟨4, n, t, s, f⟩ (top.getD 0 (plainV 0)) = (plainV 0, 91) by rw [HR.out, if_neg (fun h => absurd h.1 (by decide)), if_neg (fun h => absurd h.1 (by decide)), if_neg (fun h => hty h.2)])
        obtain ⟨At, ct, rfl, -, -, -⟩ := ht
        go_enter Tryz.func88, Tryz.ntmps88
        go_wp2_with (go_at_call 130; refine (HF.out _ (by (repeat' (first | (with_reducible exact Below.refl _ _) | (with_reducible refine below_alloc ?_) | (with_reducible refine below_drew ?_) | (with_reducible refine below_drewN ?_) | (with_reducible refine below_set (by simp; omega) ?_) | (with_reducible refine below_call (by with_reducible assumption) ?_))))).mono ?_; rintro e w1 (⟨hb1⟩ | _); obtain ⟨hc1, hf1⟩ := bcell hb1; have hz1 := hb1.size; (try simp at hz1); (try have hw01 : w.heap.size < w1.heap.size := by omega); (try have hw11 : w.heap.size + 1 < w1.heap.size := by omega); (try have hw21 : w.heap.size + 1 + 1 < w1.heap.size := by omega))
        ((try simp only [Exit.inBlock, Exit.then]); refine bodyPost_ret (v := ?_) ?_ rfl ?_; rotate_left; (focus (rw [results_cell_tmp rfl]; go_simp; (first | rfl | exact ⟨rfl, rfl⟩))))
        exact ⟨by rw [HR2.out]; rfl, by (repeat' (first | (with_reducible exact Below.refl _ _) | (with_reducible refine below_alloc ?_) | (with_reducible refine below_drew ?_) | (with_reducible refine below_drewN ?_) | (with_reducible refine below_set (by first | (simp; done) | (simp; omega)) ?_) | (with_reducible refine below_call (by with_reducible assumption) ?_)))⟩
    · have hb4 := ne_i h4
      have HR2 := Lib.hid (show namedV vars ⟨k, n, t, s, f⟩ (top.getD 0 (plainV 0)) = (plainV 0, 91) by rw [HR.out, if_neg (fun h => h2 h.1), if_neg (fun h => h3 h.1), if_neg (fun h => h4 h.1)])
      obtain ⟨At, ct, rfl, -, -, -⟩ := ht
      go_enter Tryz.func88, Tryz.ntmps88
      go_wp2_with (go_at_call 130; refine (HF.out _ (by (repeat' (first | (with_reducible exact Below.refl _ _) | (with_reducible refine below_alloc ?_) | (with_reducible refine below_drew ?_) | (with_reducible refine below_drewN ?_) | (with_reducible refine below_set (by simp; omega) ?_) | (with_reducible refine below_call (by with_reducible assumption) ?_))))).mono ?_; rintro e w1 (⟨hb1⟩ | _); obtain ⟨hc1, hf1⟩ := bcell hb1; have hz1 := hb1.size; (try simp at hz1); (try have hw01 : w.heap.size < w1.heap.size := by omega); (try have hw11 : w.heap.size + 1 < w1.heap.size := by omega); (try have hw21 : w.heap.size + 1 + 1 < w1.heap.size := by omega))
      ((try simp only [Exit.inBlock, Exit.then]); refine bodyPost_ret (v := ?_) ?_ rfl ?_; rotate_left; (focus (rw [results_cell_tmp rfl]; go_simp; (first | rfl | exact ⟨rfl, rfl⟩))))
      exact ⟨by rw [HR2.out]; rfl, by (repeat' (first | (with_reducible exact Below.refl _ _) | (with_reducible refine below_alloc ?_) | (with_reducible refine below_drew ?_) | (with_reducible refine below_drewN ?_) | (with_reducible refine below_set (by first | (simp; done) | (simp; omega)) ?_) | (with_reducible refine below_call (by with_reducible assumption) ?_)))⟩
end Go.Proofs.YtenjkplijblcoaaGreatDoor
