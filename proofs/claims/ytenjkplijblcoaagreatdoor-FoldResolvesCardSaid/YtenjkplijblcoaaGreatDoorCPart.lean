/- typed.takes, typed.part. -/
import Derived.Test.YtenjkplijblcoaaGreatDoorCFNamed
import Derived.Test.YtenjkplijblcoaaGreatDoorCFTwoB
import Derived.Deep.RegionHeld3
import Derived.StillTailTactics
set_option linter.unusedSimpArgs false
set_option linter.unusedVariables false
namespace Go.Proofs.YtenjkplijblcoaaGreatDoor
open Go.RowKit Cap
set_option maxRecDepth 100000

theorem takesT_c (p : Prt) (w : World) : Calls Tryz.prog 60 #[prtV p] w fun e w' => e = .returned (.int .i64 (takesT p)) ∧ Below w.heap.size w w' := by
  obtain ⟨k, n, t, s, f⟩ := p
  unfold prtV takesT
  simp only
  go_enter Tryz.func60, Tryz.ntmps60
  by_cases h3 : k = 3
  · subst h3
    go_wp2
    go_ret
    exact ⟨by simp, by (repeat' (first | (with_reducible exact Below.refl _ _) | (with_reducible refine below_alloc ?_) | (with_reducible refine below_drew ?_) | (with_reducible refine below_drewN ?_) | (with_reducible refine below_set (by simp; omega) ?_) | (with_reducible refine below_call (by with_reducible assumption) ?_)))⟩
  by_cases h6 : k = 6
  · subst h6
    go_wp2
    go_ret
    exact ⟨by simp, by (repeat' (first | (with_reducible exact Below.refl _ _) | (with_reducible refine below_alloc ?_) | (with_reducible refine below_drew ?_) | (with_reducible refine below_drewN ?_) | (with_reducible refine below_set (by simp; omega) ?_) | (with_reducible refine below_call (by with_reducible assumption) ?_)))⟩
  by_cases h5 : k = 5
  · subst h5
    by_cases h15 : 15 ≤ n
    · go_wp2
      go_ret
      exact ⟨by simp [h15], by (repeat' (first | (with_reducible exact Below.refl _ _) | (with_reducible refine below_alloc ?_) | (with_reducible refine below_drew ?_) | (with_reducible refine below_drewN ?_) | (with_reducible refine below_set (by simp; omega) ?_) | (with_reducible refine below_call (by with_reducible assumption) ?_)))⟩
    · go_wp2
      go_ret
      exact ⟨by simp [h15], by (repeat' (first | (with_reducible exact Below.refl _ _) | (with_reducible refine below_alloc ?_) | (with_reducible refine below_drew ?_) | (with_reducible refine below_drewN ?_) | (with_reducible refine below_set (by simp; omega) ?_) | (with_reducible refine below_call (by with_reducible assumption) ?_)))⟩
  · have b3 : (k == 3) = false := by simpa using h3
    have b6 : (k == 6) = false := by simpa using h6
    have b5 : (k == 5) = false := by simpa using h5
    go_wp2
    go_ret
    exact ⟨by simp [h3, h6, h5], by (repeat' (first | (with_reducible exact Below.refl _ _) | (with_reducible refine below_alloc ?_) | (with_reducible refine below_drew ?_) | (with_reducible refine below_drewN ?_) | (with_reducible refine below_set (by simp; omega) ?_) | (with_reducible refine below_call (by with_reducible assumption) ?_)))⟩
theorem partV_1 (vars : List Vr) (p : Prt) (top : List Va) (h1 : p.k = 1) : partV vars p top = if p.t = 0 then (⟨0, p.n, p.n⟩, 0) else (plainV p.t, 0) := by
  unfold partV
  by_cases h : p.t = 0
  · rw [if_pos ⟨h1, h⟩, if_pos h]
  · rw [if_neg (fun h' => h h'.2), if_pos h1, if_neg h]
theorem partV_6 (vars : List Vr) (p : Prt) (top : List Va) (h6 : p.k = 6) : partV vars p top = (plainV p.t, countsV (top.getD 0 (plainV 0)) true) := by
  unfold partV
  rw [if_neg (fun h' => by omega), if_neg (by omega), if_pos h6]
theorem partV_51 (vars : List Vr) (p : Prt) (top : List Va) (h5 : p.k = 5) (hl : top.length = 1) : partV vars p top = oneV p.n (top.getD 0 (plainV 0)) := by
  unfold partV
  rw [if_neg (fun h' => by omega), if_neg (by omega), if_neg (by omega), if_pos ⟨h5, hl⟩]
theorem partV_52 (vars : List Vr) (p : Prt) (top : List Va) (h5 : p.k = 5) (hl : ¬ top.length = 1) : partV vars p top = twoV p.n (top.getD 0 (plainV 0)) (top.getD 1 (plainV 0)) := by
  unfold partV
  rw [if_neg (fun h' => by omega), if_neg (by omega), if_neg (by omega), if_neg (fun h' => hl h'.2), if_pos h5]
theorem partV_n (vars : List Vr) (p : Prt) (top : List Va) (h1 : ¬ p.k = 1) (h6 : ¬ p.k = 6) (h5 : ¬ p.k = 5) : partV vars p top = namedV vars p (top.getD 0 (plainV 0)) := by
  unfold partV
  rw [if_neg (fun h' => h1 h'.1), if_neg h1, if_neg h6, if_neg (fun h' => h5 h'.1), if_neg h5]
/-- What part hands back. -/
def PartR (w : World) (q : Va × Int) (e : Ending) (w' : World) : Prop := e = .returned (.tuple #[vaV q.1, .int .i64 q.2]) ∧ Below w.heap.size w w'
set_option maxHeartbeats 1000000 in
theorem part_1 (vars : List Vr) (n t : Int) (s f : ByteArray) (top : List Va) (vv vt : Value) (w : World) :
    Calls Tryz.prog 61 #[vv, prtV ⟨1, n, t, s, f⟩, vt] w (PartR w (partV vars ⟨1, n, t, s, f⟩ top)) := by
  have HR := Lib.hid (partV_1 vars ⟨1, n, t, s, f⟩ top rfl)
  rw [HR.out]
  unfold prtV PartR
  simp only
  clear HR
  by_cases ht0 : t = 0
  · subst ht0
    go_enter Tryz.func61, Tryz.ntmps61
    go_wp2
    ((try simp only [Exit.inBlock, Exit.then]); refine bodyPost_ret (v := ?_) ?_ rfl ?_; rotate_left; (focus (rw [results_cell_tmp rfl]; go_simp; (first | rfl | exact ⟨rfl, rfl⟩))))
    exact ⟨rfl, by (repeat' (first | (with_reducible exact Below.refl _ _) | (with_reducible refine below_alloc ?_) | (with_reducible refine below_drew ?_) | (with_reducible refine below_drewN ?_) | (with_reducible refine below_set (by first | (simp; done) | (simp; omega)) ?_) | (with_reducible refine below_call (by with_reducible assumption) ?_)))⟩
  · have hb0 := ne_i ht0
    go_enter Tryz.func61, Tryz.ntmps61
    go_wp2_with (go_at_call 40; refine (plain_c _ _).mono ?_; rintro e w2 ⟨rfl, hb2⟩; obtain ⟨hc2, hf2⟩ := bcell hb2; have hz2 := hb2.size; (try simp at hz2); (try have hw02 : w.heap.size < w2.heap.size := by omega); (try have hw12 : w.heap.size + 1 < w2.heap.size := by omega); (try have hw22 : w.heap.size + 1 + 1 < w2.heap.size := by omega))
    ((try simp only [Exit.inBlock, Exit.then]); refine bodyPost_ret (v := ?_) ?_ rfl ?_; rotate_left; (focus (rw [results_cell_tmp rfl]; go_simp; (first | rfl | exact ⟨rfl, rfl⟩))))
    exact ⟨by first | rfl | (rw [if_neg ht0]; rfl), by (repeat' (first | (with_reducible exact Below.refl _ _) | (with_reducible refine below_alloc ?_) | (with_reducible refine below_drew ?_) | (with_reducible refine below_drewN ?_) | (with_reducible refine below_set (by first | (simp; done) | (simp; omega)) ?_) | (with_reducible refine below_call (by with_reducible assumption) ?_)))⟩
set_option maxHeartbeats 1000000 in
theorem part_n (vars : List Vr) (k n t : Int) (s f : ByteArray) (top : List Va) (vv vt : Value) (w : World) (hs : Sl encVr 5 w vv vars) (hp : ∀ x ∈ vars, OneV x) (h64 : vars.length ≤ 64) (ht : Sl encVa 3 w vt top) (hk3 : k = 3 → top ≠ []) (h1 : ¬ k = 1) (h6 : ¬ k = 6) (h5 : ¬ k = 5) :
    Calls Tryz.prog 61 #[vv, prtV ⟨k, n, t, s, f⟩, vt] w (PartR w (partV vars ⟨k, n, t, s, f⟩ top)) := by
  have HN := Lib.hid (fun W (hW : Below w.heap.size w W) => named_c vars ⟨k, n, t, s, f⟩ top vv vt W (hs.below hW) hp h64 (ht.below hW) hk3)
  rw [partV_n vars ⟨k, n, t, s, f⟩ top h1 h6 h5]
  obtain ⟨⟨⟨rt, rlo, rhi⟩, re⟩, hre⟩ : ∃ q, namedV vars ⟨k, n, t, s, f⟩ (top.getD 0 (plainV 0)) = q := ⟨_, rfl⟩
  rw [hre] at HN ⊢
  obtain ⟨Av, cv, rfl, -, -, -⟩ := hs
  obtain ⟨At, ct, rfl, -, -, -⟩ := ht
  have hb1 := ne_i h1
  have hb6 := ne_i h6
  have hb5 := ne_i h5
  clear hre hp hk3 h1 h6 h5
  unfold prtV vaV at HN
  unfold prtV PartR vaV
  simp only at HN ⊢
  go_enter Tryz.func61, Tryz.ntmps61
  go_wp2_with (go_at_call 88; refine (HN.out _ (by (repeat' (first | (with_reducible exact Below.refl _ _) | (with_reducible refine below_alloc ?_) | (with_reducible refine below_drew ?_) | (with_reducible refine below_drewN ?_) | (with_reducible refine below_set (by simp; omega) ?_) | (with_reducible refine below_call (by with_reducible assumption) ?_))))).mono ?_; rintro e w2 ⟨rfl, hb2⟩; obtain ⟨hc2, hf2⟩ := bcell hb2; have hz2 := hb2.size; (try simp at hz2); (try have hw02 : w.heap.size < w2.heap.size := by omega); (try have hw12 : w.heap.size + 1 < w2.heap.size := by omega); (try have hw22 : w.heap.size + 1 + 1 < w2.heap.size := by omega))
  ((try simp only [Exit.inBlock, Exit.then]); refine bodyPost_ret (v := ?_) ?_ rfl ?_; rotate_left; (focus (rw [results_cell_tmp rfl]; go_simp; (first | rfl | exact ⟨rfl, rfl⟩))))
  exact ⟨rfl, by (repeat' (first | (with_reducible exact Below.refl _ _) | (with_reducible refine below_alloc ?_) | (with_reducible refine below_drew ?_) | (with_reducible refine below_drewN ?_) | (with_reducible refine below_set (by first | (simp; done) | (simp; omega)) ?_) | (with_reducible refine below_call (by with_reducible assumption) ?_)))⟩
end Go.Proofs.YtenjkplijblcoaaGreatDoor

/- typed.part, of a conversion. -/
namespace Go.Proofs.YtenjkplijblcoaaGreatDoor
open Go.RowKit Cap
set_option maxRecDepth 100000

set_option maxHeartbeats 2000000 in
theorem part_6 (vars : List Vr) (n t : Int) (s f : ByteArray) (a : Va) (rest : List Va) (vv vt : Value) (w : World) (ht : Sl encVa 3 w vt (a :: rest)) :
    Calls Tryz.prog 61 #[vv, prtV ⟨6, n, t, s, f⟩, vt] w (PartR w (partV vars ⟨6, n, t, s, f⟩ (a :: rest))) := by
  rw [partV_6 vars ⟨6, n, t, s, f⟩ (a :: rest) rfl]
  have HC := Lib.hid (fun W => counts_c a true W)
  obtain ⟨At, ct, rfl, htl, htm, htc⟩ := ht
  obtain ⟨b, off, rfl, hb, hcx⟩ := htc 0 a rfl
  have a0 : w.cell? ⟨b, off, none⟩ = some (.int .i64 a.t) := by simpa using hcx 0 _ rfl
  have a1 : w.cell? ⟨b, off + 1, none⟩ = some (.int .i64 a.lo) := by simpa using hcx 1 _ rfl
  have a2 : w.cell? ⟨b, off + 2, none⟩ = some (.int .i64 a.hi) := by simpa using hcx 2 _ rfl
  have hlen : (0 : Int) < ((a :: rest).length : Int) := by simp
  obtain ⟨L, hL⟩ : ∃ L, (a :: rest).length = L := ⟨_, rfl⟩
  simp only [List.getD_cons_zero]
  obtain ⟨ce, hce⟩ : ∃ q, countsV a true = q := ⟨_, rfl⟩
  rw [hce] at HC
  rw [hce]
  rw [hL] at hlen ⊢
  have hLN : 0 < L := by omega
  clear hce hL htl htc hcx
  unfold prtV PartR vaV
  unfold vaV at HC
  simp only at HC ⊢
  go_enter Tryz.func61, Tryz.ntmps61
  go_upto_region 6 with fail
  have HK := Lib.hid (show ∀ W, Below (w.alloc (.cells #[.int .i64 6, .int .i64 n, .int .i64 t, .string s, .string f] 38)).heap.size (w.alloc (.cells #[.int .i64 6, .int .i64 n, .int .i64 t, .string s, .string f] 38)) W → (W.cell? ⟨w.heap.size, 2, none⟩ = some (.int .i64 t) ∧ W.cell? ⟨b, off, none⟩ = some (.int .i64 a.t) ∧ W.cell? ⟨b, off + 1, none⟩ = some (.int .i64 a.lo) ∧ W.cell? ⟨b, off + 2, none⟩ = some (.int .i64 a.hi)) from fun W hW =>
    ⟨(hW.cell (p := ⟨w.heap.size, 2, none⟩) (by simp)).trans (by rw [World.cell?_alloc_at _ _ _ _ rfl]; rfl),
     (hW.cell (p := ⟨b, off, none⟩) (by simp; omega)).trans (((below_alloc (Below.refl _ w)).cell (p := ⟨b, off, none⟩) hb).trans a0),
     (hW.cell (p := ⟨b, off + 1, none⟩) (by simp; omega)).trans (((below_alloc (Below.refl _ w)).cell (p := ⟨b, off + 1, none⟩) hb).trans a1),
     (hW.cell (p := ⟨b, off + 2, none⟩) (by simp; omega)).trans (((below_alloc (Below.refl _ w)).cell (p := ⟨b, off + 2, none⟩) hb).trans a2)⟩)
  go_region_held3 (fun W => W.cell? ⟨w.heap.size, 2, none⟩ = some (.int .i64 t) ∧ W.cell? ⟨b, off, none⟩ = some (.int .i64 a.t) ∧ W.cell? ⟨b, off + 1, none⟩ = some (.int .i64 a.lo) ∧ W.cell? ⟨b, off + 2, none⟩ = some (.int .i64 a.hi)) (first | exact HK.out _ (by (repeat' (first | (with_reducible exact Below.refl _ _) | (with_reducible refine below_alloc ?_) | (with_reducible refine below_drew ?_) | (with_reducible refine below_drewN ?_) | (with_reducible refine below_set (by first | (simp; done) | (simp; omega)) ?_) | (with_reducible refine below_call (by with_reducible assumption) ?_))))) (first | (go_at_call 40; refine (plain_c _ _).mono ?_; rintro e w2 ⟨rfl, hb2⟩; obtain ⟨hc2, hf2⟩ := bcell hb2; have hz2 := hb2.size; (try simp at hz2); (try have hw02 : w.heap.size < w2.heap.size := by omega); (try have hw12 : w.heap.size + 1 < w2.heap.size := by omega); (try have hw22 : w.heap.size + 1 + 1 < w2.heap.size := by omega)) | (go_at_call 85; refine (HC.out _).mono ?_; rintro e w3 ⟨rfl, hb3⟩; obtain ⟨hc3, hf3⟩ := bcell hb3; have hz3 := hb3.size; (try simp at hz3); (try have hw03 : w.heap.size < w3.heap.size := by omega); (try have hw13 : w.heap.size + 1 < w3.heap.size := by omega); (try have hw23 : w.heap.size + 1 + 1 < w3.heap.size := by omega)))
  all_goals go_wp2
  all_goals ((try simp only [Exit.inBlock, Exit.then]); refine bodyPost_ret (v := ?_) ?_ rfl ?_; rotate_left; (focus (rw [results_cell_tmp rfl]; go_simp; (first | rfl | exact ⟨rfl, rfl⟩))))
  all_goals exact ⟨rfl, by (repeat' (first | (with_reducible exact Below.refl _ _) | (with_reducible refine below_alloc ?_) | (with_reducible refine below_drew ?_) | (with_reducible refine below_drewN ?_) | (with_reducible refine below_set (by first | (simp; done) | (simp; omega)) ?_) | (with_reducible refine below_call (by with_reducible assumption) ?_)))⟩
end Go.Proofs.YtenjkplijblcoaaGreatDoor

/- typed.part, of an operation of one value. -/
namespace Go.Proofs.YtenjkplijblcoaaGreatDoor
open Go.RowKit Cap
set_option maxRecDepth 100000

set_option maxHeartbeats 2000000 in
theorem part_51 (vars : List Vr) (n t : Int) (s f : ByteArray) (a : Va) (vv vt : Value) (w : World) (ht : Sl encVa 3 w vt [a]) :
    Calls Tryz.prog 61 #[vv, prtV ⟨5, n, t, s, f⟩, vt] w (PartR w (partV vars ⟨5, n, t, s, f⟩ [a])) := by
  rw [partV_51 vars ⟨5, n, t, s, f⟩ [a] rfl rfl]
  have HC := Lib.hid (fun W => tone_c n a W)
  obtain ⟨At, ct, rfl, htl, htm, htc⟩ := ht
  obtain ⟨b, off, rfl, hb, hcx⟩ := htc 0 a rfl
  have a0 : w.cell? ⟨b, off, none⟩ = some (.int .i64 a.t) := by simpa using hcx 0 _ rfl
  have a1 : w.cell? ⟨b, off + 1, none⟩ = some (.int .i64 a.lo) := by simpa using hcx 1 _ rfl
  have a2 : w.cell? ⟨b, off + 2, none⟩ = some (.int .i64 a.hi) := by simpa using hcx 2 _ rfl
  simp only [List.getD_cons_zero]
  obtain ⟨⟨⟨rt, rl, rh⟩, ce⟩, hce⟩ : ∃ q, oneV n a = q := ⟨_, rfl⟩
  rw [hce] at HC
  rw [hce]
  clear hce htl htc hcx
  unfold prtV PartR vaV
  unfold vaV at HC
  simp only at HC ⊢
  go_enter Tryz.func61, Tryz.ntmps61
  go_upto_region 8 with fail
  have HK := Lib.hid (show ∀ W, Below (w.alloc (.cells #[.int .i64 5, .int .i64 n, .int .i64 t, .string s, .string f] 38)).heap.size (w.alloc (.cells #[.int .i64 5, .int .i64 n, .int .i64 t, .string s, .string f] 38)) W → (W.cell? ⟨w.heap.size, 1, none⟩ = some (.int .i64 n) ∧ W.cell? ⟨b, off, none⟩ = some (.int .i64 a.t) ∧ W.cell? ⟨b, off + 1, none⟩ = some (.int .i64 a.lo) ∧ W.cell? ⟨b, off + 2, none⟩ = some (.int .i64 a.hi)) from fun W hW =>
    ⟨(hW.cell (p := ⟨w.heap.size, 1, none⟩) (by simp)).trans (by rw [World.cell?_alloc_at _ _ _ _ rfl]; rfl),
     (hW.cell (p := ⟨b, off, none⟩) (by simp; omega)).trans (((below_alloc (Below.refl _ w)).cell (p := ⟨b, off, none⟩) hb).trans a0),
     (hW.cell (p := ⟨b, off + 1, none⟩) (by simp; omega)).trans (((below_alloc (Below.refl _ w)).cell (p := ⟨b, off + 1, none⟩) hb).trans a1),
     (hW.cell (p := ⟨b, off + 2, none⟩) (by simp; omega)).trans (((below_alloc (Below.refl _ w)).cell (p := ⟨b, off + 2, none⟩) hb).trans a2)⟩)
  go_region_held3 (fun W => W.cell? ⟨w.heap.size, 1, none⟩ = some (.int .i64 n) ∧ W.cell? ⟨b, off, none⟩ = some (.int .i64 a.t) ∧ W.cell? ⟨b, off + 1, none⟩ = some (.int .i64 a.lo) ∧ W.cell? ⟨b, off + 2, none⟩ = some (.int .i64 a.hi)) (first | exact HK.out _ (by (repeat' (first | (with_reducible exact Below.refl _ _) | (with_reducible refine below_alloc ?_) | (with_reducible refine below_drew ?_) | (with_reducible refine below_drewN ?_) | (with_reducible refine below_set (by first | (simp; done) | (simp; omega)) ?_) | (with_reducible refine below_call (by with_reducible assumption) ?_))))) (first | (go_at_call 86; refine (HC.out _).mono ?_; rintro e w3 ⟨rfl, hb3⟩; obtain ⟨hc3, hf3⟩ := bcell hb3; have hz3 := hb3.size; (try simp at hz3); (try have hw03 : w.heap.size < w3.heap.size := by omega); (try have hw13 : w.heap.size + 1 < w3.heap.size := by omega); (try have hw23 : w.heap.size + 1 + 1 < w3.heap.size := by omega)))
  all_goals go_wp2
  all_goals ((try simp only [Exit.inBlock, Exit.then]); refine bodyPost_ret (v := ?_) ?_ rfl ?_; rotate_left; (focus (rw [results_cell_tmp rfl]; go_simp; (first | rfl | exact ⟨rfl, rfl⟩))))
  all_goals exact ⟨rfl, by (repeat' (first | (with_reducible exact Below.refl _ _) | (with_reducible refine below_alloc ?_) | (with_reducible refine below_drew ?_) | (with_reducible refine below_drewN ?_) | (with_reducible refine below_set (by first | (simp; done) | (simp; omega)) ?_) | (with_reducible refine below_call (by with_reducible assumption) ?_)))⟩
end Go.Proofs.YtenjkplijblcoaaGreatDoor

/- typed.part, of an operation of two values. -/
namespace Go.Proofs.YtenjkplijblcoaaGreatDoor
open Go.RowKit Cap
set_option maxRecDepth 100000

set_option maxHeartbeats 2000000 in
theorem part_52 (vars : List Vr) (n t : Int) (s f : ByteArray) (a a' : Va) (vv vt : Value) (w : World) (ht : Sl encVa 3 w vt [a, a']) :
    Calls Tryz.prog 61 #[vv, prtV ⟨5, n, t, s, f⟩, vt] w (PartR w (partV vars ⟨5, n, t, s, f⟩ [a, a'])) := by
  rw [partV_52 vars ⟨5, n, t, s, f⟩ [a, a'] rfl (by simp)]
  have HC := Lib.hid (fun W => ttwo_c n a a' W)
  obtain ⟨At, ct, rfl, htl, htm, htc⟩ := ht
  obtain ⟨b, off, rfl, hb, hcx⟩ := htc 0 a rfl
  have a0 : w.cell? ⟨b, off, none⟩ = some (.int .i64 a.t) := by simpa using hcx 0 _ rfl
  have a1 : w.cell? ⟨b, off + 1, none⟩ = some (.int .i64 a.lo) := by simpa using hcx 1 _ rfl
  have a2 : w.cell? ⟨b, off + 2, none⟩ = some (.int .i64 a.hi) := by simpa using hcx 2 _ rfl
  obtain ⟨b', off', he, -, hcy⟩ := htc 1 a' rfl
  injection he with he
  injection he with e1 e2 _
  subst e1 e2
  have b0 : w.cell? ⟨b, off + 3, none⟩ = some (.int .i64 a'.t) := by simpa using hcy 0 _ rfl
  have b1 : w.cell? ⟨b, off + 3 + 1, none⟩ = some (.int .i64 a'.lo) := by simpa using hcy 1 _ rfl
  have b2 : w.cell? ⟨b, off + 3 + 2, none⟩ = some (.int .i64 a'.hi) := by simpa using hcy 2 _ rfl
  simp only [List.getD_cons_zero, List.getD_cons_succ]
  obtain ⟨⟨⟨rt, rl, rh⟩, ce⟩, hce⟩ : ∃ q, twoV n a a' = q := ⟨_, rfl⟩
  rw [hce] at HC
  rw [hce]
  clear hce htl htc hcx hcy
  unfold prtV PartR vaV
  unfold vaV at HC
  simp only at HC ⊢
  go_enter Tryz.func61, Tryz.ntmps61
  go_upto_region 10 with fail
  have HK := Lib.hid (show ∀ W, Below (w.alloc (.cells #[.int .i64 5, .int .i64 n, .int .i64 t, .string s, .string f] 38)).heap.size (w.alloc (.cells #[.int .i64 5, .int .i64 n, .int .i64 t, .string s, .string f] 38)) W → (W.cell? ⟨w.heap.size, 1, none⟩ = some (.int .i64 n) ∧ W.cell? ⟨b, off, none⟩ = some (.int .i64 a.t) ∧ W.cell? ⟨b, off + 1, none⟩ = some (.int .i64 a.lo) ∧ W.cell? ⟨b, off + 2, none⟩ = some (.int .i64 a.hi) ∧ W.cell? ⟨b, off + 3, none⟩ = some (.int .i64 a'.t) ∧ W.cell? ⟨b, off + 3 + 1, none⟩ = some (.int .i64 a'.lo) ∧ W.cell? ⟨b, off + 3 + 2, none⟩ = some (.int .i64 a'.hi)) from fun W hW =>
    ⟨(hW.cell (p := ⟨w.heap.size, 1, none⟩) (by simp)).trans (by rw [World.cell?_alloc_at _ _ _ _ rfl]; rfl),
     (hW.cell (p := ⟨b, off, none⟩) (by simp; omega)).trans (((below_alloc (Below.refl _ w)).cell (p := ⟨b, off, none⟩) hb).trans a0),
     (hW.cell (p := ⟨b, off + 1, none⟩) (by simp; omega)).trans (((below_alloc (Below.refl _ w)).cell (p := ⟨b, off + 1, none⟩) hb).trans a1),
     (hW.cell (p := ⟨b, off + 2, none⟩) (by simp; omega)).trans (((below_alloc (Below.refl _ w)).cell (p := ⟨b, off + 2, none⟩) hb).trans a2),
     (hW.cell (p := ⟨b, off + 3, none⟩) (by simp; omega)).trans (((below_alloc (Below.refl _ w)).cell (p := ⟨b, off + 3, none⟩) hb).trans b0),
     (hW.cell (p := ⟨b, off + 3 + 1, none⟩) (by simp; omega)).trans (((below_alloc (Below.refl _ w)).cell (p := ⟨b, off + 3 + 1, none⟩) hb).trans b1),
     (hW.cell (p := ⟨b, off + 3 + 2, none⟩) (by simp; omega)).trans (((below_alloc (Below.refl _ w)).cell (p := ⟨b, off + 3 + 2, none⟩) hb).trans b2)⟩)
  go_region_held3 (fun W => W.cell? ⟨w.heap.size, 1, none⟩ = some (.int .i64 n) ∧ W.cell? ⟨b, off, none⟩ = some (.int .i64 a.t) ∧ W.cell? ⟨b, off + 1, none⟩ = some (.int .i64 a.lo) ∧ W.cell? ⟨b, off + 2, none⟩ = some (.int .i64 a.hi) ∧ W.cell? ⟨b, off + 3, none⟩ = some (.int .i64 a'.t) ∧ W.cell? ⟨b, off + 3 + 1, none⟩ = some (.int .i64 a'.lo) ∧ W.cell? ⟨b, off + 3 + 2, none⟩ = some (.int .i64 a'.hi)) (first | exact HK.out _ (by (repeat' (first | (with_reducible exact Below.refl _ _) | (with_reducible refine below_alloc ?_) | (with_reducible refine below_drew ?_) | (with_reducible refine below_drewN ?_) | (with_reducible refine below_set (by first | (simp; done) | (simp; omega)) ?_) | (with_reducible refine below_call (by with_reducible assumption) ?_))))) (first | (go_at_call 87; refine (HC.out _).mono ?_; rintro e w3 ⟨rfl, hb3⟩; obtain ⟨hc3, hf3⟩ := bcell hb3; have hz3 := hb3.size; (try simp at hz3); (try have hw03 : w.heap.size < w3.heap.size := by omega); (try have hw13 : w.heap.size + 1 < w3.heap.size := by omega); (try have hw23 : w.heap.size + 1 + 1 < w3.heap.size := by omega)))
  all_goals go_wp2
  all_goals ((try simp only [Exit.inBlock, Exit.then]); refine bodyPost_ret (v := ?_) ?_ rfl ?_; rotate_left; (focus (rw [results_cell_tmp rfl]; go_simp; (first | rfl | exact ⟨rfl, rfl⟩))))
  all_goals exact ⟨rfl, by (repeat' (first | (with_reducible exact Below.refl _ _) | (with_reducible refine below_alloc ?_) | (with_reducible refine below_drew ?_) | (with_reducible refine below_drewN ?_) | (with_reducible refine below_set (by first | (simp; done) | (simp; omega)) ?_) | (with_reducible refine below_call (by with_reducible assumption) ?_)))⟩
end Go.Proofs.YtenjkplijblcoaaGreatDoor
