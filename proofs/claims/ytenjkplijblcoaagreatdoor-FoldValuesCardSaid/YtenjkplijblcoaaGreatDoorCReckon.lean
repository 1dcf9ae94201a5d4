/- fold.reckon. -/
import Derived.Test.YtenjkplijblcoaaGreatDoorCFFold
import Derived.Test.YtenjkplijblcoaaGreatDoorCBase
set_option linter.unusedSimpArgs false
set_option linter.unusedVariables false
namespace Go.Proofs.YtenjkplijblcoaaGreatDoor
open Go.RowKit Cap
set_option maxRecDepth 100000

/-- What fold.reckon hands back. -/
def FoldR (w : World) (q : Prt × Bool) (e : Ending) (w' : World) : Prop := e = .returned (.tuple #[prtV q.1, .bool q.2]) ∧ Below w.heap.size w w'
set_option maxHeartbeats 2000000 in
theorem freck_6 (n t : Int) (s f : ByteArray) (a : Prt) (rest : List Prt) (vt : Value) (w : World) (ht : Sl encPrt 5 w vt (a :: rest)) :
    Calls Tryz.prog 55 #[prtV ⟨6, n, t, s, f⟩, vt] w (FoldR w (reckP ⟨6, n, t, s, f⟩ (a :: rest))) := by
  have HC := Lib.hid (fun W => convert_c a.t t a.n W)
  obtain ⟨At, ct, rfl, htl, htm, htc⟩ := ht
  obtain ⟨b, off, rfl, hb, hcx⟩ := htc 0 a rfl
  have a1 : w.cell? ⟨b, off + 1, none⟩ = some (.int .i64 a.n) := by simpa using hcx 1 _ rfl
  have a2 : w.cell? ⟨b, off + 2, none⟩ = some (.int .i64 a.t) := by simpa using hcx 2 _ rfl
  have hlen : (0 : Int) < ((a :: rest).length : Int) := by simp
  obtain ⟨L, hL⟩ : ∃ L, (a :: rest).length = L := ⟨_, rfl⟩
  rw [hL] at hlen ⊢
  have hLN : 0 < L := by omega
  have HR := Lib.hid (show reckP ⟨6, n, t, s, f⟩ (a :: rest) = (numP (numConvert a.t t a.n).1 t, (numConvert a.t t a.n).2 == 0) by unfold reckP; rw [if_pos rfl]; rfl)
  rw [HR.out]
  obtain ⟨⟨cn, ce⟩, hce⟩ : ∃ q, numConvert a.t t a.n = q := ⟨_, rfl⟩
  rw [hce] at HC ⊢
  clear hce hL htl htc hcx HR
  unfold prtV FoldR numP
  simp only
  go_enter Tryz.func55, Tryz.ntmps55
  go_upto_region 1 with fail
  go_quiet (fail)
  go_upto_region 3 with fail
  have HK := Lib.hid (show ∀ W, Below (w.alloc (.cells #[.int .i64 6, .int .i64 n, .int .i64 t, .string s, .string f] 38)).heap.size (w.alloc (.cells #[.int .i64 6, .int .i64 n, .int .i64 t, .string s, .string f] 38)) W → (W.cell? ⟨w.heap.size, 2, none⟩ = some (.int .i64 t) ∧ W.cell? ⟨b, off + 1, none⟩ = some (.int .i64 a.n) ∧ W.cell? ⟨b, off + 2, none⟩ = some (.int .i64 a.t)) from fun W hW =>
    ⟨(hW.cell (p := ⟨w.heap.size, 2, none⟩) (by simp)).trans (by rw [World.cell?_alloc_at _ _ _ _ rfl]; rfl),
     (hW.cell (p := ⟨b, off + 1, none⟩) (by simp; omega)).trans (((below_alloc (Below.refl _ w)).cell (p := ⟨b, off + 1, none⟩) hb).trans a1),
     (hW.cell (p := ⟨b, off + 2, none⟩) (by simp; omega)).trans (((below_alloc (Below.refl _ w)).cell (p := ⟨b, off + 2, none⟩) hb).trans a2)⟩)
  go_region_held3 (fun W => W.cell? ⟨w.heap.size, 2, none⟩ = some (.int .i64 t) ∧ W.cell? ⟨b, off + 1, none⟩ = some (.int .i64 a.n) ∧ W.cell? ⟨b, off + 2, none⟩ = some (.int .i64 a.t)) (first | exact HK.out _ (by (repeat' (first | (with_reducible exact Below.refl _ _) | (with_reducible refine below_alloc ?_) | (with_reducible refine below_drew ?_) | (with_reducible refine below_drewN ?_) | (with_reducible refine below_set (by first | (simp; done) | (simp; omega)) ?_) | (with_reducible refine below_call (by with_reducible assumption) ?_))))) (first | (go_at_call 75; refine (HC.out _).mono ?_; rintro e w1 ⟨rfl, rfl⟩))
  all_goals go_wp2
  all_goals ((try simp only [Exit.inBlock, Exit.then]); refine bodyPost_ret (v := ?_) ?_ rfl ?_; rotate_left; (focus (rw [results_cell_tmp rfl]; go_simp; (first | rfl | exact ⟨rfl, rfl⟩))))
  all_goals exact ⟨rfl, by (repeat' (first | (with_reducible exact Below.refl _ _) | (with_reducible refine below_alloc ?_) | (with_reducible refine below_drew ?_) | (with_reducible refine below_drewN ?_) | (with_reducible refine below_set (by first | (simp; done) | (simp; omega)) ?_) | (with_reducible refine below_call (by with_reducible assumption) ?_)))⟩
end Go.Proofs.YtenjkplijblcoaaGreatDoor

/- fold.reckon, of an operation of one value. -/
namespace Go.Proofs.YtenjkplijblcoaaGreatDoor
open Go.RowKit Cap
set_option maxRecDepth 100000

set_option maxHeartbeats 2000000 in
theorem freck_51 (n t : Int) (s f : ByteArray) (a : Prt) (vt : Value) (w : World) (ht : Sl encPrt 5 w vt [a]) :
    Calls Tryz.prog 55 #[prtV ⟨5, n, t, s, f⟩, vt] w (FoldR w (reckP ⟨5, n, t, s, f⟩ [a])) := by
  have HC := Lib.hid (fun W => one_c n a.t a.n W)
  obtain ⟨At, ct, rfl, htl, htm, htc⟩ := ht
  obtain ⟨b, off, rfl, hb, hcx⟩ := htc 0 a rfl
  have a1 : w.cell? ⟨b, off + 1, none⟩ = some (.int .i64 a.n) := by simpa using hcx 1 _ rfl
  have a2 : w.cell? ⟨b, off + 2, none⟩ = some (.int .i64 a.t) := by simpa using hcx 2 _ rfl
  have HR := Lib.hid (show reckP ⟨5, n, t, s, f⟩ [a] = (numP (one n a.t a.n).1 a.t, (one n a.t a.n).2 == 0) by unfold reckP; rw [if_neg (show ¬ (5 : Int) = 6 by decide), if_pos ⟨rfl, rfl⟩]; rfl)
  rw [HR.out]
  obtain ⟨⟨cn, ce⟩, hce⟩ : ∃ q, one n a.t a.n = q := ⟨_, rfl⟩
  rw [hce] at HC ⊢
  clear hce htl htc hcx HR
  unfold prtV FoldR numP
  simp only
  go_enter Tryz.func55, Tryz.ntmps55
  go_upto_region 1 with fail
  go_quiet (fail)
  go_upto_region 6 with fail
  have HK := Lib.hid (show ∀ W, Below (w.alloc (.cells #[.int .i64 5, .int .i64 n, .int .i64 t, .string s, .string f] 38)).heap.size (w.alloc (.cells #[.int .i64 5, .int .i64 n, .int .i64 t, .string s, .string f] 38)) W → (W.cell? ⟨w.heap.size, 1, none⟩ = some (.int .i64 n) ∧ W.cell? ⟨b, off + 1, none⟩ = some (.int .i64 a.n) ∧ W.cell? ⟨b, off + 2, none⟩ = some (.int .i64 a.t)) from fun W hW =>
    ⟨(hW.cell (p := ⟨w.heap.size, 1, none⟩) (by simp)).trans (by rw [World.cell?_alloc_at _ _ _ _ rfl]; rfl),
     (hW.cell (p := ⟨b, off + 1, none⟩) (by simp; omega)).trans (((below_alloc (Below.refl _ w)).cell (p := ⟨b, off + 1, none⟩) hb).trans a1),
     (hW.cell (p := ⟨b, off + 2, none⟩) (by simp; omega)).trans (((below_alloc (Below.refl _ w)).cell (p := ⟨b, off + 2, none⟩) hb).trans a2)⟩)
  go_region_held3 (fun W => W.cell? ⟨w.heap.size, 1, none⟩ = some (.int .i64 n) ∧ W.cell? ⟨b, off + 1, none⟩ = some (.int .i64 a.n) ∧ W.cell? ⟨b, off + 2, none⟩ = some (.int .i64 a.t)) (first | exact HK.out _ (by (repeat' (first | (with_reducible exact Below.refl _ _) | (with_reducible refine below_alloc ?_) | (with_reducible refine below_drew ?_) | (with_reducible refine below_drewN ?_) | (with_reducible refine below_set (by first | (simp; done) | (simp; omega)) ?_) | (with_reducible refine below_call (by with_reducible assumption) ?_))))) (first | (go_at_call 76; refine (HC.out _).mono ?_; rintro e w1 ⟨rfl, hb1⟩; obtain ⟨hc1, hf1⟩ := bcell hb1; have hz1 := hb1.size; (try simp at hz1); (try have hw01 : w.heap.size < w1.heap.size := by omega); (try have hw11 : w.heap.size + 1 < w1.heap.size := by omega); (try have hw21 : w.heap.size + 1 + 1 < w1.heap.size := by omega)))
  all_goals go_wp2
  all_goals ((try simp only [Exit.inBlock, Exit.then]); refine bodyPost_ret (v := ?_) ?_ rfl ?_; rotate_left; (focus (rw [results_cell_tmp rfl]; go_simp; (first | rfl | exact ⟨rfl, rfl⟩))))
  all_goals exact ⟨rfl, by (repeat' (first | (with_reducible exact Below.refl _ _) | (with_reducible refine below_alloc ?_) | (with_reducible refine below_drew ?_) | (with_reducible refine below_drewN ?_) | (with_reducible refine below_set (by first | (simp; done) | (simp; omega)) ?_) | (with_reducible refine below_call (by with_reducible assumption) ?_)))⟩
end Go.Proofs.YtenjkplijblcoaaGreatDoor

/- fold.reckon, of an operation of two values, and of no operation. -/
namespace Go.Proofs.YtenjkplijblcoaaGreatDoor
open Go.RowKit Cap
set_option maxRecDepth 100000

set_option maxHeartbeats 2000000 in
theorem freck_52 (n t : Int) (s f : ByteArray) (a a' : Prt) (vt : Value) (w : World) (ht : Sl encPrt 5 w vt [a, a']) :
    Calls Tryz.prog 55 #[prtV ⟨5, n, t, s, f⟩, vt] w (FoldR w (reckP ⟨5, n, t, s, f⟩ [a, a'])) := by
  have HC := Lib.hid (fun W => two_c n a.t a.n a'.n W)
  have HS := Lib.hid (fun W => result_c n a.t W)
  obtain ⟨At, ct, rfl, htl, htm, htc⟩ := ht
  obtain ⟨b, off, rfl, hb, hcx⟩ := htc 0 a rfl
  have a1 : w.cell? ⟨b, off + 1, none⟩ = some (.int .i64 a.n) := by simpa using hcx 1 _ rfl
  have a2 : w.cell? ⟨b, off + 2, none⟩ = some (.int .i64 a.t) := by simpa using hcx 2 _ rfl
  obtain ⟨b', off', he, -, hcy⟩ := htc 1 a' rfl
  injection he with he
  injection he with e1 e2 _
  subst e1 e2
  have b1 : w.cell? ⟨b, off + 5 + 1, none⟩ = some (.int .i64 a'.n) := by simpa using hcy 1 _ rfl
  have HR := Lib.hid (show reckP ⟨5, n, t, s, f⟩ [a, a'] = (numP (two n a.t a.n a'.n).1 (result n a.t).1, (two n a.t a.n a'.n).2 == 0) by unfold reckP; rw [if_neg (show ¬ (5 : Int) = 6 by decide), if_neg (by simp), if_pos rfl]; rfl)
  rw [HR.out]
  obtain ⟨⟨cn, ce⟩, hce⟩ : ∃ q, two n a.t a.n a'.n = q := ⟨_, rfl⟩
  obtain ⟨⟨rn, re⟩, hre⟩ : ∃ q, result n a.t = q := ⟨_, rfl⟩
  rw [hce] at HC ⊢
  rw [hre] at HS ⊢
  clear hce hre htl htc hcx hcy HR
  unfold prtV FoldR numP
  simp only
  go_enter Tryz.func55, Tryz.ntmps55
  go_upto_region 1 with fail
  go_quiet (fail)
  go_upto_region 8 with fail
  have HZ := Lib.hid (show ∀ W, Below ((w.alloc (.cells #[.int .i64 5, .int .i64 n, .int .i64 t, .string s, .string f] 38)).alloc (.cells #[.int .i64 0, .int .i64 0, .int .i64 0, .string ⟨#[]⟩, .string ⟨#[]⟩] 38)).heap.size ((w.alloc (.cells #[.int .i64 5, .int .i64 n, .int .i64 t, .string s, .string f] 38)).alloc (.cells #[.int .i64 0, .int .i64 0, .int .i64 0, .string ⟨#[]⟩, .string ⟨#[]⟩] 38)) W → W.heap[w.heap.size + 1]? = some (.cells #[.int .i64 0, .int .i64 0, .int .i64 0, .string ⟨#[]⟩, .string ⟨#[]⟩] 38 (0, 0)) from fun W hW => by
    have h := heap_alloc_new (w.alloc (.cells #[.int .i64 5, .int .i64 n, .int .i64 t, .string s, .string f] 38)) (.cells #[.int .i64 0, .int .i64 0, .int .i64 0, .string ⟨#[]⟩, .string ⟨#[]⟩] 38)
    rw [World.size_alloc] at h
    exact (hW.block _ (by simp)).trans h)
  have HK := Lib.hid (show ∀ W, Below (w.alloc (.cells #[.int .i64 5, .int .i64 n, .int .i64 t, .string s, .string f] 38)).heap.size (w.alloc (.cells #[.int .i64 5, .int .i64 n, .int .i64 t, .string s, .string f] 38)) W → (W.cell? ⟨w.heap.size, 1, none⟩ = some (.int .i64 n) ∧ W.cell? ⟨b, off + 1, none⟩ = some (.int .i64 a.n) ∧ W.cell? ⟨b, off + 2, none⟩ = some (.int .i64 a.t) ∧ W.cell? ⟨b, off + 5 + 1, none⟩ = some (.int .i64 a'.n)) from fun W hW =>
    ⟨(hW.cell (p := ⟨w.heap.size, 1, none⟩) (by simp)).trans (by rw [World.cell?_alloc_at _ _ _ _ rfl]; rfl),
     (hW.cell (p := ⟨b, off + 1, none⟩) (by simp; omega)).trans (((below_alloc (Below.refl _ w)).cell (p := ⟨b, off + 1, none⟩) hb).trans a1),
     (hW.cell (p := ⟨b, off + 2, none⟩) (by simp; omega)).trans (((below_alloc (Below.refl _ w)).cell (p := ⟨b, off + 2, none⟩) hb).trans a2),
     (hW.cell (p := ⟨b, off + 5 + 1, none⟩) (by simp; omega)).trans (((below_alloc (Below.refl _ w)).cell (p := ⟨b, off + 5 + 1, none⟩) hb).trans b1)⟩)
  go_region_held3 (fun W => W.cell? ⟨w.heap.size, 1, none⟩ = some (.int .i64 n) ∧ W.cell? ⟨b, off + 1, none⟩ = some (.int .i64 a.n) ∧ W.cell? ⟨b, off + 2, none⟩ = some (.int .i64 a.t) ∧ W.cell? ⟨b, off + 5 + 1, none⟩ = some (.int .i64 a'.n)) (first | exact HK.out _ (by (repeat' (first | (with_reducible exact Below.refl _ _) | (with_reducible refine below_alloc ?_) | (with_reducible refine below_drew ?_) | (with_reducible refine below_drewN ?_) | (with_reducible refine below_set (by first | (simp; done) | (simp; omega)) ?_) | (with_reducible refine below_call (by with_reducible assumption) ?_))))) (first | (go_at_call 21; refine (HC.out _).mono ?_; rintro e w1 ⟨rfl, hb1⟩; obtain ⟨hc1, hf1⟩ := bcell hb1; have hz1 := hb1.size; (try simp at hz1); (try have hw01 : w.heap.size < w1.heap.size := by omega); (try have hw11 : w.heap.size + 1 < w1.heap.size := by omega); (try have hw21 : w.heap.size + 1 + 1 < w1.heap.size := by omega)))
  all_goals go_upto_region 9 with fail
  all_goals go_region_held3 (fun W => W.cell? ⟨w.heap.size, 1, none⟩ = some (.int .i64 n) ∧ W.cell? ⟨b, off + 1, none⟩ = some (.int .i64 a.n) ∧ W.cell? ⟨b, off + 2, none⟩ = some (.int .i64 a.t) ∧ W.cell? ⟨b, off + 5 + 1, none⟩ = some (.int .i64 a'.n)) (first | exact HK.out _ (by (repeat' (first | (with_reducible exact Below.refl _ _) | (with_reducible refine below_alloc ?_) | (with_reducible refine below_drew ?_) | (with_reducible refine below_drewN ?_) | (with_reducible refine below_set (by first | (simp; done) | (simp; omega)) ?_) | (with_reducible refine below_call (by with_reducible assumption) ?_))))) (first | (go_at_call 77; refine (HS.out _).mono ?_; rintro e w2 ⟨rfl, hb2⟩; obtain ⟨hc2, hf2⟩ := bcell hb2; have hz2 := hb2.size; (try simp at hz2); (try have hw02 : w.heap.size < w2.heap.size := by omega); (try have hw12 : w.heap.size + 1 < w2.heap.size := by omega); (try have hw22 : w.heap.size + 1 + 1 < w2.heap.size := by omega)))
  all_goals have hX := HZ.out w2 (by (repeat' (first | (with_reducible exact Below.refl _ _) | (with_reducible refine below_alloc ?_) | (with_reducible refine below_drew ?_) | (with_reducible refine below_drewN ?_) | (with_reducible refine below_set (by first | (simp; done) | (simp; omega)) ?_) | (with_reducible refine below_call (by with_reducible assumption) ?_))))
  all_goals have r0 := cell_of_row _ _ 0 _ _ _ hX
  all_goals have r1 := cell_of_row _ _ 1 _ _ _ hX
  all_goals have r2 := cell_of_row _ _ 2 _ _ _ hX
  all_goals have r3 := cell_of_row _ _ 3 _ _ _ hX
  all_goals have r4 := cell_of_row _ _ 4 _ _ _ hX
  all_goals have f0 := frozen_row 0 hX
  all_goals have f1 := frozen_row 1 hX
  all_goals have f2 := frozen_row 2 hX
  all_goals have f3 := frozen_row 3 hX
  all_goals have f4 := frozen_row 4 hX
  all_goals simp at r0 r1 r2 r3 r4
  all_goals go_wp2
  all_goals ((try simp only [Exit.inBlock, Exit.then]); refine bodyPost_ret (v := ?_) ?_ rfl ?_; rotate_left; (focus (rw [results_cell_tmp rfl]; go_simp; (first | rfl | exact ⟨rfl, rfl⟩))))
  all_goals exact ⟨rfl, by (repeat' (first | (with_reducible exact Below.refl _ _) | (with_reducible refine below_alloc ?_) | (with_reducible refine below_drew ?_) | (with_reducible refine below_drewN ?_) | (with_reducible refine below_set (by first | (simp; done) | (simp; omega)) ?_) | (with_reducible refine below_call (by with_reducible assumption) ?_)))⟩
end Go.Proofs.YtenjkplijblcoaaGreatDoor

/- fold.reckon whole. -/
namespace Go.Proofs.YtenjkplijblcoaaGreatDoor
open Go.RowKit Cap
set_option maxRecDepth 100000

set_option maxHeartbeats 1000000 in
theorem freck_n (k n t : Int) (s f : ByteArray) (l : List Prt) (A : Option Addr) (len c : Nat) (w : World) (h6 : ¬ k = 6) (h5 : ¬ k = 5) :
    Calls Tryz.prog 55 #[prtV ⟨k, n, t, s, f⟩, .slice A len c] w (FoldR w (reckP ⟨k, n, t, s, f⟩ l)) := by
  have HR := Lib.hid (show reckP ⟨k, n, t, s, f⟩ l = (numP 0 t, false) by unfold reckP; rw [if_neg h6, if_neg (fun h => h5 h.1), if_neg h5])
  rw [HR.out]
  have hb6 := ne_i h6
  have hb5 := ne_i h5
  clear HR h6 h5
  unfold prtV FoldR numP
  simp only
  go_enter Tryz.func55, Tryz.ntmps55
  go_upto_region 1 with fail
  go_quiet (fail)
  go_wp2
  ((try simp only [Exit.inBlock, Exit.then]); refine bodyPost_ret (v := ?_) ?_ rfl ?_; rotate_left; (focus (rw [results_cell_tmp rfl]; go_simp; (first | rfl | exact ⟨rfl, rfl⟩))))
  exact ⟨rfl, by (repeat' (first | (with_reducible exact Below.refl _ _) | (with_reducible refine below_alloc ?_) | (with_reducible refine below_drew ?_) | (with_reducible refine below_drewN ?_) | (with_reducible refine below_set (by first | (simp; done) | (simp; omega)) ?_) | (with_reducible refine below_call (by with_reducible assumption) ?_)))⟩
theorem freck_c (p : Prt) (l : List Prt) (vt : Value) (w : World) (ht : Sl encPrt 5 w vt l) (hl : l.length = takesT p) :
    Calls Tryz.prog 55 #[prtV p, vt] w (FoldR w (reckP p l)) := by
  obtain ⟨k, n, t, s, f⟩ := p
  by_cases h6 : k = 6
  · subst h6
    have hl1 : l.length = 1 := by rw [hl]; rfl
    match l, hl1 with
    | [a], _ => exact freck_6 n t s f a [] vt w ht
  by_cases h5 : k = 5
  · subst h5
    by_cases h15 : 15 ≤ n
    · have hl1 : l.length = 1 := by rw [hl, takesT, if_pos (.inr (.inr ⟨rfl, h15⟩))]
      match l, hl1 with
      | [a], _ => exact freck_51 n t s f a vt w ht
    · have hl2 : l.length = 2 := by rw [hl, takesT, if_neg (by rintro (h | h | h) <;> first | exact h15 h.2 | simp at h), if_pos rfl]
      match l, hl2 with
      | [a, a'], _ => exact freck_52 n t s f a a' vt w ht
  obtain ⟨A, c, rfl, -, -, -⟩ := ht
  exact freck_n k n t s f l A _ c w h6 h5
end Go.Proofs.YtenjkplijblcoaaGreatDoor
