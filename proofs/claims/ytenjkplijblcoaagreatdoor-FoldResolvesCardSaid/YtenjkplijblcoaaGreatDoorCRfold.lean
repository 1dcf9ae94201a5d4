/- capstanref10.reckon: what each call answers. -/
import Derived.Test.YtenjkplijblcoaaGreatDoorCRten
import Derived.Test.YtenjkplijblcoaaGreatDoorCRfour
import Derived.Test.YtenjkplijblcoaaGreatDoorCTyp
import Derived.Test.YtenjkplijblcoaaGreatDoorCRes
set_option linter.unusedSimpArgs false
set_option linter.unusedVariables false
namespace Go.Proofs.YtenjkplijblcoaaGreatDoor
open Go.RowKit Cap
set_option maxRecDepth 100000

/-- What reckon hands back. -/
def Rk3 (w : World) (v t er : Int) (e : Ending) (w' : World) : Prop := e = .returned (.tuple #[.int .i64 v, .int .i64 t, .int .i64 er]) ∧ Below w.heap.size w w'
set_option maxHeartbeats 2000000 in
theorem rreck10_6 (n t : Int) (s f : ByteArray) (a : Prt) (va vb : Value) (w : World) (ha : Sl encPrt 5 w va [a]) :
    Calls Tryz.prog 57 #[prtV ⟨6, n, t, s, f⟩, va, vb] w (Rk3 w (numConvert a.t t a.n).1 t (numConvert a.t t a.n).2) := by
  have HC := Lib.hid (fun W => rconvert_c a.t t a.n W)
  obtain ⟨At, ct, rfl, htl, htm, htc⟩ := ha
  obtain ⟨b, off, rfl, hb, hcx⟩ := htc 0 a rfl
  have a1 : w.cell? ⟨b, off + 1, none⟩ = some (.int .i64 a.n) := by simpa using hcx 1 _ rfl
  have a2 : w.cell? ⟨b, off + 2, none⟩ = some (.int .i64 a.t) := by simpa using hcx 2 _ rfl
  obtain ⟨⟨cn, ce⟩, hce⟩ : ∃ q, numConvert a.t t a.n = q := ⟨_, rfl⟩
  rw [hce] at HC ⊢
  clear hce htl htc hcx
  unfold prtV Rk3
  simp only
  go_enter Tryz.func57, Tryz.ntmps57
  go_upto_region 2 with fail
  have HK := Lib.hid (show ∀ W, Below (w.alloc (.cells #[.int .i64 6, .int .i64 n, .int .i64 t, .string s, .string f] 38)).heap.size (w.alloc (.cells #[.int .i64 6, .int .i64 n, .int .i64 t, .string s, .string f] 38)) W → (W.cell? ⟨w.heap.size, 2, none⟩ = some (.int .i64 t) ∧ W.cell? ⟨b, off + 1, none⟩ = some (.int .i64 a.n) ∧ W.cell? ⟨b, off + 2, none⟩ = some (.int .i64 a.t)) from fun W hW =>
    ⟨(hW.cell (p := ⟨w.heap.size, 2, none⟩) (by simp)).trans (by rw [World.cell?_alloc_at _ _ _ _ rfl]; rfl),
     (hW.cell (p := ⟨b, off + 1, none⟩) (by simp; omega)).trans (((below_alloc (Below.refl _ w)).cell (p := ⟨b, off + 1, none⟩) hb).trans a1),
     (hW.cell (p := ⟨b, off + 2, none⟩) (by simp; omega)).trans (((below_alloc (Below.refl _ w)).cell (p := ⟨b, off + 2, none⟩) hb).trans a2)⟩)
  go_region_held3 (fun W => W.cell? ⟨w.heap.size, 2, none⟩ = some (.int .i64 t) ∧ W.cell? ⟨b, off + 1, none⟩ = some (.int .i64 a.n) ∧ W.cell? ⟨b, off + 2, none⟩ = some (.int .i64 a.t)) (first | exact HK.out _ (by (repeat' (first | (with_reducible exact Below.refl _ _) | (with_reducible refine below_alloc ?_) | (with_reducible refine below_drew ?_) | (with_reducible refine below_drewN ?_) | (with_reducible refine below_set (by first | (simp; done) | (simp; omega)) ?_) | (with_reducible refine below_call (by with_reducible assumption) ?_))))) (first | (go_at_call 78; refine (HC.out _).mono ?_; rintro e w1 ⟨rfl, rfl⟩))
  all_goals go_upto_region 3 with fail
  all_goals go_region_held3 (fun W => W.cell? ⟨w.heap.size, 2, none⟩ = some (.int .i64 t)) (first | exact (HK.out _ (by (repeat' (first | (with_reducible exact Below.refl _ _) | (with_reducible refine below_alloc ?_) | (with_reducible refine below_drew ?_) | (with_reducible refine below_drewN ?_) | (with_reducible refine below_set (by first | (simp; done) | (simp; omega)) ?_) | (with_reducible refine below_call (by with_reducible assumption) ?_))))).1) (first | fail)
  all_goals go_wp2
  all_goals go_ret3
  all_goals exact ⟨rfl, by (repeat' (first | (with_reducible exact Below.refl _ _) | (with_reducible refine below_alloc ?_) | (with_reducible refine below_drew ?_) | (with_reducible refine below_drewN ?_) | (with_reducible refine below_set (by first | (simp; done) | (simp; omega)) ?_) | (with_reducible refine below_call (by with_reducible assumption) ?_)))⟩
set_option maxHeartbeats 2000000 in
theorem rreck10_51 (n t : Int) (s f : ByteArray) (a : Prt) (va : Value) (w : World) (ha : Sl encPrt 5 w va [a]) :
    Calls Tryz.prog 57 #[prtV ⟨5, n, t, s, f⟩, va, .slice none 0 0] w (Rk3 w (Cap.one n a.t a.n).1 (result n a.t).1 (Cap.one n a.t a.n).2) := by
  have HC := Lib.hid (fun W => rone_c n a.t a.n W)
  have HQ := Lib.hid (fun W => rresult_c n a.t W)
  obtain ⟨At, ct, rfl, htl, htm, htc⟩ := ha
  obtain ⟨b, off, rfl, hb, hcx⟩ := htc 0 a rfl
  have a1 : w.cell? ⟨b, off + 1, none⟩ = some (.int .i64 a.n) := by simpa using hcx 1 _ rfl
  have a2 : w.cell? ⟨b, off + 2, none⟩ = some (.int .i64 a.t) := by simpa using hcx 2 _ rfl
  obtain ⟨⟨cn, ce⟩, hce⟩ : ∃ q, Cap.one n a.t a.n = q := ⟨_, rfl⟩
  rw [hce] at HC ⊢
  obtain ⟨⟨rt, re⟩, hre⟩ : ∃ q, result n a.t = q := ⟨_, rfl⟩
  rw [hre] at HQ ⊢
  clear hce hre htl htc hcx
  unfold prtV Rk3
  simp only
  go_enter Tryz.func57, Tryz.ntmps57
  go_upto_region 4 with fail
  have HK := Lib.hid (show ∀ W, Below (w.alloc (.cells #[.int .i64 5, .int .i64 n, .int .i64 t, .string s, .string f] 38)).heap.size (w.alloc (.cells #[.int .i64 5, .int .i64 n, .int .i64 t, .string s, .string f] 38)) W → (W.cell? ⟨w.heap.size, 1, none⟩ = some (.int .i64 n) ∧ W.cell? ⟨b, off + 1, none⟩ = some (.int .i64 a.n) ∧ W.cell? ⟨b, off + 2, none⟩ = some (.int .i64 a.t)) from fun W hW =>
    ⟨(hW.cell (p := ⟨w.heap.size, 1, none⟩) (by simp)).trans (by rw [World.cell?_alloc_at _ _ _ _ rfl]; rfl),
     (hW.cell (p := ⟨b, off + 1, none⟩) (by simp; omega)).trans (((below_alloc (Below.refl _ w)).cell (p := ⟨b, off + 1, none⟩) hb).trans a1),
     (hW.cell (p := ⟨b, off + 2, none⟩) (by simp; omega)).trans (((below_alloc (Below.refl _ w)).cell (p := ⟨b, off + 2, none⟩) hb).trans a2)⟩)
  go_region_held3 (fun W => W.cell? ⟨w.heap.size, 1, none⟩ = some (.int .i64 n) ∧ W.cell? ⟨b, off + 1, none⟩ = some (.int .i64 a.n) ∧ W.cell? ⟨b, off + 2, none⟩ = some (.int .i64 a.t)) (first | exact HK.out _ (by (repeat' (first | (with_reducible exact Below.refl _ _) | (with_reducible refine below_alloc ?_) | (with_reducible refine below_drew ?_) | (with_reducible refine below_drewN ?_) | (with_reducible refine below_set (by first | (simp; done) | (simp; omega)) ?_) | (with_reducible refine below_call (by with_reducible assumption) ?_))))) (first | (go_at_call 79; refine (HQ.out _).mono ?_; rintro e w1 ⟨rfl, rfl⟩))
  all_goals go_upto_region 6 with fail
  all_goals go_region_held3 (fun W => W.cell? ⟨w.heap.size, 1, none⟩ = some (.int .i64 n) ∧ W.cell? ⟨b, off + 1, none⟩ = some (.int .i64 a.n) ∧ W.cell? ⟨b, off + 2, none⟩ = some (.int .i64 a.t)) (first | exact HK.out _ (by (repeat' (first | (with_reducible exact Below.refl _ _) | (with_reducible refine below_alloc ?_) | (with_reducible refine below_drew ?_) | (with_reducible refine below_drewN ?_) | (with_reducible refine below_set (by first | (simp; done) | (simp; omega)) ?_) | (with_reducible refine below_call (by with_reducible assumption) ?_))))) (first | (go_at_call 80; refine (HC.out _).mono ?_; rintro e w1 ⟨rfl, rfl⟩))
  all_goals go_wp2
  all_goals go_ret3
  all_goals exact ⟨rfl, by (repeat' (first | (with_reducible exact Below.refl _ _) | (with_reducible refine below_alloc ?_) | (with_reducible refine below_drew ?_) | (with_reducible refine below_drewN ?_) | (with_reducible refine below_set (by first | (simp; done) | (simp; omega)) ?_) | (with_reducible refine below_call (by with_reducible assumption) ?_)))⟩
set_option maxHeartbeats 2000000 in
theorem rreck10_52 (n t : Int) (s f : ByteArray) (a a' : Prt) (va vb : Value) (w : World) (ha : Sl encPrt 5 w va [a]) (hb' : Sl encPrt 5 w vb [a']) :
    Calls Tryz.prog 57 #[prtV ⟨5, n, t, s, f⟩, va, vb] w (Rk3 w (two n a.t a.n a'.n).1 (result n a.t).1 (two n a.t a.n a'.n).2) := by
  have HC := Lib.hid (fun W => rtwo_c n a.t a.n a'.n W)
  have HQ := Lib.hid (fun W => rresult_c n a.t W)
  obtain ⟨At, ct, rfl, htl, htm, htc⟩ := ha
  obtain ⟨b, off, rfl, hb, hcx⟩ := htc 0 a rfl
  have a1 : w.cell? ⟨b, off + 1, none⟩ = some (.int .i64 a.n) := by simpa using hcx 1 _ rfl
  have a2 : w.cell? ⟨b, off + 2, none⟩ = some (.int .i64 a.t) := by simpa using hcx 2 _ rfl
  obtain ⟨Bt, cu, rfl, hul, hum, huc⟩ := hb'
  obtain ⟨d, od, rfl, hd, hcy⟩ := huc 0 a' rfl
  have a3 : w.cell? ⟨d, od + 1, none⟩ = some (.int .i64 a'.n) := by simpa using hcy 1 _ rfl
  obtain ⟨⟨cn, ce⟩, hce⟩ : ∃ q, two n a.t a.n a'.n = q := ⟨_, rfl⟩
  rw [hce] at HC ⊢
  obtain ⟨⟨rt, re⟩, hre⟩ : ∃ q, result n a.t = q := ⟨_, rfl⟩
  rw [hre] at HQ ⊢
  clear hce hre htl htc hcx hul huc hcy
  unfold prtV Rk3
  simp only
  go_enter Tryz.func57, Tryz.ntmps57
  go_upto_region 4 with fail
  have HK := Lib.hid (show ∀ W, Below (w.alloc (.cells #[.int .i64 5, .int .i64 n, .int .i64 t, .string s, .string f] 38)).heap.size (w.alloc (.cells #[.int .i64 5, .int .i64 n, .int .i64 t, .string s, .string f] 38)) W → (W.cell? ⟨w.heap.size, 1, none⟩ = some (.int .i64 n) ∧ W.cell? ⟨b, off + 1, none⟩ = some (.int .i64 a.n) ∧ W.cell? ⟨b, off + 2, none⟩ = some (.int .i64 a.t) ∧ W.cell? ⟨d, od + 1, none⟩ = some (.int .i64 a'.n)) from fun W hW =>
    ⟨(hW.cell (p := ⟨w.heap.size, 1, none⟩) (by simp)).trans (by rw [World.cell?_alloc_at _ _ _ _ rfl]; rfl),
     (hW.cell (p := ⟨b, off + 1, none⟩) (by simp; omega)).trans (((below_alloc (Below.refl _ w)).cell (p := ⟨b, off + 1, none⟩) hb).trans a1),
     (hW.cell (p := ⟨b, off + 2, none⟩) (by simp; omega)).trans (((below_alloc (Below.refl _ w)).cell (p := ⟨b, off + 2, none⟩) hb).trans a2),
     (hW.cell (p := ⟨d, od + 1, none⟩) (by simp; omega)).trans (((below_alloc (Below.refl _ w)).cell (p := ⟨d, od + 1, none⟩) hd).trans a3)⟩)
  go_region_held3 (fun W => W.cell? ⟨w.heap.size, 1, none⟩ = some (.int .i64 n) ∧ W.cell? ⟨b, off + 2, none⟩ = some (.int .i64 a.t)) (first | exact ⟨(HK.out _ (by (repeat' (first | (with_reducible exact Below.refl _ _) | (with_reducible refine below_alloc ?_) | (with_reducible refine below_drew ?_) | (with_reducible refine below_drewN ?_) | (with_reducible refine below_set (by first | (simp; done) | (simp; omega)) ?_) | (with_reducible refine below_call (by with_reducible assumption) ?_))))).1, (HK.out _ (by (repeat' (first | (with_reducible exact Below.refl _ _) | (with_reducible refine below_alloc ?_) | (with_reducible refine below_drew ?_) | (with_reducible refine below_drewN ?_) | (with_reducible refine below_set (by first | (simp; done) | (simp; omega)) ?_) | (with_reducible refine below_call (by with_reducible assumption) ?_))))).2.2.1⟩) (first | (go_at_call 79; refine (HQ.out _).mono ?_; rintro e w1 ⟨rfl, rfl⟩))
  all_goals go_upto_region 8 with fail
  all_goals go_region_held3 (fun W => W.cell? ⟨w.heap.size, 1, none⟩ = some (.int .i64 n) ∧ W.cell? ⟨b, off + 1, none⟩ = some (.int .i64 a.n) ∧ W.cell? ⟨b, off + 2, none⟩ = some (.int .i64 a.t) ∧ W.cell? ⟨d, od + 1, none⟩ = some (.int .i64 a'.n)) (first | exact HK.out _ (by (repeat' (first | (with_reducible exact Below.refl _ _) | (with_reducible refine below_alloc ?_) | (with_reducible refine below_drew ?_) | (with_reducible refine below_drewN ?_) | (with_reducible refine below_set (by first | (simp; done) | (simp; omega)) ?_) | (with_reducible refine below_call (by with_reducible assumption) ?_))))) (first | (go_at_call 81; refine (HC.out _).mono ?_; rintro e w1 ⟨rfl, rfl⟩))
  all_goals go_wp2
  all_goals go_ret3
  all_goals exact ⟨rfl, by (repeat' (first | (with_reducible exact Below.refl _ _) | (with_reducible refine below_alloc ?_) | (with_reducible refine below_drew ?_) | (with_reducible refine below_drewN ?_) | (with_reducible refine below_set (by first | (simp; done) | (simp; omega)) ?_) | (with_reducible refine below_call (by with_reducible assumption) ?_)))⟩
end Go.Proofs.YtenjkplijblcoaaGreatDoor

/- capstanref10.folded, Fold: what each call answers. -/
namespace Cap
open Go Go.RowKit
theorem foldX_len : ∀ T : Ex, 1 ≤ (foldX T).length ∧ (foldX T).length ≤ T.flat.length
  | .leaf p => ⟨Nat.le_refl _, Nat.le_refl _⟩
  | .un p a => by
    obtain ⟨h1, h2⟩ := foldX_len a
    rw [foldX, Ex.flat, List.length_append, List.length_singleton]
    cases hq : foldX a with
    | nil => rw [hq] at h1; simp at h1
    | cons x r =>
      rw [hq] at h1 h2
      cases r with
      | nil =>
        simp only
        split
        · simp
        · simp at h2 ⊢; omega
      | cons y r =>
        simp at h2 ⊢
        omega
  | .bin p a b => by
    obtain ⟨h1, h2⟩ := foldX_len a
    obtain ⟨h3, h4⟩ := foldX_len b
    rw [foldX, Ex.flat, List.length_append, List.length_append, List.length_singleton]
    cases hq : foldX a with
    | nil => rw [hq] at h1; simp at h1
    | cons x r =>
      cases hq' : foldX b with
      | nil => rw [hq'] at h3; simp at h3
      | cons x' r' =>
        rw [hq] at h1 h2
        rw [hq'] at h3 h4
        cases r with
        | nil =>
          cases r' with
          | nil =>
            simp only
            split
            · simp
            · simp at h2 h4 ⊢; omega
          | cons y r' => simp at h2 h4 ⊢; omega
        | cons y r => simp at h2 h4 ⊢; omega
theorem foldX_un_more {p : Prt} {A : Ex} {L : List Prt} (h : foldX A = L) (hl : L.length ≠ 1) : foldX (.un p A) = L ++ [p] := by
  rw [foldX, h]
  match L, hl with
  | [], _ => rfl
  | [_], h => exact absurd rfl h
  | _ :: _ :: _, _ => rfl
theorem foldX_un_one {p : Prt} {A : Ex} {q : Prt} (h : foldX A = [q]) : foldX (.un p A) = if q.k = 1 ∧ (reckP p [q]).2 = true then [(reckP p [q]).1] else [q, p] := by
  rw [foldX, h]
theorem foldX_bin_more {p : Prt} {A B : Ex} {L M : List Prt} (h : foldX A = L) (h' : foldX B = M) (hl : L.length ≠ 1 ∨ M.length ≠ 1) : foldX (.bin p A B) = L ++ M ++ [p] := by
  rw [foldX, h, h']
  match L, M, hl with
  | [], _, _ => rfl
  | [_], [], _ => rfl
  | [_], [_], h => exact absurd rfl (h.elim id id)
  | [_], _ :: _ :: _, _ => rfl
  | _ :: _ :: _, _, _ => rfl
theorem foldX_bin_one {p : Prt} {A B : Ex} {q q' : Prt} (h : foldX A = [q]) (h' : foldX B = [q']) : foldX (.bin p A B) = if q.k = 1 ∧ q'.k = 1 ∧ (reckP p [q, q']).2 = true then [(reckP p [q, q']).1] else [q, q', p] := by
  rw [foldX, h, h']
theorem one_res {n t a : Int} (h : (Cap.one n t a).2 = 0) : (result n t).1 = t := by
  unfold Cap.one at h
  obtain ⟨h1, h2, -⟩ := does_fit h
  have ho : (oneOf n == true) = true := by
    cases hq : (oneOf n == true) with
    | true => rfl
    | false =>
      unfold does at h
      rw [if_neg (by simp [h2]), if_pos hq] at h
      simp at h
  have h15 : 15 ≤ n := by
    unfold oneOf at ho
    simpa using ho
  have hop : opHas n t = true := by unfold opHas; rw [h1, h2]; rfl
  unfold result
  rw [if_neg (by simp [hop]), if_neg (by unfold truthOf; simp; omega)]
end Cap
namespace Go.Proofs.YtenjkplijblcoaaGreatDoor
open Go.RowKit Cap
set_option maxRecDepth 100000

/-- What folded hands back of a tree. -/
def FoldedC (T : Ex) : Prop := ∀ (vx : Value) (w : World), Sl encPrt 5 w vx T.flat → T.flat.length ≤ 500 → (∀ p ∈ T.flat, takesT p = takesE p) →
  Calls Tryz.prog 30 #[vx] w (fun e w' => ∃ v, e = .returned v ∧ Sl encPrt 5 w' v (foldX T) ∧ Below w.heap.size w w')
/-- What each operation of the making leaves. -/
def foldF (base : Nat) (va vb : Value) (LA LB : List Prt) (p : Prt) : Nat → Value → World → Prop
  | 0, v, w => LitAt base 38 w v
  | 1, v, _ => v = va
  | 2, v, w => w.ownsRow base 38 5 v LA.length (LA.flatMap encPrt)
  | 3, v, _ => v = vb
  | 4, v, w => w.ownsRow base 38 5 v (LA.length + LB.length) (LA.flatMap encPrt ++ LB.flatMap encPrt)
  | 5, v, _ => v = prtV p
  | 6, v, w => ∃ B, v = .slice (some ⟨B, 0, none⟩) 1 1 ∧ w.heap[B]? = some (.cells #[.int .i64 p.k, .int .i64 p.n, .int .i64 p.t, .string p.s, .string p.f] 38 (0, 0))
  | 7, v, w => w.ownsRow base 38 5 v (LA.length + LB.length + [p].length) (LA.flatMap encPrt ++ LB.flatMap encPrt ++ [p].flatMap encPrt)
  | _, _, _ => True
theorem foldF_below {base : Nat} {va vb : Value} {LA LB : List Prt} {p : Prt} (i : Nat) (v : Value) (w w' : World) (h : foldF base va vb LA LB p i v w) (hb : Below w.heap.size w w') : foldF base va vb LA LB p i v w' := by
  revert h
  unfold foldF
  split <;> intro h
  all_goals first | exact h | exact LitAt.below h hb | exact own_below h hb | exact Sl.below h hb | (obtain ⟨B, rfl, h⟩ := h; exact ⟨B, rfl, (hb.block B (Array.getElem?_eq_some_iff.1 h).1).trans h⟩)
theorem foldF_lit {base : Nat} {va vb : Value} {LA LB : List Prt} {p : Prt} : ∀ (j : Nat) (v : Value) (w : World), j + 43 = 49 → foldF base va vb LA LB p j v w → ∀ g, v.ownBlock = some g → g < w.heap.size := by
  intro j v w hj h g hg
  obtain rfl : j = 6 := by omega
  obtain ⟨B, rfl, hh⟩ := h
  simp [Value.ownBlock] at hg
  subst hg
  exact (Array.getElem?_eq_some_iff.1 hh).1
theorem fold_own {w : World} {base n : Nat} {v : Value} {x y : List Prt} {q : Prt} (hn : (x ++ y ++ [q]).length = n) (h : w.ownsRow base 38 5 v (x.length + y.length + [q].length) (x.flatMap encPrt ++ y.flatMap encPrt ++ [q].flatMap encPrt)) : w.ownsRow base 38 5 v n ((x ++ y ++ [q]).flatMap encPrt) := by
  subst hn
  rw [List.flatMap_append, List.flatMap_append, List.length_append, List.length_append]
  exact h
set_option maxHeartbeats 1000000 in
theorem folded_leaf (p : Prt) (hT : takesT p = 0) : FoldedC (.leaf p) := by
  intro vx w hx h500 hte
  have hteP : takesT p = takesE p := hte p (by simp [Ex.flat])
  have HTK := Lib.hid (fun W => (show Calls Tryz.prog 51 #[.agg #[.int .i64 p.k, .int .i64 p.n, .int .i64 p.t, .string p.s, .string p.f]] W fun e w' => e = .returned (.int .i64 0) ∧ Below W.heap.size W w' from by
    have h := rtakes_c p W
    rw [takesR6_E, ← hteP, hT] at h
    exact h))
  have HX := Lib.hid hx
  obtain ⟨A, c, rfl, -, -, -⟩ := (id hx)
  obtain ⟨b, off, rfl, -, hlc, hcm, hb, c0, c1, c2, c3, c4⟩ := sl_last (xs := []) hx
  simp only [List.length_nil, Nat.zero_mul, Nat.add_zero] at c0 c1 c2 c3 c4
  rw [show (Ex.leaf p).flat.length = 1 from rfl] at hlc HX ⊢
  have hc1 : (1 : Int) ≤ (c : Int) := by omega
  clear hx h500 hte hT hteP
  go_enter Tryz.func30, Tryz.ntmps30
  go_wp2_with (go_at_call 51; refine (HTK.out _).mono ?_; rintro e w1 ⟨rfl, hb1⟩)
  go_ret
  have hB : Below w.heap.size w w1 := by (repeat' (first | (with_reducible exact Below.refl _ _) | (with_reducible refine below_alloc ?_) | (with_reducible refine below_drew ?_) | (with_reducible refine below_drewN ?_) | (with_reducible refine below_set (by first | (simp; done) | (simp; omega)) ?_) | (with_reducible refine below_call (by with_reducible assumption) ?_)))
  exact ⟨_, rfl, HX.out.below hB, hB⟩
theorem takes_un {p : Prt} (h : takesT p = 1) : p.k = 3 ∨ p.k = 6 ∨ p.k = 5 := by
  by_cases h3 : p.k = 3
  · exact .inl h3
  · rcases takes1 h h3 with h | h
    · exact .inr (.inl h)
    · exact .inr (.inr h)
end Go.Proofs.YtenjkplijblcoaaGreatDoor

/- capstanref10.folded, of an operation of one value. -/
namespace Go.Proofs.YtenjkplijblcoaaGreatDoor
open Go.RowKit Cap
set_option maxRecDepth 100000

set_option maxHeartbeats 8000000 in
theorem folded_un (p : Prt) (A : Ex) (hT1 : takesT p = 1) (ih : FoldedC A) : FoldedC (.un p A) := by
  intro vx w hx h500 hte
  have hteP : takesT p = takesE p := hte p (by simp [Ex.flat])
  have HTK := Lib.hid (fun W => (show Calls Tryz.prog 51 #[.agg #[.int .i64 p.k, .int .i64 p.n, .int .i64 p.t, .string p.s, .string p.f]] W fun e w' => e = .returned (.int .i64 1) ∧ Below W.heap.size W w' from by
    have h := rtakes_c p W
    rw [takesR6_E, ← hteP, hT1] at h
    exact h))
  obtain ⟨A0, c, rfl, -, -, -⟩ := (id hx)
  have hx' : Sl encPrt 5 w (.slice A0 (Ex.un p A).flat.length c) (A.flat ++ [p]) := hx
  have hAH := sl_ahead hx'
  obtain ⟨b, off, rfl, hL, hlc, hcm, hb, c0, c1, c2, c3, c4⟩ := sl_last hx'
  rw [hL] at hlc ⊢
  have hA5 : A.flat.length ≤ 499 := by simp only [Ex.flat, List.length_append, List.length_singleton] at h500; omega
  have hteA : ∀ q ∈ A.flat, takesT q = takesE q := fun q hq => hte q (by simp [Ex.flat, hq])
  have hCL := fun W (hW : Below w.heap.size w W) => ih _ W (hAH.below hW) (by omega) hteA
  obtain ⟨hl1, hl2⟩ := foldX_len A
  obtain ⟨LA, hLA⟩ : ∃ L, foldX A = L := ⟨_, rfl⟩
  have HLA := Lib.hid hLA
  rw [hLA] at hCL hl1 hl2
  have hla1 : 0 < LA.length := by omega
  obtain ⟨NA, hNA⟩ : ∃ n, A.flat.length = n := ⟨_, rfl⟩
  rw [hNA] at hlc hCL hA5 hl2 c0 c1 c2 c3 c4 ⊢
  obtain ⟨LB, hLB⟩ : ∃ L : List Prt, L = [] := ⟨[], rfl⟩
  have hlb0 : LB.length = 0 := by rw [hLB]; rfl
  have HCL := Lib.hid hCL
  have hcz : ((NA + 1 : Nat) : Int) ≤ (c : Int) := by omega
  have hNz : (NA : Int) ≤ (c : Int) := by omega
  have hN0 : (0 : Int) ≤ (NA : Int) := Int.natCast_nonneg _
  have hzz : ((NA + 1 : Nat) : Int) - 1 = (NA : Int) := by omega
  have h65 := takes_un hT1
  clear hx hx' hL hAH h500 hte hteA hNA ih hCL hLA hteP
  have HB0' := below_alloc (o := .cells #[.int .i64 p.k, .int .i64 p.n, .int .i64 p.t, .string p.s, .string p.f] 38) (Below.refl w.heap.size w)
  go_enter Tryz.func30, Tryz.ntmps30
  go_upto_region 13 with (first | (go_at_call 51; refine (HTK.out _).mono ?_; rintro e w1 ⟨rfl, hb1⟩) | (go_at_call 30; refine (HCL.out _ (by (repeat' (first | (with_reducible exact Below.refl _ _) | (with_reducible refine below_alloc ?_) | (with_reducible refine below_drew ?_) | (with_reducible refine below_drewN ?_) | (with_reducible refine below_set (by first | (simp; done) | (simp; omega)) ?_) | (with_reducible refine below_call (by with_reducible assumption) ?_))))).mono ?_; rintro e wc ⟨va, rfl, hSA, hb2⟩; have HSA' := Lib.hid hSA; obtain ⟨Aa, ca, rfl, hal, ham, hac⟩ := hSA; obtain ⟨qa, hqa⟩ : ∃ q, LA[0]? = some q := ⟨LA[0], List.getElem?_eq_getElem hla1⟩; obtain ⟨ba, oa, rfl, hba, hca⟩ := hac 0 qa hqa))
  rename_i K0 hK0
  have a0 : wc.cell? ⟨ba, oa, none⟩ = some (.int .i64 qa.k) := by simpa using hca 0 _ rfl
  have HB0 := Lib.hid (show Below (w.alloc (.cells #[.int .i64 p.k, .int .i64 p.n, .int .i64 p.t, .string p.s, .string p.f] 38)).heap.size (w.alloc (.cells #[.int .i64 p.k, .int .i64 p.n, .int .i64 p.t, .string p.s, .string p.f] 38)) wc by (repeat' (first | (with_reducible exact Below.refl _ _) | (with_reducible refine below_alloc ?_) | (with_reducible refine below_drew ?_) | (with_reducible refine below_drewN ?_) | (with_reducible refine below_set (by first | (simp; done) | (simp; omega)) ?_) | (with_reducible refine below_call (by with_reducible assumption) ?_))))
  have HBW := Lib.hid (show Below w.heap.size w wc from below_call HB0.out HB0')
  have HSA := Lib.hid (fun W (hW : Below wc.heap.size wc W) => HSA'.out.below hW)
  have HSB := Lib.hid (show ∀ W, Below wc.heap.size wc W → Sl encPrt 5 W (.slice none 0 0) LB from fun W _ => by rw [hLB]; exact Sl.nil _ _ _)
  have HPB := Lib.hid (show ∀ W, Below wc.heap.size wc W → W.cell? ⟨w.heap.size, 0, none⟩ = some (.int .i64 p.k) ∧ W.cell? ⟨w.heap.size, 1, none⟩ = some (.int .i64 p.n) ∧ W.cell? ⟨w.heap.size, 2, none⟩ = some (.int .i64 p.t) ∧ W.cell? ⟨w.heap.size, 3, none⟩ = some (.string p.s) ∧ W.cell? ⟨w.heap.size, 4, none⟩ = some (.string p.f) from fun W hW => by
    have h : ∀ j, W.cell? ⟨w.heap.size, j, none⟩ = (w.alloc (.cells #[.int .i64 p.k, .int .i64 p.n, .int .i64 p.t, .string p.s, .string p.f] 38)).cell? ⟨w.heap.size, j, none⟩ := fun j => (below_call hW HB0.out).cell (p := ⟨w.heap.size, j, none⟩) (by simp)
    simp only [h, World.cell?_alloc_at _ _ _ _ rfl]
    exact ⟨rfl, rfl, rfl, rfl, rfl⟩)
  clear hb1 hb2 HB0' HCL hac hca c0 c1 c2 c3 c4
  refine wp_region_treeF2 (by kernel_rfl) _ _ (dropLast_last _ (by simp)) (by kernel_rfl) (by simp) (foldF wc.heap.size (.slice (some ⟨ba, oa, none⟩) LA.length ca) (.slice none 0 0) LA LB p) 45 49 43 _ _ rfl ?_ ?_
  · dsimp only [List.dropLast]
    refine ⟨fun a w' hJ hD K' hK => ?_, ?_⟩
    · exact tree2_next foldF_below hJ (Nat.le_of_ble_eq_true rfl) (Nat.le_of_ble_eq_true rfl) (by decide) (by decide) hK _ _ (below_alloc (Below.refl _ _)) ⟨_, rfl, hJ.base.b.size, heap_alloc_new _ _⟩ |> wp_val (v := .slice (some ⟨w'.heap.size, 0, none⟩) 0 0) (w' := w'.alloc (.cells #[] 38)) (by go_simp)
    refine ⟨fun a w' hJ hD K' hK => ?_, ?_⟩
    · have hx := raw (show a.eval (.tmp 7) = .slice (some ⟨ba, oa, none⟩) LA.length ca from hJ.base.old 7 (.inl (by decide)))
      exact tree2_next foldF_below hJ (Nat.le_of_ble_eq_true rfl) (Nat.le_of_ble_eq_true rfl) (by decide) (by decide) hK _ _ (Below.refl _ _) rfl |> wp_val (v := .slice (some ⟨ba, oa, none⟩) LA.length ca) (w' := w') (by go_simp)
    refine ⟨fun a w' hJ hD K' hK => ?_, ?_⟩
    · obtain ⟨d0, d1, -⟩ := hD
      have hl : LitAt wc.heap.size 38 w' (a.eval (.tmp 43)) := (d0 rfl).1
      have hsrc : a.eval (.tmp 44) = .slice (some ⟨ba, oa, none⟩) LA.length ca := (d1 rfl).1
      refine wp_lit_new w' (.tmp 43) (.tmp 44) 23 rfl wc.heap.size 38 _ 5 56 Tryz.underlying23 info_prt rfl (by decide) encPrt encPrt_len one_Prt hl LA (by rw [hsrc]; exact HSA.out _ hJ.base.b) hla1 (by unfold maxLen; omega) (by omega) ?_
      intro v1 w1' ho hb
      exact tree2_row foldF_below hJ (Nat.le_of_ble_eq_true rfl) (Nat.le_of_ble_eq_true rfl) rfl (by decide) foldF_lit hK _ _ hb (own_base ho hJ.base.b.size) (own_blk ho)
    refine ⟨fun a w' hJ hD K' hK => ?_, ?_⟩
    · have hx := raw (show a.eval (.tmp 8) = .slice none 0 0 from hJ.base.old 8 (.inl (by decide)))
      exact tree2_next foldF_below hJ (Nat.le_of_ble_eq_true rfl) (Nat.le_of_ble_eq_true rfl) (by decide) (by decide) hK _ _ (Below.refl _ _) rfl |> wp_val (v := .slice none 0 0) (w' := w') (by go_simp)
    refine ⟨fun a w' hJ hD K' hK => ?_, ?_⟩
    · obtain ⟨d2, d3, -⟩ := hD
      have ho2 : w'.ownsRow wc.heap.size 38 5 (a.eval (.tmp 45)) LA.length (LA.flatMap encPrt) := (d2 rfl).1
      have hsrc : a.eval (.tmp 46) = .slice none 0 0 := (d3 rfl).1
      refine wp_own_app w' (.tmp 45) (.tmp 46) 23 rfl wc.heap.size 38 _ 5 56 Tryz.underlying23 info_prt rfl (by decide) encPrt encPrt_len one_Prt _ _ _ rfl ho2 _ LB hsrc (HSB.out _ hJ.base.b) (by unfold maxLen; omega) (by omega) hJ.base.b.size ?_
      intro v1 w1' ho hg'
      refine tree2_turn hJ (Nat.le_of_ble_eq_true rfl) (Nat.le_of_ble_eq_true rfl) (by decide) (by decide) hK _ _ ((Below.refl _ _).grown hg' hJ.base.b.size (own_ge ho2 (Nat.le_refl _))) hg'.size ho (fun j hj hkp u hu hdis => ?_)
      have hm := keep_only [5, 6] (by kernel_rfl) hj hkp
      simp only [List.mem_cons, List.not_mem_nil, or_false] at hm
      rcases hm with rfl | rfl
      · exact hu
      · obtain ⟨B, rfl, hh⟩ := hu
        refine ⟨B, rfl, (hg'.block B (Array.getElem?_eq_some_iff.1 hh).1 (fun e => ?_)).trans hh⟩
        exact hdis rfl B e.symm rfl
    refine ⟨fun a w' hJ hD K' hK => ?_, ?_⟩
    · have hx := raw (show a.eval (.tmp 4) = .pointer (some ⟨w.heap.size, 0, none⟩) from hJ.base.old 4 (.inl (by decide)))
      obtain ⟨e0, e1, e2, e3, e4⟩ := HPB.out w' hJ.base.b
      exact tree2_next foldF_below hJ (Nat.le_of_ble_eq_true rfl) (Nat.le_of_ble_eq_true rfl) (by decide) (by decide) hK _ _ (Below.refl _ _) rfl |> wp_val (v := .agg #[.int .i64 p.k, .int .i64 p.n, .int .i64 p.t, .string p.s, .string p.f]) (w' := w') (by go_simp)
    refine ⟨fun a w' hJ hD K' hK => ?_, ?_⟩
    · obtain ⟨d0, -⟩ := hD
      have hx := raw (show a.eval (.tmp 48) = .agg #[.int .i64 p.k, .int .i64 p.n, .int .i64 p.t, .string p.s, .string p.f] from (d0 rfl).1)
      exact tree2_lit foldF_below hJ (Nat.le_of_ble_eq_true rfl) (Nat.le_of_ble_eq_true rfl) rfl (by decide) hK _ _ (below_alloc (Below.refl _ _)) ⟨_, rfl, heap_alloc_new _ _⟩ (fun g hg => by simp [Value.ownBlock] at hg; omega) |> wp_val (v := .slice (some ⟨w'.heap.size, 0, none⟩) 1 1) (w' := w'.alloc (.cells #[.int .i64 p.k, .int .i64 p.n, .int .i64 p.t, .string p.s, .string p.f] 38)) (by go_simp)
    refine ⟨fun a w' hJ hD K' hK => ?_, trivial⟩
    · obtain ⟨d4, d6, -⟩ := hD
      have ho4 : w'.ownsRow wc.heap.size 38 5 (a.eval (.tmp 47)) (LA.length + LB.length) (LA.flatMap encPrt ++ LB.flatMap encPrt) := (d4 rfl).1
      obtain ⟨B, hv6, hh6⟩ := (d6 rfl).1
      have hsl : Sl encPrt 5 w' (.slice (some ⟨B, 0, none⟩) 1 1) [p] := sl_block encPrt_len hh6 rfl
      refine wp_own_app w' (.tmp 47) (.tmp 49) 23 rfl wc.heap.size 38 _ 5 56 Tryz.underlying23 info_prt rfl (by decide) encPrt encPrt_len one_Prt _ _ _ rfl ho4 _ [p] hv6 hsl (by unfold maxLen; simp; omega) (by simp; omega) hJ.base.b.size ?_
      intro v1 w1' ho hg'
      exact tree2_root hJ (Nat.le_of_ble_eq_true rfl) (Nat.le_of_ble_eq_true rfl) (by decide) (by decide) (by kernel_rfl) hK _ _ ((Below.refl _ _).grown hg' hJ.base.b.size (own_ge ho4 (Nat.le_refl _))) hg'.size ho
  · intro a' w' hJ hF K' hK
    refine wp_assign (x := .tmp 50) rfl ?_
    change K' (a'.put (some 9) (a'.eval (.tmp 50))) w'
    refine hK _ _ ?_
    change w'.ownsRow wc.heap.size 38 5 (a'.eval (.tmp 50)) (LA.length + LB.length + [p].length) (LA.flatMap encPrt ++ LB.flatMap encPrt ++ [p].flatMap encPrt) at hF
    generalize a'.eval (.tmp 50) = v at hF ⊢
    (obtain ⟨tl, htl, rfl⟩ := act_tree hJ (by simp); simp only [List.dropLast, List.length_cons, List.length_nil, Nat.reduceAdd, Nat.reduceSub] at htl; (iterate 8 (have htl2 := list_cons_of htl; clear htl; obtain ⟨_, tl, htl, rfl⟩ := htl2)); obtain rfl := List.eq_nil_of_length_eq_zero htl; simp only [Act.put, List.dropLast, List.length_cons, List.length_nil, Nat.reduceAdd, List.take_succ_cons, List.take_zero, List.drop_succ_cons, List.drop_zero, List.drop_nil, List.append_nil, List.cons_append, List.nil_append, List.setIfInBounds_toArray, List.set_cons_zero, List.set_cons_succ])
    have HO := Lib.hid (Sl.own encPrt_len (fold_own rfl hF) rfl)
    obtain ⟨A9, c9, rfl⟩ := own_slice hF
    have HJ := Lib.hid hJ.b
    have HBF := Lib.hid (below_call hJ.b HBW.out)
    obtain ⟨e0, e1, e2, e3, e4⟩ := HPB.out w' hJ.b
    have hwl : w.heap.size < w'.heap.size := World.block_lt_of_cell? _ _ e0
    clear hF hJ
    obtain ⟨n9, hn9⟩ : ∃ n, LA.length + LB.length + [p].length = n := ⟨_, rfl⟩
    have HN9 := Lib.hid hn9
    rw [hn9]
    have HO := Lib.hid (show Sl encPrt 5 w' (.slice A9 n9 c9) (LA ++ LB ++ [p]) from by have h := HO.out; rw [hn9] at h; exact h)
    clear hn9
    show K0 _ _
    refine hK0 _ _ ?_
    have a0' : w'.cell? ⟨ba, oa, none⟩ = some (.int .i64 qa.k) := (HJ.out.cell (p := ⟨ba, oa, none⟩) hba).trans a0
    have HXM := Lib.hid (show LA ++ LB ++ [p] = LA ++ [p] by rw [hLB, List.append_nil])
    obtain ⟨la, hla⟩ : ∃ n, LA.length = n := ⟨_, rfl⟩
    have HLN := Lib.hid hla
    have HSA2 := Lib.hid (show Sl encPrt 5 w' (.slice (some ⟨ba, oa, none⟩) la ca) LA from by have h := HSA.out _ HJ.out; rw [hla] at h; exact h)
    rw [hla] at hla1 ⊢
    have hlz0 : (0 : Int) < (la : Int) := by omega
    clear hla hlb0
    by_cases h1 : la = 1
    case neg =>
      have hn1 : ¬ (la : Int) = 1 := by omega
      have hnb := ne_i hn1
      have HX := Lib.hid (show foldX (.un p A) = LA ++ [p] from foldX_un_more HLA.out (by rw [HLN.out]; exact h1))
      clear h1
      go_wp2
      go_ret
      exact ⟨_, rfl, by rw [HX.out, ← HXM.out]; exact HO.out.below (by (repeat' (first | (with_reducible exact Below.refl _ _) | (with_reducible refine below_alloc ?_) | (with_reducible refine below_drew ?_) | (with_reducible refine below_drewN ?_) | (with_reducible refine below_set (by first | (simp; done) | (simp; omega)) ?_) | (with_reducible refine below_call (by with_reducible assumption) ?_)))), below_call (by (repeat' (first | (with_reducible exact Below.refl _ _) | (with_reducible refine below_alloc ?_) | (with_reducible refine below_drew ?_) | (with_reducible refine below_drewN ?_) | (with_reducible refine below_set (by first | (simp; done) | (simp; omega)) ?_) | (with_reducible refine below_call (by with_reducible assumption) ?_)))) HBF.out⟩
    subst h1
    have hL1 : LA = [qa] := by
      have h := HLN.out
      match LA, h, hqa with
      | [x], _, h => simp at h; rw [h]
    have HX := Lib.hid (foldX_un_one (p := p) (HLA.out.trans hL1))
    have HOUT := Lib.hid (show LA ++ LB ++ [p] = [qa, p] by rw [HXM.out, hL1]; rfl)
    rw [hL1] at HSA2
    by_cases hk1 : qa.k = 1
    case neg =>
      have hkb := ne_i hk1
      have HX2 := Lib.hid (show foldX (.un p A) = [qa, p] by rw [HX.out, if_neg (fun h => hk1 h.1)])
      go_wp2
      go_ret
      exact ⟨_, rfl, by rw [HX2.out, ← HOUT.out]; exact HO.out.below (by (repeat' (first | (with_reducible exact Below.refl _ _) | (with_reducible refine below_alloc ?_) | (with_reducible refine below_drew ?_) | (with_reducible refine below_drewN ?_) | (with_reducible refine below_set (by first | (simp; done) | (simp; omega)) ?_) | (with_reducible refine below_call (by with_reducible assumption) ?_)))), below_call (by (repeat' (first | (with_reducible exact Below.refl _ _) | (with_reducible refine below_alloc ?_) | (with_reducible refine below_drew ?_) | (with_reducible refine below_drewN ?_) | (with_reducible refine below_set (by first | (simp; done) | (simp; omega)) ?_) | (with_reducible refine below_call (by with_reducible assumption) ?_)))) HBF.out⟩
    rw [hk1] at a0'
    rcases h65 with hk | hk | hk
    · have k3 : (p.k == 3) = true := by rw [hk]; rfl
      have HX2 := Lib.hid (show foldX (.un p A) = [qa, p] by
        rw [HX.out, if_neg]
        rintro ⟨_, h⟩
        unfold reckP at h
        rw [if_neg (by omega), if_neg (by omega), if_neg (by omega)] at h
        cases h)
      go_wp2
      go_ret
      exact ⟨_, rfl, by rw [HX2.out, ← HOUT.out]; exact HO.out.below (by (repeat' (first | (with_reducible exact Below.refl _ _) | (with_reducible refine below_alloc ?_) | (with_reducible refine below_drew ?_) | (with_reducible refine below_drewN ?_) | (with_reducible refine below_set (by first | (simp; done) | (simp; omega)) ?_) | (with_reducible refine below_call (by with_reducible assumption) ?_)))), below_call (by (repeat' (first | (with_reducible exact Below.refl _ _) | (with_reducible refine below_alloc ?_) | (with_reducible refine below_drew ?_) | (with_reducible refine below_drewN ?_) | (with_reducible refine below_set (by first | (simp; done) | (simp; omega)) ?_) | (with_reducible refine below_call (by with_reducible assumption) ?_)))) HBF.out⟩
    · have k3 : (p.k == 3) = false := by rw [hk]; rfl
      have HRK := Lib.hid (fun W (hW : Below w'.heap.size w' W) => (show Calls Tryz.prog 57 #[prtV p, .slice (some ⟨ba, oa, none⟩) 1 ca, .slice none 0 0] W (Rk3 W (numConvert qa.t p.t qa.n).1 p.t (numConvert qa.t p.t qa.n).2) from by
        have h := rreck10_6 p.n p.t p.s p.f qa (.slice (some ⟨ba, oa, none⟩) 1 ca) (.slice none 0 0) W (HSA2.out.below hW)
        rw [← hk] at h
        exact h))
      have HRP := Lib.hid (show reckP p [qa] = (numP (numConvert qa.t p.t qa.n).1 p.t, (numConvert qa.t p.t qa.n).2 == 0) by unfold reckP; rw [if_pos hk]; rfl)
      obtain ⟨⟨cn, ce⟩, hce⟩ : ∃ q, numConvert qa.t p.t qa.n = q := ⟨_, rfl⟩
      rw [hce] at HRK HRP
      obtain ⟨ct, hct⟩ : ∃ t : Int, p.t = t := ⟨_, rfl⟩
      rw [hct] at HRK HRP
      have HFIN := Lib.hid (show foldX (.un p A) = if ce = 0 then [numP cn ct] else [qa, p] by
        rw [HX.out, HRP.out]
        by_cases h0 : ce = 0
        · rw [if_pos ⟨hk1, by simp [h0]⟩, if_pos h0]
        · rw [if_neg (fun h => h0 (by simpa using h.2)), if_neg h0])
      ((try unfold Rk3 at HRK); (try unfold prtV at HRK); (try clear hres); clear hce hct; (try clear hk); (try clear hk1); (try clear hk2); by_cases h0 : ce = 0; (focus (subst h0; have HF0 := Lib.hid (HFIN.out.trans (if_pos rfl)); clear HFIN; go_wp2_with (go_at_call 57; refine (HRK.out _ (by (repeat' (first | (with_reducible exact Below.refl _ _) | (with_reducible refine below_alloc ?_) | (with_reducible refine below_drew ?_) | (with_reducible refine below_drewN ?_) | (with_reducible refine below_set (by first | (simp; done) | (simp; omega)) ?_) | (with_reducible refine below_call (by with_reducible assumption) ?_))))).mono ?_; rintro e w5 ⟨rfl, hb5⟩); go_ret; exact ⟨_, rfl, by rw [HF0.out]; exact Sl.lit encPrt_len w5 #[.int .i64 1, .int .i64 cn, .int .i64 ct, .string ⟨#[]⟩, .string ⟨#[]⟩] 38 1 [numP cn ct] rfl rfl (by simp), below_call (by (repeat' (first | (with_reducible exact Below.refl _ _) | (with_reducible refine below_alloc ?_) | (with_reducible refine below_drew ?_) | (with_reducible refine below_drewN ?_) | (with_reducible refine below_set (by first | (simp; done) | (simp; omega)) ?_) | (with_reducible refine below_call (by with_reducible assumption) ?_)))) HBF.out⟩)); (focus (have hcb := ne_i h0; have hcn : (ce != 0) = true := (by simpa using h0); have HF1 := Lib.hid (HFIN.out.trans (if_neg h0)); clear HFIN; go_wp2_with (go_at_call 57; refine (HRK.out _ (by (repeat' (first | (with_reducible exact Below.refl _ _) | (with_reducible refine below_alloc ?_) | (with_reducible refine below_drew ?_) | (with_reducible refine below_drewN ?_) | (with_reducible refine below_set (by first | (simp; done) | (simp; omega)) ?_) | (with_reducible refine below_call (by with_reducible assumption) ?_))))).mono ?_; rintro e w5 ⟨rfl, hb5⟩); go_ret; exact ⟨_, rfl, by rw [HF1.out, ← HOUT.out]; exact HO.out.below (by (repeat' (first | (with_reducible exact Below.refl _ _) | (with_reducible refine below_alloc ?_) | (with_reducible refine below_drew ?_) | (with_reducible refine below_drewN ?_) | (with_reducible refine below_set (by first | (simp; done) | (simp; omega)) ?_) | (with_reducible refine below_call (by with_reducible assumption) ?_)))), below_call (by (repeat' (first | (with_reducible exact Below.refl _ _) | (with_reducible refine below_alloc ?_) | (with_reducible refine below_drew ?_) | (with_reducible refine below_drewN ?_) | (with_reducible refine below_set (by first | (simp; done) | (simp; omega)) ?_) | (with_reducible refine below_call (by with_reducible assumption) ?_)))) HBF.out⟩)))
    · have k3 : (p.k == 3) = false := by rw [hk]; rfl
      have HRK := Lib.hid (fun W (hW : Below w'.heap.size w' W) => (show Calls Tryz.prog 57 #[prtV p, .slice (some ⟨ba, oa, none⟩) 1 ca, .slice none 0 0] W (Rk3 W (Cap.one p.n qa.t qa.n).1 (result p.n qa.t).1 (Cap.one p.n qa.t qa.n).2) from by
        have h := rreck10_51 p.n p.t p.s p.f qa (.slice (some ⟨ba, oa, none⟩) 1 ca) W (HSA2.out.below hW)
        rw [← hk] at h
        exact h))
      have HRP := Lib.hid (show reckP p [qa] = (numP (Cap.one p.n qa.t qa.n).1 qa.t, (Cap.one p.n qa.t qa.n).2 == 0) by unfold reckP; rw [if_neg (by omega), if_pos ⟨hk, rfl⟩]; rfl)
      have hres := @one_res p.n qa.t qa.n
      obtain ⟨⟨cn, ce⟩, hce⟩ : ∃ q, Cap.one p.n qa.t qa.n = q := ⟨_, rfl⟩
      rw [hce] at HRK HRP hres
      obtain ⟨ct, hct⟩ : ∃ t : Int, (result p.n qa.t).1 = t := ⟨_, rfl⟩
      rw [hct] at HRK hres
      have HFIN := Lib.hid (show foldX (.un p A) = if ce = 0 then [numP cn ct] else [qa, p] by
        rw [HX.out, HRP.out]
        by_cases h0 : ce = 0
        · rw [if_pos ⟨hk1, by simp [h0]⟩, if_pos h0, hres h0]
        · rw [if_neg (fun h => h0 (by simpa using h.2)), if_neg h0])
      ((try unfold Rk3 at HRK); (try unfold prtV at HRK); (try clear hres); clear hce hct; (try clear hk); (try clear hk1); (try clear hk2); by_cases h0 : ce = 0; (focus (subst h0; have HF0 := Lib.hid (HFIN.out.trans (if_pos rfl)); clear HFIN; go_wp2_with (go_at_call 57; refine (HRK.out _ (by (repeat' (first | (with_reducible exact Below.refl _ _) | (with_reducible refine below_alloc ?_) | (with_reducible refine below_drew ?_) | (with_reducible refine below_drewN ?_) | (with_reducible refine below_set (by first | (simp; done) | (simp; omega)) ?_) | (with_reducible refine below_call (by with_reducible assumption) ?_))))).mono ?_; rintro e w5 ⟨rfl, hb5⟩); go_ret; exact ⟨_, rfl, by rw [HF0.out]; exact Sl.lit encPrt_len w5 #[.int .i64 1, .int .i64 cn, .int .i64 ct, .string ⟨#[]⟩, .string ⟨#[]⟩] 38 1 [numP cn ct] rfl rfl (by simp), below_call (by (repeat' (first | (with_reducible exact Below.refl _ _) | (with_reducible refine below_alloc ?_) | (with_reducible refine below_drew ?_) | (with_reducible refine below_drewN ?_) | (with_reducible refine below_set (by first | (simp; done) | (simp; omega)) ?_) | (with_reducible refine below_call (by with_reducible assumption) ?_)))) HBF.out⟩)); (focus (have hcb := ne_i h0; have hcn : (ce != 0) = true := (by simpa using h0); have HF1 := Lib.hid (HFIN.out.trans (if_neg h0)); clear HFIN; go_wp2_with (go_at_call 57; refine (HRK.out _ (by (repeat' (first | (with_reducible exact Below.refl _ _) | (with_reducible refine below_alloc ?_) | (with_reducible refine below_drew ?_) | (with_reducible refine below_drewN ?_) | (with_reducible refine below_set (by first | (simp; done) | (simp; omega)) ?_) | (with_reducible refine below_call (by with_reducible assumption) ?_))))).mono ?_; rintro e w5 ⟨rfl, hb5⟩); go_ret; exact ⟨_, rfl, by rw [HF1.out, ← HOUT.out]; exact HO.out.below (by (repeat' (first | (with_reducible exact Below.refl _ _) | (with_reducible refine below_alloc ?_) | (with_reducible refine below_drew ?_) | (with_reducible refine below_drewN ?_) | (with_reducible refine below_set (by first | (simp; done) | (simp; omega)) ?_) | (with_reducible refine below_call (by with_reducible assumption) ?_)))), below_call (by (repeat' (first | (with_reducible exact Below.refl _ _) | (with_reducible refine below_alloc ?_) | (with_reducible refine below_drew ?_) | (with_reducible refine below_drewN ?_) | (with_reducible refine below_set (by first | (simp; done) | (simp; omega)) ?_) | (with_reducible refine below_call (by with_reducible assumption) ?_)))) HBF.out⟩)))
end Go.Proofs.YtenjkplijblcoaaGreatDoor

/- capstanref10.folded, of an operation of two values. -/
namespace Go.Proofs.YtenjkplijblcoaaGreatDoor
open Go.RowKit Cap
set_option maxRecDepth 100000

set_option maxHeartbeats 8000000 in
theorem folded_bin (p : Prt) (A B : Ex) (hT2 : takesT p = 2) (hB : B.Ok) (iha : FoldedC A) (ihb : FoldedC B) : FoldedC (.bin p A B) := by
  intro vx w hx h500 hte
  have hteP : takesT p = takesE p := hte p (by simp [Ex.flat])
  have HTK := Lib.hid (fun W => (show Calls Tryz.prog 51 #[.agg #[.int .i64 p.k, .int .i64 p.n, .int .i64 p.t, .string p.s, .string p.f]] W fun e w' => e = .returned (.int .i64 2) ∧ Below W.heap.size W w' from by
    have h := rtakes_c p W
    rw [takesR6_E, ← hteP, hT2] at h
    exact h))
  obtain ⟨A0, c, rfl, -, -, -⟩ := (id hx)
  have hx' : Sl encPrt 5 w (.slice A0 (Ex.bin p A B).flat.length c) ((A.flat ++ B.flat) ++ [p]) := hx
  have hteB : ∀ q ∈ B.flat, takesT q = takesE q := fun q hq => hte q (by simp [Ex.flat, hq])
  have hteA : ∀ q ∈ A.flat, takesT q = takesE q := fun q hq => hte q (by simp [Ex.flat, hq])
  have hfr := from_bin (a := A) (p := p) hB hteB
  have hFR := fun W (hW : Below w.heap.size w W) => rfrom_c (A.flat ++ B.flat ++ [p]) (A.flat.length + B.flat.length) _ W (hx'.below hW) h500 (by simp)
  rw [hfr] at hFR
  have hAB := sl_ahead hx'
  obtain ⟨b, off, rfl, hL, hlc, hcm, hb, c0, c1, c2, c3, c4⟩ := sl_last hx'
  rw [hL] at hlc hFR ⊢
  have hSA0 : Sl encPrt 5 w (.slice (some ⟨b, off, none⟩) A.flat.length c) A.flat := by
    have h := hAB.first (m := A.flat.length) (by simp)
    rwa [List.take_left] at h
  have hSB0 : Sl encPrt 5 w (.slice (some ⟨b, off + A.flat.length * 5, none⟩) B.flat.length (c - A.flat.length)) B.flat := by
    have h := hAB.drop A.flat.length (by simp)
    rw [List.drop_left] at h
    have e : (A.flat ++ B.flat).length - A.flat.length = B.flat.length := by simp
    rw [e] at h
    exact h
  have hl500 : A.flat.length + B.flat.length ≤ 499 := by simp only [Ex.flat, List.length_append, List.length_singleton] at h500; omega
  have hCA := fun W (hW : Below w.heap.size w W) => iha _ W (hSA0.below hW) (by omega) hteA
  have hCB := fun W (hW : Below w.heap.size w W) => ihb _ W (hSB0.below hW) (by omega) hteB
  obtain ⟨hl1, hl2⟩ := foldX_len A
  obtain ⟨hm1, hm2⟩ := foldX_len B
  obtain ⟨LA, hLA⟩ : ∃ L, foldX A = L := ⟨_, rfl⟩
  obtain ⟨LB, hLB⟩ : ∃ L, foldX B = L := ⟨_, rfl⟩
  have HLA := Lib.hid hLA
  have HLB := Lib.hid hLB
  rw [hLA] at hCA hl1 hl2
  rw [hLB] at hCB hm1 hm2
  have hla1 : 0 < LA.length := by omega
  have hlb1 : 0 < LB.length := by omega
  obtain ⟨m, hm⟩ : ∃ m, A.flat.length = m := ⟨_, rfl⟩
  obtain ⟨nb, hnb⟩ : ∃ m, B.flat.length = m := ⟨_, rfl⟩
  rw [List.length_append] at c0 c1 c2 c3 c4 hlc
  rw [List.length_append] at hFR
  rw [List.length_append]
  rw [hm] at c0 c1 c2 c3 c4 hlc hl500 hl2 hCA hCB hFR ⊢
  rw [hnb] at c0 c1 c2 c3 c4 hlc hl500 hm2 hCB hFR ⊢
  obtain ⟨N, hN⟩ : ∃ n, m + nb = n := ⟨_, rfl⟩
  rw [hN] at c0 c1 c2 c3 c4 hlc hFR hl500 ⊢
  have HFR := Lib.hid hFR
  have HCA := Lib.hid hCA
  have HCB := Lib.hid hCB
  have hcz : ((N + 1 : Nat) : Int) ≤ (c : Int) := by omega
  have hNc : (N : Int) ≤ (c : Int) := by omega
  have hN0 : (0 : Int) ≤ (N : Int) := Int.natCast_nonneg _
  have hzz : ((N + 1 : Nat) : Int) - 1 = (N : Int) := by omega
  have hm0 : (0 : Int) ≤ (m : Int) := Int.natCast_nonneg _
  have hmc : (m : Int) ≤ (c : Int) := by omega
  have hmN : (m : Int) ≤ (N : Int) := by omega
  have hcm1 : ¬ c = m := by omega
  have hNm : N - m = nb := by omega
  have hNz : (N : Int) < ((N + 1 : Nat) : Int) := by omega
  have HKK := Lib.hid (takes2 hT2)
  clear hx hx' hL hAB hSA0 hSB0 h500 hte hteA hteB iha ihb hCA hCB hFR hfr hLA hLB hteP hm hnb hT2
  have HB0' := below_alloc (o := .cells #[.int .i64 p.k, .int .i64 p.n, .int .i64 p.t, .string p.s, .string p.f] 38) (Below.refl w.heap.size w)
  go_enter Tryz.func30, Tryz.ntmps30
  go_upto_region 13 with (first | (go_at_call 51; refine (HTK.out _).mono ?_; rintro e w1 ⟨rfl, hb1⟩) | (go_at_call 56; refine (HFR.out _ (by (repeat' (first | (with_reducible exact Below.refl _ _) | (with_reducible refine below_alloc ?_) | (with_reducible refine below_drew ?_) | (with_reducible refine below_drewN ?_) | (with_reducible refine below_set (by first | (simp; done) | (simp; omega)) ?_) | (with_reducible refine below_call (by with_reducible assumption) ?_))))).mono ?_; rintro e w2 ⟨rfl, hb2⟩) | (go_at_call_of 30 (Value.slice (some ⟨b, off, none⟩) m c); refine (HCA.out _ (by (repeat' (first | (with_reducible exact Below.refl _ _) | (with_reducible refine below_alloc ?_) | (with_reducible refine below_drew ?_) | (with_reducible refine below_drewN ?_) | (with_reducible refine below_set (by first | (simp; done) | (simp; omega)) ?_) | (with_reducible refine below_call (by with_reducible assumption) ?_))))).mono ?_; clear HCA; rintro e w3 ⟨va, rfl, hSA, hb3⟩; have HSA' := Lib.hid hSA; obtain ⟨Aa, ca, rfl, hal, ham, hac⟩ := hSA; obtain ⟨qa, hqa⟩ : ∃ q, LA[0]? = some q := ⟨LA[0], List.getElem?_eq_getElem hla1⟩; obtain ⟨ba, oa, rfl, hba, hca⟩ := hac 0 qa hqa) | (go_at_call 30; refine (HCB.out _ (by (repeat' (first | (with_reducible exact Below.refl _ _) | (with_reducible refine below_alloc ?_) | (with_reducible refine below_drew ?_) | (with_reducible refine below_drewN ?_) | (with_reducible refine below_set (by first | (simp; done) | (simp; omega)) ?_) | (with_reducible refine below_call (by with_reducible assumption) ?_))))).mono ?_; rintro e wc ⟨vb, rfl, hSB, hb4⟩; have HSB' := Lib.hid hSB; obtain ⟨Ab, cb, rfl, hbl, hbm, hbc⟩ := hSB; obtain ⟨qb, hqb⟩ : ∃ q, LB[0]? = some q := ⟨LB[0], List.getElem?_eq_getElem hlb1⟩; obtain ⟨bb, ob, rfl, hbb, hcb⟩ := hbc 0 qb hqb))
  rename_i K0 hK0
  have a0 : wc.cell? ⟨ba, oa, none⟩ = some (.int .i64 qa.k) := (hb4.cell (p := ⟨ba, oa, none⟩) hba).trans (by simpa using hca 0 _ rfl)
  have b0 : wc.cell? ⟨bb, ob, none⟩ = some (.int .i64 qb.k) := by simpa using hcb 0 _ rfl
  have hba2 : ba < wc.heap.size := World.block_lt_of_cell? _ _ a0
  have HB0 := Lib.hid (show Below (w.alloc (.cells #[.int .i64 p.k, .int .i64 p.n, .int .i64 p.t, .string p.s, .string p.f] 38)).heap.size (w.alloc (.cells #[.int .i64 p.k, .int .i64 p.n, .int .i64 p.t, .string p.s, .string p.f] 38)) wc by (repeat' (first | (with_reducible exact Below.refl _ _) | (with_reducible refine below_alloc ?_) | (with_reducible refine below_drew ?_) | (with_reducible refine below_drewN ?_) | (with_reducible refine below_set (by first | (simp; done) | (simp; omega)) ?_) | (with_reducible refine below_call (by with_reducible assumption) ?_))))
  have HBW := Lib.hid (show Below w.heap.size w wc from below_call HB0.out HB0')
  have HSA := Lib.hid (fun W (hW : Below wc.heap.size wc W) => (HSA'.out.below hb4).below hW)
  have HSB := Lib.hid (fun W (hW : Below wc.heap.size wc W) => HSB'.out.below hW)
  have HPB := Lib.hid (show ∀ W, Below wc.heap.size wc W → W.cell? ⟨w.heap.size, 0, none⟩ = some (.int .i64 p.k) ∧ W.cell? ⟨w.heap.size, 1, none⟩ = some (.int .i64 p.n) ∧ W.cell? ⟨w.heap.size, 2, none⟩ = some (.int .i64 p.t) ∧ W.cell? ⟨w.heap.size, 3, none⟩ = some (.string p.s) ∧ W.cell? ⟨w.heap.size, 4, none⟩ = some (.string p.f) from fun W hW => by
    have h : ∀ j, W.cell? ⟨w.heap.size, j, none⟩ = (w.alloc (.cells #[.int .i64 p.k, .int .i64 p.n, .int .i64 p.t, .string p.s, .string p.f] 38)).cell? ⟨w.heap.size, j, none⟩ := fun j => (below_call hW HB0.out).cell (p := ⟨w.heap.size, j, none⟩) (by simp)
    simp only [h, World.cell?_alloc_at _ _ _ _ rfl]
    exact ⟨rfl, rfl, rfl, rfl, rfl⟩)
  clear hb1 hb2 hb3 hb4 HB0' HCB hac hca hbc hcb c0 c1 c2 c3 c4
  refine wp_region_treeF2 (by kernel_rfl) _ _ (dropLast_last _ (by simp)) (by kernel_rfl) (by simp) (foldF wc.heap.size (.slice (some ⟨ba, oa, none⟩) LA.length ca) (.slice (some ⟨bb, ob, none⟩) LB.length cb) LA LB p) 45 49 43 _ _ rfl ?_ ?_
  · dsimp only [List.dropLast]
    refine ⟨fun a w' hJ hD K' hK => ?_, ?_⟩
    · exact tree2_next foldF_below hJ (Nat.le_of_ble_eq_true rfl) (Nat.le_of_ble_eq_true rfl) (by decide) (by decide) hK _ _ (below_alloc (Below.refl _ _)) ⟨_, rfl, hJ.base.b.size, heap_alloc_new _ _⟩ |> wp_val (v := .slice (some ⟨w'.heap.size, 0, none⟩) 0 0) (w' := w'.alloc (.cells #[] 38)) (by go_simp)
    refine ⟨fun a w' hJ hD K' hK => ?_, ?_⟩
    · have hx := raw (show a.eval (.tmp 7) = .slice (some ⟨ba, oa, none⟩) LA.length ca from hJ.base.old 7 (.inl (by decide)))
      exact tree2_next foldF_below hJ (Nat.le_of_ble_eq_true rfl) (Nat.le_of_ble_eq_true rfl) (by decide) (by decide) hK _ _ (Below.refl _ _) rfl |> wp_val (v := .slice (some ⟨ba, oa, none⟩) LA.length ca) (w' := w') (by go_simp)
    refine ⟨fun a w' hJ hD K' hK => ?_, ?_⟩
    · obtain ⟨d0, d1, -⟩ := hD
      have hl : LitAt wc.heap.size 38 w' (a.eval (.tmp 43)) := (d0 rfl).1
      have hsrc : a.eval (.tmp 44) = .slice (some ⟨ba, oa, none⟩) LA.length ca := (d1 rfl).1
      refine wp_lit_new w' (.tmp 43) (.tmp 44) 23 rfl wc.heap.size 38 _ 5 56 Tryz.underlying23 info_prt rfl (by decide) encPrt encPrt_len one_Prt hl LA (by rw [hsrc]; exact HSA.out _ hJ.base.b) hla1 (by unfold maxLen; omega) (by omega) ?_
      intro v1 w1' ho hb
      exact tree2_row foldF_below hJ (Nat.le_of_ble_eq_true rfl) (Nat.le_of_ble_eq_true rfl) rfl (by decide) foldF_lit hK _ _ hb (own_base ho hJ.base.b.size) (own_blk ho)
    refine ⟨fun a w' hJ hD K' hK => ?_, ?_⟩
    · have hx := raw (show a.eval (.tmp 8) = .slice (some ⟨bb, ob, none⟩) LB.length cb from hJ.base.old 8 (.inl (by decide)))
      exact tree2_next foldF_below hJ (Nat.le_of_ble_eq_true rfl) (Nat.le_of_ble_eq_true rfl) (by decide) (by decide) hK _ _ (Below.refl _ _) rfl |> wp_val (v := .slice (some ⟨bb, ob, none⟩) LB.length cb) (w' := w') (by go_simp)
    refine ⟨fun a w' hJ hD K' hK => ?_, ?_⟩
    · obtain ⟨d2, d3, -⟩ := hD
      have ho2 : w'.ownsRow wc.heap.size 38 5 (a.eval (.tmp 45)) LA.length (LA.flatMap encPrt) := (d2 rfl).1
      have hsrc : a.eval (.tmp 46) = .slice (some ⟨bb, ob, none⟩) LB.length cb := (d3 rfl).1
      refine wp_own_app w' (.tmp 45) (.tmp 46) 23 rfl wc.heap.size 38 _ 5 56 Tryz.underlying23 info_prt rfl (by decide) encPrt encPrt_len one_Prt _ _ _ rfl ho2 _ LB hsrc (HSB.out _ hJ.base.b) (by unfold maxLen; omega) (by omega) hJ.base.b.size ?_
      intro v1 w1' ho hg'
      refine tree2_turn hJ (Nat.le_of_ble_eq_true rfl) (Nat.le_of_ble_eq_true rfl) (by decide) (by decide) hK _ _ ((Below.refl _ _).grown hg' hJ.base.b.size (own_ge ho2 (Nat.le_refl _))) hg'.size ho (fun j hj hkp u hu hdis => ?_)
      have hm := keep_only [5, 6] (by kernel_rfl) hj hkp
      simp only [List.mem_cons, List.not_mem_nil, or_false] at hm
      rcases hm with rfl | rfl
      · exact hu
      · obtain ⟨B, rfl, hh⟩ := hu
        refine ⟨B, rfl, (hg'.block B (Array.getElem?_eq_some_iff.1 hh).1 (fun e => ?_)).trans hh⟩
        exact hdis rfl B e.symm rfl
    refine ⟨fun a w' hJ hD K' hK => ?_, ?_⟩
    · have hx := raw (show a.eval (.tmp 4) = .pointer (some ⟨w.heap.size, 0, none⟩) from hJ.base.old 4 (.inl (by decide)))
      obtain ⟨e0, e1, e2, e3, e4⟩ := HPB.out w' hJ.base.b
      exact tree2_next foldF_below hJ (Nat.le_of_ble_eq_true rfl) (Nat.le_of_ble_eq_true rfl) (by decide) (by decide) hK _ _ (Below.refl _ _) rfl |> wp_val (v := .agg #[.int .i64 p.k, .int .i64 p.n, .int .i64 p.t, .string p.s, .string p.f]) (w' := w') (by go_simp)
    refine ⟨fun a w' hJ hD K' hK => ?_, ?_⟩
    · obtain ⟨d0, -⟩ := hD
      have hx := raw (show a.eval (.tmp 48) = .agg #[.int .i64 p.k, .int .i64 p.n, .int .i64 p.t, .string p.s, .string p.f] from (d0 rfl).1)
      exact tree2_lit foldF_below hJ (Nat.le_of_ble_eq_true rfl) (Nat.le_of_ble_eq_true rfl) rfl (by decide) hK _ _ (below_alloc (Below.refl _ _)) ⟨_, rfl, heap_alloc_new _ _⟩ (fun g hg => by simp [Value.ownBlock] at hg; omega) |> wp_val (v := .slice (some ⟨w'.heap.size, 0, none⟩) 1 1) (w' := w'.alloc (.cells #[.int .i64 p.k, .int .i64 p.n, .int .i64 p.t, .string p.s, .string p.f] 38)) (by go_simp)
    refine ⟨fun a w' hJ hD K' hK => ?_, trivial⟩
    · obtain ⟨d4, d6, -⟩ := hD
      have ho4 : w'.ownsRow wc.heap.size 38 5 (a.eval (.tmp 47)) (LA.length + LB.length) (LA.flatMap encPrt ++ LB.flatMap encPrt) := (d4 rfl).1
      obtain ⟨B, hv6, hh6⟩ := (d6 rfl).1
      have hsl : Sl encPrt 5 w' (.slice (some ⟨B, 0, none⟩) 1 1) [p] := sl_block encPrt_len hh6 rfl
      refine wp_own_app w' (.tmp 47) (.tmp 49) 23 rfl wc.heap.size 38 _ 5 56 Tryz.underlying23 info_prt rfl (by decide) encPrt encPrt_len one_Prt _ _ _ rfl ho4 _ [p] hv6 hsl (by unfold maxLen; simp; omega) (by simp; omega) hJ.base.b.size ?_
      intro v1 w1' ho hg'
      exact tree2_root hJ (Nat.le_of_ble_eq_true rfl) (Nat.le_of_ble_eq_true rfl) (by decide) (by decide) (by kernel_rfl) hK _ _ ((Below.refl _ _).grown hg' hJ.base.b.size (own_ge ho4 (Nat.le_refl _))) hg'.size ho
  · intro a' w' hJ hF K' hK
    refine wp_assign (x := .tmp 50) rfl ?_
    change K' (a'.put (some 9) (a'.eval (.tmp 50))) w'
    refine hK _ _ ?_
    change w'.ownsRow wc.heap.size 38 5 (a'.eval (.tmp 50)) (LA.length + LB.length + [p].length) (LA.flatMap encPrt ++ LB.flatMap encPrt ++ [p].flatMap encPrt) at hF
    generalize a'.eval (.tmp 50) = v at hF ⊢
    (obtain ⟨tl, htl, rfl⟩ := act_tree hJ (by simp); simp only [List.dropLast, List.length_cons, List.length_nil, Nat.reduceAdd, Nat.reduceSub] at htl; (iterate 8 (have htl2 := list_cons_of htl; clear htl; obtain ⟨_, tl, htl, rfl⟩ := htl2)); obtain rfl := List.eq_nil_of_length_eq_zero htl; simp only [Act.put, List.dropLast, List.length_cons, List.length_nil, Nat.reduceAdd, List.take_succ_cons, List.take_zero, List.drop_succ_cons, List.drop_zero, List.drop_nil, List.append_nil, List.cons_append, List.nil_append, List.setIfInBounds_toArray, List.set_cons_zero, List.set_cons_succ])
    have HO := Lib.hid (Sl.own encPrt_len (fold_own rfl hF) rfl)
    obtain ⟨A9, c9, rfl⟩ := own_slice hF
    have HJ := Lib.hid hJ.b
    have HBF := Lib.hid (below_call hJ.b HBW.out)
    obtain ⟨e0, e1, e2, e3, e4⟩ := HPB.out w' hJ.b
    have hwl : w.heap.size < w'.heap.size := World.block_lt_of_cell? _ _ e0
    clear hF hJ
    obtain ⟨n9, hn9⟩ : ∃ n, LA.length + LB.length + [p].length = n := ⟨_, rfl⟩
    have HN9 := Lib.hid hn9
    rw [hn9]
    have HO := Lib.hid (show Sl encPrt 5 w' (.slice A9 n9 c9) (LA ++ LB ++ [p]) from by have h := HO.out; rw [hn9] at h; exact h)
    clear hn9
    show K0 _ _
    refine hK0 _ _ ?_
    have a0' : w'.cell? ⟨ba, oa, none⟩ = some (.int .i64 qa.k) := (HJ.out.cell (p := ⟨ba, oa, none⟩) hba2).trans a0
    have b0' : w'.cell? ⟨bb, ob, none⟩ = some (.int .i64 qb.k) := (HJ.out.cell (p := ⟨bb, ob, none⟩) hbb).trans b0
    obtain ⟨la, hla⟩ : ∃ n, LA.length = n := ⟨_, rfl⟩
    obtain ⟨lb, hlb⟩ : ∃ n, LB.length = n := ⟨_, rfl⟩
    have HLN := Lib.hid hla
    have HLM := Lib.hid hlb
    have HSA2 := Lib.hid (show Sl encPrt 5 w' (.slice (some ⟨ba, oa, none⟩) la ca) LA from by have h := HSA.out _ HJ.out; rw [hla] at h; exact h)
    have HSB2 := Lib.hid (show Sl encPrt 5 w' (.slice (some ⟨bb, ob, none⟩) lb cb) LB from by have h := HSB.out _ HJ.out; rw [hlb] at h; exact h)
    rw [hla] at hla1 ⊢
    rw [hlb] at hlb1 ⊢
    have hlz0 : (0 : Int) < (la : Int) := by omega
    have hmz0 : (0 : Int) < (lb : Int) := by omega
    clear hla hlb
    by_cases h1 : la = 1
    case neg =>
      have hn1 : ¬ (la : Int) = 1 := by omega
      have hnb := ne_i hn1
      have HX := Lib.hid (show foldX (.bin p A B) = LA ++ LB ++ [p] from foldX_bin_more HLA.out HLB.out (.inl (by rw [HLN.out]; exact h1)))
      clear h1
      go_wp2
      go_ret
      exact ⟨_, rfl, by rw [HX.out]; exact HO.out.below (by (repeat' (first | (with_reducible exact Below.refl _ _) | (with_reducible refine below_alloc ?_) | (with_reducible refine below_drew ?_) | (with_reducible refine below_drewN ?_) | (with_reducible refine below_set (by first | (simp; done) | (simp; omega)) ?_) | (with_reducible refine below_call (by with_reducible assumption) ?_)))), below_call (by (repeat' (first | (with_reducible exact Below.refl _ _) | (with_reducible refine below_alloc ?_) | (with_reducible refine below_drew ?_) | (with_reducible refine below_drewN ?_) | (with_reducible refine below_set (by first | (simp; done) | (simp; omega)) ?_) | (with_reducible refine below_call (by with_reducible assumption) ?_)))) HBF.out⟩
    subst h1
    have hL1 : LA = [qa] := by
      have h := HLN.out
      match LA, h, hqa with
      | [x], _, h => simp at h; rw [h]
    rw [hL1] at HSA2
    by_cases hk1 : qa.k = 1
    case neg =>
      have hkb := ne_i hk1
      have HX := Lib.hid (show foldX (.bin p A B) = LA ++ LB ++ [p] by
        by_cases h2 : LB.length = 1
        · have hM1 : LB = [qb] := by
            match LB, h2, hqb with
            | [x], _, h => simp at h; rw [h]
          rw [foldX_bin_one (HLA.out.trans hL1) (HLB.out.trans hM1), if_neg (fun h => hk1 h.1), hL1, hM1]
          rfl
        · exact foldX_bin_more HLA.out HLB.out (.inr h2))
      go_wp2
      go_ret
      exact ⟨_, rfl, by rw [HX.out]; exact HO.out.below (by (repeat' (first | (with_reducible exact Below.refl _ _) | (with_reducible refine below_alloc ?_) | (with_reducible refine below_drew ?_) | (with_reducible refine below_drewN ?_) | (with_reducible refine below_set (by first | (simp; done) | (simp; omega)) ?_) | (with_reducible refine below_call (by with_reducible assumption) ?_)))), below_call (by (repeat' (first | (with_reducible exact Below.refl _ _) | (with_reducible refine below_alloc ?_) | (with_reducible refine below_drew ?_) | (with_reducible refine below_drewN ?_) | (with_reducible refine below_set (by first | (simp; done) | (simp; omega)) ?_) | (with_reducible refine below_call (by with_reducible assumption) ?_)))) HBF.out⟩
    rw [hk1] at a0'
    by_cases h2 : lb = 1
    case neg =>
      have hn1 : ¬ (lb : Int) = 1 := by omega
      have hnb := ne_i hn1
      have HX := Lib.hid (show foldX (.bin p A B) = LA ++ LB ++ [p] from foldX_bin_more HLA.out HLB.out (.inr (by rw [HLM.out]; exact h2)))
      clear h2
      go_wp2
      go_ret
      exact ⟨_, rfl, by rw [HX.out]; exact HO.out.below (by (repeat' (first | (with_reducible exact Below.refl _ _) | (with_reducible refine below_alloc ?_) | (with_reducible refine below_drew ?_) | (with_reducible refine below_drewN ?_) | (with_reducible refine below_set (by first | (simp; done) | (simp; omega)) ?_) | (with_reducible refine below_call (by with_reducible assumption) ?_)))), below_call (by (repeat' (first | (with_reducible exact Below.refl _ _) | (with_reducible refine below_alloc ?_) | (with_reducible refine below_drew ?_) | (with_reducible refine below_drewN ?_) | (with_reducible refine below_set (by first | (simp; done) | (simp; omega)) ?_) | (with_reducible refine below_call (by with_reducible assumption) ?_)))) HBF.out⟩
    subst h2
    have hM1 : LB = [qb] := by
      have h := HLM.out
      match LB, h, hqb with
      | [x], _, h => simp at h; rw [h]
    rw [hM1] at HSB2
    have HX := Lib.hid (foldX_bin_one (p := p) (HLA.out.trans hL1) (HLB.out.trans hM1))
    have HOUT := Lib.hid (show LA ++ LB ++ [p] = [qa, qb, p] by rw [hL1, hM1]; rfl)
    by_cases hk2 : qb.k = 1
    case neg =>
      have hkb := ne_i hk2
      have HX2 := Lib.hid (show foldX (.bin p A B) = [qa, qb, p] by rw [HX.out, if_neg (fun h => hk2 h.2.1)])
      go_wp2
      go_ret
      exact ⟨_, rfl, by rw [HX2.out, ← HOUT.out]; exact HO.out.below (by (repeat' (first | (with_reducible exact Below.refl _ _) | (with_reducible refine below_alloc ?_) | (with_reducible refine below_drew ?_) | (with_reducible refine below_drewN ?_) | (with_reducible refine below_set (by first | (simp; done) | (simp; omega)) ?_) | (with_reducible refine below_call (by with_reducible assumption) ?_)))), below_call (by (repeat' (first | (with_reducible exact Below.refl _ _) | (with_reducible refine below_alloc ?_) | (with_reducible refine below_drew ?_) | (with_reducible refine below_drewN ?_) | (with_reducible refine below_set (by first | (simp; done) | (simp; omega)) ?_) | (with_reducible refine below_call (by with_reducible assumption) ?_)))) HBF.out⟩
    rw [hk2] at b0'
    have k3 : (p.k == 3) = false := by rw [HKK.out]; rfl
    have hk := HKK.out
    have HRK := Lib.hid (fun W (hW : Below w'.heap.size w' W) => (show Calls Tryz.prog 57 #[prtV p, .slice (some ⟨ba, oa, none⟩) 1 ca, .slice (some ⟨bb, ob, none⟩) 1 cb] W (Rk3 W (two p.n qa.t qa.n qb.n).1 (result p.n qa.t).1 (two p.n qa.t qa.n qb.n).2) from by
      have h := rreck10_52 p.n p.t p.s p.f qa qb (.slice (some ⟨ba, oa, none⟩) 1 ca) (.slice (some ⟨bb, ob, none⟩) 1 cb) W (HSA2.out.below hW) (HSB2.out.below hW)
      rw [← hk] at h
      exact h))
    have HRP := Lib.hid (show reckP p [qa, qb] = (numP (two p.n qa.t qa.n qb.n).1 (result p.n qa.t).1, (two p.n qa.t qa.n qb.n).2 == 0) by unfold reckP; rw [if_neg (by omega), if_neg (fun h => by simp at h), if_pos hk]; rfl)
    obtain ⟨⟨cn, ce⟩, hce⟩ : ∃ q, two p.n qa.t qa.n qb.n = q := ⟨_, rfl⟩
    rw [hce] at HRK HRP
    obtain ⟨ct, hct⟩ : ∃ t : Int, (result p.n qa.t).1 = t := ⟨_, rfl⟩
    rw [hct] at HRK HRP
    have HFIN := Lib.hid (show foldX (.bin p A B) = if ce = 0 then [numP cn ct] else [qa, qb, p] by
      rw [HX.out, HRP.out]
      by_cases h0 : ce = 0
      · rw [if_pos ⟨hk1, hk2, by simp [h0]⟩, if_pos h0]
      · rw [if_neg (fun h => h0 (by simpa using h.2.2)), if_neg h0])
    ((try unfold Rk3 at HRK); (try unfold prtV at HRK); (try clear hres); clear hce hct; (try clear hk); (try clear hk1); (try clear hk2); by_cases h0 : ce = 0; (focus (subst h0; have HF0 := Lib.hid (HFIN.out.trans (if_pos rfl)); clear HFIN; go_wp2_with (go_at_call 57; refine (HRK.out _ (by (repeat' (first | (with_reducible exact Below.refl _ _) | (with_reducible refine below_alloc ?_) | (with_reducible refine below_drew ?_) | (with_reducible refine below_drewN ?_) | (with_reducible refine below_set (by first | (simp; done) | (simp; omega)) ?_) | (with_reducible refine below_call (by with_reducible assumption) ?_))))).mono ?_; rintro e w5 ⟨rfl, hb5⟩); go_ret; exact ⟨_, rfl, by rw [HF0.out]; exact Sl.lit encPrt_len w5 #[.int .i64 1, .int .i64 cn, .int .i64 ct, .string ⟨#[]⟩, .string ⟨#[]⟩] 38 1 [numP cn ct] rfl rfl (by simp), below_call (by (repeat' (first | (with_reducible exact Below.refl _ _) | (with_reducible refine below_alloc ?_) | (with_reducible refine below_drew ?_) | (with_reducible refine below_drewN ?_) | (with_reducible refine below_set (by first | (simp; done) | (simp; omega)) ?_) | (with_reducible refine below_call (by with_reducible assumption) ?_)))) HBF.out⟩)); (focus (have hcb := ne_i h0; have hcn : (ce != 0) = true := (by simpa using h0); have HF1 := Lib.hid (HFIN.out.trans (if_neg h0)); clear HFIN; go_wp2_with (go_at_call 57; refine (HRK.out _ (by (repeat' (first | (with_reducible exact Below.refl _ _) | (with_reducible refine below_alloc ?_) | (with_reducible refine below_drew ?_) | (with_reducible refine below_drewN ?_) | (with_reducible refine below_set (by first | (simp; done) | (simp; omega)) ?_) | (with_reducible refine below_call (by with_reducible assumption) ?_))))).mono ?_; rintro e w5 ⟨rfl, hb5⟩); go_ret; exact ⟨_, rfl, by rw [HF1.out, ← HOUT.out]; exact HO.out.below (by (repeat' (first | (with_reducible exact Below.refl _ _) | (with_reducible refine below_alloc ?_) | (with_reducible refine below_drew ?_) | (with_reducible refine below_drewN ?_) | (with_reducible refine below_set (by first | (simp; done) | (simp; omega)) ?_) | (with_reducible refine below_call (by with_reducible assumption) ?_)))), below_call (by (repeat' (first | (with_reducible exact Below.refl _ _) | (with_reducible refine below_alloc ?_) | (with_reducible refine below_drew ?_) | (with_reducible refine below_drewN ?_) | (with_reducible refine below_set (by first | (simp; done) | (simp; omega)) ?_) | (with_reducible refine below_call (by with_reducible assumption) ?_)))) HBF.out⟩)))
end Go.Proofs.YtenjkplijblcoaaGreatDoor

/- capstanref10.folded, of an operation of any kind. -/
namespace Go.Proofs.YtenjkplijblcoaaGreatDoor
open Go.RowKit Cap
set_option maxRecDepth 100000

theorem folded10_c : ∀ T : Ex, T.Ok → FoldedC T
  | .leaf p, hT => folded_leaf p hT
  | .un p A, hT => folded_un p A hT.1 (folded10_c A hT.2)
  | .bin p A B, hT => folded_bin p A B hT.1 hT.2.2 (folded10_c A hT.2.1) (folded10_c B hT.2.2)
theorem ask_takes (vars : List Vr) : ∀ (T : Ex) (t : Int), (∀ p ∈ T.flat, takesT p = takesE p) → ∀ p ∈ (askX vars t T).flat, takesT p = takesE p
  | .leaf q, t, h, p, hp => by
    have hq := h q (by simp [Ex.flat])
    rw [askX] at hp
    split at hp
    · rw [Ex.flat, List.mem_singleton] at hp
      subst hp
      exact hq
    · rw [Ex.flat, List.mem_singleton] at hp
      subst hp
      exact hq
  | .un q A, t, h, p, hp => by
    rw [askX, Ex.flat, List.mem_append, List.mem_singleton] at hp
    rcases hp with hp | rfl
    · exact ask_takes vars A _ (fun r hr => h r (by simp [Ex.flat, hr])) p hp
    · exact h p (by simp [Ex.flat])
  | .bin q A B, t, h, p, hp => by
    rw [askX] at hp
    rw [Ex.flat, List.mem_append, List.mem_append, List.mem_singleton] at hp
    rcases hp with (hp | hp) | rfl
    · exact ask_takes vars A _ (fun r hr => h r (by simp [Ex.flat, hr])) p hp
    · exact ask_takes vars B _ (fun r hr => h r (by simp [Ex.flat, hr])) p hp
    · exact h p (by simp [Ex.flat])
/-- What Fold hands back. -/
def FoldRR (vars : List Vr) (x : List Prt) (t : Int) (w : World) (e : Ending) (w' : World) : Prop :=
  (if fitsX vars x t ≠ 0 then e = .returned (.tuple #[.slice none 0 0, .int .i64 (fitsX vars x t)])
    else ∃ v, e = .returned (.tuple #[v, .int .i64 0]) ∧ Sl encPrt 5 w' v (foldX (askX vars t (treeL x)))) ∧ Below w.heap.size w w'
set_option maxHeartbeats 1000000 in
theorem rfold_c (vars : List Vr) (x : List Prt) (t : Int) (vv vx : Value) (w : World) (hs : Sl encVr 5 w vv vars) (hx : Sl encPrt 5 w vx x) :
    Calls Tryz.prog 12 #[vv, vx, .int .i64 t] w (FoldRR vars x t w) := by
  have HRS := Lib.hid (fun W (hW : Below w.heap.size w W) => rresolve_c vars x t vv vx W (hs.below hW) (hx.below hW))
  unfold ResolveR at HRS
  unfold FoldRR
  obtain ⟨f, hf⟩ : ∃ f, fitsX vars x t = f := ⟨_, rfl⟩
  rw [hf] at HRS ⊢
  obtain ⟨Av, cv, rfl, -, -, -⟩ := hs
  obtain ⟨Ax, cx, rfl, -, -, -⟩ := hx
  by_cases hf0 : f = 0
  · subst hf0
    have hcx := fits_check hf
    obtain ⟨h500, _, hmay⟩ := check_in hcx
    obtain ⟨hTok, hTf⟩ := tree_in hcx
    have hlen : (askX vars t (treeL x)).flat.length ≤ 500 := by rw [ask_len, hTf]; exact h500
    have HFD := Lib.hid (fun (v : Value) (W : World) (h : Sl encPrt 5 W v (askX vars t (treeL x)).flat) => folded10_c (askX vars t (treeL x)) (ask_ok vars _ t hTok) v W h hlen (ask_takes vars _ t (by rw [hTf]; exact fun p hp => mayT_E (hmay p hp))))
    simp only [ne_eq, not_true_eq_false, if_false] at HRS ⊢
    clear hf hcx hTf hlen hTok hmay h500
    go_enter Tryz.func12, Tryz.ntmps12
    go_wp2_with (first | (go_at_call 10; refine (HRS.out _ (by (repeat' (first | (with_reducible exact Below.refl _ _) | (with_reducible refine below_alloc ?_) | (with_reducible refine below_drew ?_) | (with_reducible refine below_drewN ?_) | (with_reducible refine below_set (by first | (simp; done) | (simp; omega)) ?_) | (with_reducible refine below_call (by with_reducible assumption) ?_))))).mono ?_; rintro e w1 ⟨⟨v1, rfl, ho1⟩, hb1⟩) | (go_at_call 30; refine (HFD.out _ _ (Sl.own encPrt_len ho1 rfl)).mono ?_; rintro e w2 ⟨u, rfl, ho2, hb2⟩))
    go_ret2
    exact ⟨⟨u, rfl, ho2⟩, by (repeat' (first | (with_reducible exact Below.refl _ _) | (with_reducible refine below_alloc ?_) | (with_reducible refine below_drew ?_) | (with_reducible refine below_drewN ?_) | (with_reducible refine below_set (by first | (simp; done) | (simp; omega)) ?_) | (with_reducible refine below_call (by with_reducible assumption) ?_)))⟩
  · have hfb := ne_i hf0
    have hfn : (f != 0) = true := by simpa using hf0
    simp only [ne_eq, hf0, not_false_eq_true, if_true] at HRS ⊢
    clear hf
    go_enter Tryz.func12, Tryz.ntmps12
    go_wp2_with (go_at_call 10; refine (HRS.out _ (by (repeat' (first | (with_reducible exact Below.refl _ _) | (with_reducible refine below_alloc ?_) | (with_reducible refine below_drew ?_) | (with_reducible refine below_drewN ?_) | (with_reducible refine below_set (by first | (simp; done) | (simp; omega)) ?_) | (with_reducible refine below_call (by with_reducible assumption) ?_))))).mono ?_; rintro e w1 ⟨rfl, hb1⟩)
    go_ret2
    exact ⟨rfl, by (repeat' (first | (with_reducible exact Below.refl _ _) | (with_reducible refine below_alloc ?_) | (with_reducible refine below_drew ?_) | (with_reducible refine below_drewN ?_) | (with_reducible refine below_set (by first | (simp; done) | (simp; omega)) ?_) | (with_reducible refine below_call (by with_reducible assumption) ?_)))⟩
end Go.Proofs.YtenjkplijblcoaaGreatDoor
