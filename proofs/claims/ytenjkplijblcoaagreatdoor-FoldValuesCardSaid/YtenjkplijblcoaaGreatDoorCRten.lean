/- capstanref10.asked, of a part alone and of an operation of one value. -/
import Derived.Test.YtenjkplijblcoaaGreatDoorCRreck
import Derived.Test.YtenjkplijblcoaaGreatDoorCFKind
import Derived.Test.YtenjkplijblcoaaGreatDoorCFFold
import Derived.Test.YtenjkplijblcoaaGreatDoorCAsk
import Derived.Test.YtenjkplijblcoaaGreatDoorCRes
set_option linter.unusedSimpArgs false
set_option linter.unusedVariables false
namespace Go.Proofs.YtenjkplijblcoaaGreatDoor
open Go.RowKit Cap
set_option maxRecDepth 100000

/-- What asked hands back of a tree. -/
def AskedC (vars : List Vr) (T : Ex) : Prop := ∀ (t : Int) (vv vx : Value) (w : World), Sl encVr 5 w vv vars → Sl encPrt 5 w vx T.flat → T.flat.length ≤ 500 → (∀ p ∈ T.flat, takesT p = takesE p) →
  Calls Tryz.prog 28 #[vv, vx, .int .i64 t] w (fun e w' => ∃ v, e = .returned v ∧ w'.ownsRow w.heap.size 38 5 v (askX vars t T).flat.length ((askX vars t T).flat.flatMap encPrt) ∧ Below w.heap.size w w')
theorem row_lit1 (w : World) (p : Prt) (base : Nat) (hb : base ≤ w.heap.size) : (w.alloc (.cells #[.int .i64 p.k, .int .i64 p.n, .int .i64 p.t, .string p.s, .string p.f] 38)).ownsRow base 38 5 (.slice (some ⟨w.heap.size, 0, none⟩) 1 1) [p].length ([p].flatMap encPrt) :=
  World.ownsRow_lit w #[.int .i64 p.k, .int .i64 p.n, .int .i64 p.t, .string p.s, .string p.f] 1 hb (by decide) rfl
/-- The last part of a list, and what stands ahead of it. -/
theorem sl_last {w : World} {A : Option Addr} {L c : Nat} {xs : List Prt} {p : Prt} (h : Sl encPrt 5 w (.slice A L c) (xs ++ [p])) :
    ∃ b off, A = some ⟨b, off, none⟩ ∧ L = xs.length + 1 ∧ L ≤ c ∧ c ≤ 9223372036854775807 ∧ b < w.heap.size ∧ w.cell? ⟨b, off + xs.length * 5, none⟩ = some (.int .i64 p.k) ∧ w.cell? ⟨b, off + xs.length * 5 + 1, none⟩ = some (.int .i64 p.n) ∧
      w.cell? ⟨b, off + xs.length * 5 + 2, none⟩ = some (.int .i64 p.t) ∧ w.cell? ⟨b, off + xs.length * 5 + 3, none⟩ = some (.string p.s) ∧ w.cell? ⟨b, off + xs.length * 5 + 4, none⟩ = some (.string p.f) := by
  obtain ⟨A', c', e, h1, h2, h3⟩ := h
  injection e with e1 e2 e3
  subst e1 e2 e3
  obtain ⟨b, off, rfl, hb, hc⟩ := h3 xs.length p (by simp)
  refine ⟨b, off, rfl, by simp, by simpa using h1, h2, hb, by simpa using hc 0 _ rfl, by simpa using hc 1 _ rfl, by simpa using hc 2 _ rfl, by simpa using hc 3 _ rfl, by simpa using hc 4 _ rfl⟩
theorem sl_ahead {w : World} {A : Option Addr} {L c : Nat} {xs : List Prt} {p : Prt} (h : Sl encPrt 5 w (.slice A L c) (xs ++ [p])) : Sl encPrt 5 w (.slice A xs.length c) xs := by
  have := h.first (m := xs.length) (by simp)
  rwa [List.take_left] at this
set_option maxHeartbeats 2000000 in
theorem asked_leaf (vars : List Vr) (p : Prt) (hT : takesT p = 0) : AskedC vars (.leaf p) := by
  intro t vv vx w hs hx h500 hte
  obtain ⟨A, c, rfl, -, -, -⟩ := (id hx)
  obtain ⟨b, off, rfl, -, hlc, hcm, hb, c0, c1, c2, c3, c4⟩ := sl_last (xs := []) hx
  simp only [List.length_nil, Nat.zero_mul, Nat.add_zero] at c0 c1 c2 c3 c4
  have HX := Lib.hid (show askX vars t (.leaf p) = if p.k = 1 ∧ p.t = 0 then .leaf ⟨p.k, p.n, t, p.s, p.f⟩ else .leaf p from rfl)
  obtain ⟨Av, cv, rfl, -, -, -⟩ := hs
  have h3 : ¬ p.k = 3 := fun h => by simp [takesT, h] at hT
  have h6 : ¬ p.k = 6 := fun h => by simp [takesT, h] at hT
  have h5 : ¬ p.k = 5 := fun h => by
    unfold takesT at hT
    split at hT
    all_goals first | (cases hT; done) | (simp [h] at hT)
  obtain ⟨k, n, pt, s, f⟩ := p
  simp only at c0 c1 c2 c3 c4 h3 h5 h6 HX
  have b3 := ne_i h3
  have b5 := ne_i h5
  have b6 := ne_i h6
  rw [show (Ex.leaf ⟨k, n, pt, s, f⟩).flat.length = 1 from rfl] at hlc ⊢
  have hc1 : (1 : Int) ≤ (c : Int) := by omega
  clear hx h500 hte hT h3 h5 h6
  by_cases h1 : k = 1
  · subst h1
    by_cases h0 : pt = 0
    · subst h0
      have HX2 := Lib.hid (show askX vars t (.leaf ⟨1, n, 0, s, f⟩) = .leaf ⟨1, n, t, s, f⟩ by rw [HX.out, if_pos ⟨rfl, rfl⟩])
      clear HX
      go_enter Tryz.func28, Tryz.ntmps28
      go_wp2
      go_ret
      refine ⟨_, rfl, ?_, by (repeat' (first | (with_reducible exact Below.refl _ _) | (with_reducible refine below_alloc ?_) | (with_reducible refine below_drew ?_) | (with_reducible refine below_drewN ?_) | (with_reducible refine below_set (by first | (simp; done) | (simp; omega)) ?_) | (with_reducible refine below_call (by with_reducible assumption) ?_)))⟩
      rw [HX2.out]
      have h := row_lit1 (w.alloc (.cells #[.int .i64 1, .int .i64 n, .int .i64 t, .string s, .string f] 38)) ⟨1, n, t, s, f⟩ w.heap.size (by simp)
      simp only [World.size_alloc] at h
      exact h
    · have b0 := ne_i h0
      have HX2 := Lib.hid (show askX vars t (.leaf ⟨1, n, pt, s, f⟩) = .leaf ⟨1, n, pt, s, f⟩ by rw [HX.out, if_neg (fun h => h0 h.2)])
      clear HX
      go_enter Tryz.func28, Tryz.ntmps28
      go_wp2
      go_ret
      refine ⟨_, rfl, ?_, by (repeat' (first | (with_reducible exact Below.refl _ _) | (with_reducible refine below_alloc ?_) | (with_reducible refine below_drew ?_) | (with_reducible refine below_drewN ?_) | (with_reducible refine below_set (by first | (simp; done) | (simp; omega)) ?_) | (with_reducible refine below_call (by with_reducible assumption) ?_)))⟩
      rw [HX2.out]
      have h := row_lit1 (w.alloc (.cells #[.int .i64 1, .int .i64 n, .int .i64 pt, .string s, .string f] 38)) ⟨1, n, pt, s, f⟩ w.heap.size (by simp)
      simp only [World.size_alloc] at h
      exact h
  · have b1 := ne_i h1
    have HX2 := Lib.hid (show askX vars t (.leaf ⟨k, n, pt, s, f⟩) = .leaf ⟨k, n, pt, s, f⟩ by rw [HX.out, if_neg (fun h => h1 h.1)])
    clear HX
    go_enter Tryz.func28, Tryz.ntmps28
    go_wp2
    go_ret
    refine ⟨_, rfl, ?_, by (repeat' (first | (with_reducible exact Below.refl _ _) | (with_reducible refine below_alloc ?_) | (with_reducible refine below_drew ?_) | (with_reducible refine below_drewN ?_) | (with_reducible refine below_set (by first | (simp; done) | (simp; omega)) ?_) | (with_reducible refine below_call (by with_reducible assumption) ?_)))⟩
    rw [HX2.out]
    have h := row_lit1 (w.alloc (.cells #[.int .i64 k, .int .i64 n, .int .i64 pt, .string s, .string f] 38)) ⟨k, n, pt, s, f⟩ w.heap.size (by simp)
    simp only [World.size_alloc] at h
    exact h
/-- What each operation of the region leaves. -/
def ask6F (base : Nat) (vv vi : Value) (t q : Int) (L : List Prt) (p : Prt) : Nat → Value → World → Prop
  | 0, v, w => LitAt base 38 w v
  | 1, v, _ => v = vv
  | 2, v, _ => v = vi
  | 3, v, w => Sl encPrt 5 w v L
  | 4, v, w => w.ownsRow base 38 5 v L.length (L.flatMap encPrt)
  | 5, v, _ => v = prtV p
  | 6, v, w => Sl encPrt 5 w v [p]
  | 7, v, w => w.ownsRow base 38 5 v (L.length + [p].length) (L.flatMap encPrt ++ [p].flatMap encPrt)
  | _, _, _ => True
theorem ask6F_below {base : Nat} {vv vi : Value} {t q : Int} {L : List Prt} {p : Prt} (i : Nat) (v : Value) (w w' : World) (h : ask6F base vv vi t q L p i v w) (hb : Below w.heap.size w w') : ask6F base vv vi t q L p i v w' := by
  (revert h; unfold ask6F; split <;> intro h <;> first | exact h | exact LitAt.below h hb | exact own_below h hb | exact Sl.below h hb)
/-- What each operation of the region leaves. -/
def ask3F (base : Nat) (vv vi : Value) (t q : Int) (L : List Prt) (p : Prt) : Nat → Value → World → Prop
  | 0, v, w => LitAt base 38 w v
  | 1, v, _ => v = vv
  | 2, v, _ => v = vi
  | 3, v, _ => v = vv
  | 4, v, _ => v = vi
  | 5, v, _ => v = .int .i64 q
  | 6, v, w => Sl encPrt 5 w v L
  | 7, v, w => w.ownsRow base 38 5 v L.length (L.flatMap encPrt)
  | 8, v, _ => v = prtV p
  | 9, v, w => Sl encPrt 5 w v [p]
  | 10, v, w => w.ownsRow base 38 5 v (L.length + [p].length) (L.flatMap encPrt ++ [p].flatMap encPrt)
  | _, _, _ => True
theorem ask3F_below {base : Nat} {vv vi : Value} {t q : Int} {L : List Prt} {p : Prt} (i : Nat) (v : Value) (w w' : World) (h : ask3F base vv vi t q L p i v w) (hb : Below w.heap.size w w') : ask3F base vv vi t q L p i v w' := by
  (revert h; unfold ask3F; split <;> intro h <;> first | exact h | exact LitAt.below h hb | exact own_below h hb | exact Sl.below h hb)
/-- What each operation of the region leaves. -/
def ask5F (base : Nat) (vv vi : Value) (t q : Int) (L : List Prt) (p : Prt) : Nat → Value → World → Prop
  | 0, v, w => LitAt base 38 w v
  | 1, v, _ => v = vv
  | 2, v, _ => v = vi
  | 3, v, _ => v = .int .i64 t
  | 4, v, w => Sl encPrt 5 w v L
  | 5, v, w => w.ownsRow base 38 5 v L.length (L.flatMap encPrt)
  | 6, v, _ => v = prtV p
  | 7, v, w => Sl encPrt 5 w v [p]
  | 8, v, w => w.ownsRow base 38 5 v (L.length + [p].length) (L.flatMap encPrt ++ [p].flatMap encPrt)
  | _, _, _ => True
theorem ask5F_below {base : Nat} {vv vi : Value} {t q : Int} {L : List Prt} {p : Prt} (i : Nat) (v : Value) (w w' : World) (h : ask5F base vv vi t q L p i v w) (hb : Below w.heap.size w w') : ask5F base vv vi t q L p i v w' := by
  (revert h; unfold ask5F; split <;> intro h <;> first | exact h | exact LitAt.below h hb | exact own_below h hb | exact Sl.below h hb)
set_option maxHeartbeats 4000000 in
theorem asked_6 (vars : List Vr) (p : Prt) (A : Ex) (hk : p.k = 6) (ih : AskedC vars A) : AskedC vars (.un p A) := by
  intro t vv vx w hs hx h500 hte
  have hsA := hs
  obtain ⟨Av, cv, rfl, -, -, -⟩ := hs
  obtain ⟨A0, c, rfl, -, -, -⟩ := (id hx)
  have hx' : Sl encPrt 5 w (.slice A0 (Ex.un p A).flat.length c) (A.flat ++ [p]) := hx
  have HAH := Lib.hid (sl_ahead hx')
  obtain ⟨b, off, rfl, hL, hlc, hcm, hb, c0, c1, c2, c3, c4⟩ := sl_last hx'
  rw [hL] at hlc ⊢
  have hA5 : A.flat.length ≤ 499 := by simp only [Ex.flat, List.length_append, List.length_singleton] at h500; omega
  have hteA : ∀ q ∈ A.flat, takesT q = takesE q := fun q hq => hte q (by simp [Ex.flat, hq])
  have hteP : takesT p = takesE p := hte p (by simp [Ex.flat])
  have hnA := ask_len vars A
  obtain ⟨q, hq0⟩ : ∃ q : Int, q = 0 := ⟨0, rfl⟩
  obtain ⟨LT, hLT⟩ : ∃ L, (askX vars 3 A).flat = L := ⟨_, rfl⟩
  have HX := Lib.hid (show (askX vars t (.un p A)).flat = LT ++ [p] by rw [← hLT]; rw [askX, if_neg (by omega), if_pos hk]; rfl)
  have hLl : LT.length = A.flat.length := by rw [← hLT]; exact hnA _
  have HCL := Lib.hid (show ∀ W, Below w.heap.size w W → Calls Tryz.prog 28 #[.slice Av vars.length cv, .slice (some ⟨b, off, none⟩) A.flat.length c, .int .i64 3] W (fun e w' => ∃ v, e = .returned v ∧ w'.ownsRow W.heap.size 38 5 v LT.length (LT.flatMap encPrt) ∧ Below W.heap.size W w') from fun W hW => by
    have h := ih 3 _ _ W (hsA.below hW) (HAH.out.below hW) (by omega) hteA
    rw [hLT] at h
    exact h)
  obtain ⟨L, hLL⟩ : ∃ L, LT = L := ⟨_, rfl⟩
  have HLT := Lib.hid hLL
  obtain ⟨NA, hNA⟩ : ∃ n, A.flat.length = n := ⟨_, rfl⟩
  rw [hNA] at hlc hLl HCL HAH c0 c1 c2 c3 c4 ⊢
  rw [hLL] at HCL hLl
  have hL5 : L.length ≤ 499 := by omega
  have hcz : ((NA + 1 : Nat) : Int) ≤ (c : Int) := by omega
  have hNz : (NA : Int) ≤ (c : Int) := by omega
  have hN0 : (0 : Int) ≤ (NA : Int) := Int.natCast_nonneg _
  have hzz : ((NA + 1 : Nat) : Int) - 1 = (NA : Int) := by omega
  clear hx hx' hLT hLL hL h500 hte hteA hnA hNA hsA ih
  have k3 : (p.k == 3) = false := by rw [hk]; rfl
  have k1 : (p.k == 1) = false := by rw [hk]; rfl
  have k6 : (p.k == 6) = true := by rw [hk]; rfl
  clear hk hteP
  go_enter Tryz.func28, Tryz.ntmps28
  go_upto_region 12 with fail
  rename_i K0 hK0
  have HBW := Lib.hid (show Below w.heap.size w (w.alloc (.cells #[.int .i64 p.k, .int .i64 p.n, .int .i64 p.t, .string p.s, .string p.f] 38)) from below_alloc (Below.refl _ _))
  have HPB := Lib.hid (show ∀ W, Below (w.alloc (.cells #[.int .i64 p.k, .int .i64 p.n, .int .i64 p.t, .string p.s, .string p.f] 38)).heap.size (w.alloc (.cells #[.int .i64 p.k, .int .i64 p.n, .int .i64 p.t, .string p.s, .string p.f] 38)) W → W.cell? ⟨w.heap.size, 0, none⟩ = some (.int .i64 p.k) ∧ W.cell? ⟨w.heap.size, 1, none⟩ = some (.int .i64 p.n) ∧ W.cell? ⟨w.heap.size, 2, none⟩ = some (.int .i64 p.t) ∧ W.cell? ⟨w.heap.size, 3, none⟩ = some (.string p.s) ∧ W.cell? ⟨w.heap.size, 4, none⟩ = some (.string p.f) from fun W hW => by
    have h : ∀ j, W.cell? ⟨w.heap.size, j, none⟩ = (w.alloc (.cells #[.int .i64 p.k, .int .i64 p.n, .int .i64 p.t, .string p.s, .string p.f] 38)).cell? ⟨w.heap.size, j, none⟩ := fun j => hW.cell (p := ⟨w.heap.size, j, none⟩) (by simp)
    simp only [h, World.cell?_alloc_at _ _ _ _ rfl]
    exact ⟨rfl, rfl, rfl, rfl, rfl⟩)
  generalize hWc : w.alloc (.cells #[.int .i64 p.k, .int .i64 p.n, .int .i64 p.t, .string p.s, .string p.f] 38) = wc at HBW HPB ⊢
  refine wp_region_treeF (by kernel_rfl) _ _ (dropLast_last _ (by simp)) (by kernel_rfl) (by simp) (ask6F wc.heap.size (.slice Av vars.length cv) (.slice (some ⟨b, off, none⟩) NA c) t q L p) 46 _ _ ?_ ?_
  · dsimp only [List.dropLast]
    refine ⟨fun a w' hJ hD K' hK => ?_, ?_⟩
    · exact tree_next ask6F_below hJ (Nat.le_of_ble_eq_true rfl) (Nat.le_of_ble_eq_true rfl) hK _ _ (below_alloc (Below.refl _ _)) ⟨_, rfl, hJ.b.size, heap_alloc_new _ _⟩ |> wp_val (v := .slice (some ⟨w'.heap.size, 0, none⟩) 0 0) (w' := w'.alloc (.cells #[] 38)) (by go_simp)
    refine ⟨fun a w' hJ hD K' hK => ?_, ?_⟩
    · have hx := raw (show a.eval (.tmp 0) = .slice Av vars.length cv from hJ.old 0 (.inl (by decide)))
      exact tree_next ask6F_below hJ (Nat.le_of_ble_eq_true rfl) (Nat.le_of_ble_eq_true rfl) hK _ _ (Below.refl _ _) rfl |> wp_val (v := .slice Av vars.length cv) (w' := w') (by go_simp)
    refine ⟨fun a w' hJ hD K' hK => ?_, ?_⟩
    · have hx := raw (show a.eval (.tmp 9) = .slice (some ⟨b, off, none⟩) NA c from hJ.old 9 (.inl (by decide)))
      exact tree_next ask6F_below hJ (Nat.le_of_ble_eq_true rfl) (Nat.le_of_ble_eq_true rfl) hK _ _ (Below.refl _ _) rfl |> wp_val (v := .slice (some ⟨b, off, none⟩) NA c) (w' := w') (by go_simp)
    refine ⟨fun a w' hJ hD K' hK => ?_, ?_⟩
    · obtain ⟨d0, d1, -⟩ := hD
      have hx0 := raw (show a.eval (.tmp 47) = .slice Av vars.length cv from d0 rfl)
      have hx1 := raw (show a.eval (.tmp 48) = .slice (some ⟨b, off, none⟩) NA c from d1 rfl)
      refine wp_calls (w' := w') (f := 28) (args := #[.slice Av vars.length cv, .slice (some ⟨b, off, none⟩) NA c, .int .i64 3]) (by go_simp) (HCL.out w' (below_call hJ.b HBW.out)) ?_
      rintro e w5 ⟨v5, rfl, ho5, hb5⟩
      exact ⟨_, rfl, tree_next ask6F_below hJ (Nat.le_of_ble_eq_true rfl) (Nat.le_of_ble_eq_true rfl) hK _ _ hb5 (Sl.own encPrt_len ho5 rfl)⟩
    refine ⟨fun a w' hJ hD K' hK => ?_, ?_⟩
    · obtain ⟨d0, d1, -⟩ := hD
      have hl : LitAt wc.heap.size 38 w' (a.eval (.tmp 46)) := d0 rfl
      have hsl : Sl encPrt 5 w' (a.eval (.tmp 49)) L := d1 rfl
      refine wp_lit_app w' (.tmp 46) (.tmp 49) 23 rfl wc.heap.size 38 _ 5 56 Tryz.underlying23 info_prt rfl (by decide) encPrt encPrt_len one_Prt hl L hsl (by unfold maxLen; omega) (by omega) ?_
      intro v1 w1 ho hb
      exact tree_next ask6F_below hJ (Nat.le_of_ble_eq_true rfl) (Nat.le_of_ble_eq_true rfl) hK _ _ hb ho
    refine ⟨fun a w' hJ hD K' hK => ?_, ?_⟩
    · have hx := raw (show a.eval (.tmp 8) = .pointer (some ⟨w.heap.size, 0, none⟩) from hJ.old 8 (.inl (by decide)))
      obtain ⟨e0, e1, e2, e3, e4⟩ := HPB.out w' hJ.b
      exact tree_next ask6F_below hJ (Nat.le_of_ble_eq_true rfl) (Nat.le_of_ble_eq_true rfl) hK _ _ (Below.refl _ _) rfl |> wp_val (v := .agg #[.int .i64 p.k, .int .i64 p.n, .int .i64 p.t, .string p.s, .string p.f]) (w' := w') (by go_simp)
    refine ⟨fun a w' hJ hD K' hK => ?_, ?_⟩
    · obtain ⟨d0, -⟩ := hD
      have hx := raw (show a.eval (.tmp 51) = .agg #[.int .i64 p.k, .int .i64 p.n, .int .i64 p.t, .string p.s, .string p.f] from d0 rfl)
      exact tree_next ask6F_below hJ (Nat.le_of_ble_eq_true rfl) (Nat.le_of_ble_eq_true rfl) hK _ _ (below_alloc (Below.refl _ _)) (Sl.lit encPrt_len w' #[.int .i64 p.k, .int .i64 p.n, .int .i64 p.t, .string p.s, .string p.f] 38 1 [p] rfl rfl (by simp)) |> wp_val (v := .slice (some ⟨w'.heap.size, 0, none⟩) 1 1) (w' := w'.alloc (.cells #[.int .i64 p.k, .int .i64 p.n, .int .i64 p.t, .string p.s, .string p.f] 38)) (by go_simp)
    refine ⟨fun a w' hJ hD K' hK => ?_, trivial⟩
    · obtain ⟨d3, d5, -⟩ := hD
      have ho3 : w'.ownsRow wc.heap.size 38 5 (a.eval (.tmp 50)) L.length (L.flatMap encPrt) := d3 rfl
      have hsl : Sl encPrt 5 w' (a.eval (.tmp 52)) [p] := d5 rfl
      refine wp_own_app w' (.tmp 50) (.tmp 52) 23 rfl wc.heap.size 38 _ 5 56 Tryz.underlying23 info_prt rfl (by decide) encPrt encPrt_len one_Prt _ _ _ rfl ho3 _ [p] rfl hsl (by unfold maxLen; simp; omega) (by simp; omega) hJ.b.size ?_
      intro v1 w1 ho hg'
      exact tree_root hJ (Nat.le_of_ble_eq_true rfl) (Nat.le_of_ble_eq_true rfl) (by kernel_rfl) hK _ _ ((Below.refl _ _).grown hg' hJ.b.size (own_ge ho3 (Nat.le_refl _))) ho
  · intro a' w' hJ hF K' hK
    refine wp_assign (x := .tmp 53) rfl ?_
    change K' (a'.put (some 6) (a'.eval (.tmp 53))) w'
    refine hK _ _ ?_
    change w'.ownsRow wc.heap.size 38 5 (a'.eval (.tmp 53)) (L.length + [p].length) (L.flatMap encPrt ++ [p].flatMap encPrt) at hF
    generalize a'.eval (.tmp 53) = v at hF ⊢
    (obtain ⟨tl, htl, rfl⟩ := act_tree hJ (by simp); simp only [List.dropLast, List.length_cons, List.length_nil, Nat.reduceAdd, Nat.reduceSub] at htl; (iterate 8 (have htl2 := list_cons_of htl; clear htl; obtain ⟨_, tl, htl, rfl⟩ := htl2)); obtain rfl := List.eq_nil_of_length_eq_zero htl; simp only [Act.put, List.dropLast, List.length_cons, List.length_nil, Nat.reduceAdd, List.take_succ_cons, List.take_zero, List.drop_succ_cons, List.drop_zero, List.drop_nil, List.append_nil, List.cons_append, List.nil_append, List.setIfInBounds_toArray, List.set_cons_zero, List.set_cons_succ])
    have HF := Lib.hid hF
    have HJ := Lib.hid hJ.b
    clear hF hJ
    show K0 _ _
    refine hK0 _ _ ?_
    go_wp2
    go_ret
    refine ⟨_, rfl, ?_, below_call HJ.out HBW.out⟩
    rw [HX.out]
    show w'.ownsRow w.heap.size 38 5 v (LT ++ [p]).length ((LT ++ [p]).flatMap encPrt)
    rw [HLT.out, List.length_append, List.flatMap_append]
    exact own_base HF.out (by have := HBW.out.size; omega)
set_option maxHeartbeats 4000000 in
theorem asked_3 (vars : List Vr) (p : Prt) (A : Ex) (hk : p.k = 3) (ih : AskedC vars A) : AskedC vars (.un p A) := by
  intro t vv vx w hs hx h500 hte
  have hsA := hs
  obtain ⟨Av, cv, rfl, -, -, -⟩ := hs
  obtain ⟨A0, c, rfl, -, -, -⟩ := (id hx)
  have hx' : Sl encPrt 5 w (.slice A0 (Ex.un p A).flat.length c) (A.flat ++ [p]) := hx
  have HAH := Lib.hid (sl_ahead hx')
  obtain ⟨b, off, rfl, hL, hlc, hcm, hb, c0, c1, c2, c3, c4⟩ := sl_last hx'
  rw [hL] at hlc ⊢
  have hA5 : A.flat.length ≤ 499 := by simp only [Ex.flat, List.length_append, List.length_singleton] at h500; omega
  have hteA : ∀ q ∈ A.flat, takesT q = takesE q := fun q hq => hte q (by simp [Ex.flat, hq])
  have hteP : takesT p = takesE p := hte p (by simp [Ex.flat])
  have hnA := ask_len vars A
  have hix := fun W (hW : Below w.heap.size w W) => rindex_c vars A.flat (.slice Av vars.length cv) (.slice (some ⟨b, off, none⟩) A.flat.length c) W (hsA.below hW) (HAH.out.below hW)
  obtain ⟨q, hq0⟩ : ∃ q : Int, (if fitsX vars A.flat 2 = 0 then 2 else 3) = q := ⟨_, rfl⟩
  rw [hq0] at hix
  have HIX := Lib.hid hix
  clear hix
  obtain ⟨LT, hLT⟩ : ∃ L, (askX vars q A).flat = L := ⟨_, rfl⟩
  have HX := Lib.hid (show (askX vars t (.un p A)).flat = LT ++ [p] by rw [← hLT]; rw [askX, if_pos hk, hq0]; rfl)
  have hLl : LT.length = A.flat.length := by rw [← hLT]; exact hnA _
  have HCL := Lib.hid (show ∀ W, Below w.heap.size w W → Calls Tryz.prog 28 #[.slice Av vars.length cv, .slice (some ⟨b, off, none⟩) A.flat.length c, .int .i64 q] W (fun e w' => ∃ v, e = .returned v ∧ w'.ownsRow W.heap.size 38 5 v LT.length (LT.flatMap encPrt) ∧ Below W.heap.size W w') from fun W hW => by
    have h := ih q _ _ W (hsA.below hW) (HAH.out.below hW) (by omega) hteA
    rw [hLT] at h
    exact h)
  obtain ⟨L, hLL⟩ : ∃ L, LT = L := ⟨_, rfl⟩
  have HLT := Lib.hid hLL
  obtain ⟨NA, hNA⟩ : ∃ n, A.flat.length = n := ⟨_, rfl⟩
  rw [hNA] at hlc hLl HCL HAH c0 c1 c2 c3 c4 HIX ⊢
  rw [hLL] at HCL hLl
  have hL5 : L.length ≤ 499 := by omega
  have hcz : ((NA + 1 : Nat) : Int) ≤ (c : Int) := by omega
  have hNz : (NA : Int) ≤ (c : Int) := by omega
  have hN0 : (0 : Int) ≤ (NA : Int) := Int.natCast_nonneg _
  have hzz : ((NA + 1 : Nat) : Int) - 1 = (NA : Int) := by omega
  clear hx hx' hLT hLL hL h500 hte hteA hnA hNA hsA ih
  have k3 : (p.k == 3) = true := by rw [hk]; rfl
  have k1 : (p.k == 1) = false := by rw [hk]; rfl
  clear hk hteP
  go_enter Tryz.func28, Tryz.ntmps28
  go_upto_region 10 with fail
  rename_i K0 hK0
  have HBW := Lib.hid (show Below w.heap.size w (w.alloc (.cells #[.int .i64 p.k, .int .i64 p.n, .int .i64 p.t, .string p.s, .string p.f] 38)) from below_alloc (Below.refl _ _))
  have HPB := Lib.hid (show ∀ W, Below (w.alloc (.cells #[.int .i64 p.k, .int .i64 p.n, .int .i64 p.t, .string p.s, .string p.f] 38)).heap.size (w.alloc (.cells #[.int .i64 p.k, .int .i64 p.n, .int .i64 p.t, .string p.s, .string p.f] 38)) W → W.cell? ⟨w.heap.size, 0, none⟩ = some (.int .i64 p.k) ∧ W.cell? ⟨w.heap.size, 1, none⟩ = some (.int .i64 p.n) ∧ W.cell? ⟨w.heap.size, 2, none⟩ = some (.int .i64 p.t) ∧ W.cell? ⟨w.heap.size, 3, none⟩ = some (.string p.s) ∧ W.cell? ⟨w.heap.size, 4, none⟩ = some (.string p.f) from fun W hW => by
    have h : ∀ j, W.cell? ⟨w.heap.size, j, none⟩ = (w.alloc (.cells #[.int .i64 p.k, .int .i64 p.n, .int .i64 p.t, .string p.s, .string p.f] 38)).cell? ⟨w.heap.size, j, none⟩ := fun j => hW.cell (p := ⟨w.heap.size, j, none⟩) (by simp)
    simp only [h, World.cell?_alloc_at _ _ _ _ rfl]
    exact ⟨rfl, rfl, rfl, rfl, rfl⟩)
  generalize hWc : w.alloc (.cells #[.int .i64 p.k, .int .i64 p.n, .int .i64 p.t, .string p.s, .string p.f] 38) = wc at HBW HPB ⊢
  refine wp_region_treeF (by kernel_rfl) _ _ (dropLast_last _ (by simp)) (by kernel_rfl) (by simp) (ask3F wc.heap.size (.slice Av vars.length cv) (.slice (some ⟨b, off, none⟩) NA c) t q L p) 33 _ _ ?_ ?_
  · dsimp only [List.dropLast]
    refine ⟨fun a w' hJ hD K' hK => ?_, ?_⟩
    · exact tree_next ask3F_below hJ (Nat.le_of_ble_eq_true rfl) (Nat.le_of_ble_eq_true rfl) hK _ _ (below_alloc (Below.refl _ _)) ⟨_, rfl, hJ.b.size, heap_alloc_new _ _⟩ |> wp_val (v := .slice (some ⟨w'.heap.size, 0, none⟩) 0 0) (w' := w'.alloc (.cells #[] 38)) (by go_simp)
    refine ⟨fun a w' hJ hD K' hK => ?_, ?_⟩
    · have hx := raw (show a.eval (.tmp 0) = .slice Av vars.length cv from hJ.old 0 (.inl (by decide)))
      exact tree_next ask3F_below hJ (Nat.le_of_ble_eq_true rfl) (Nat.le_of_ble_eq_true rfl) hK _ _ (Below.refl _ _) rfl |> wp_val (v := .slice Av vars.length cv) (w' := w') (by go_simp)
    refine ⟨fun a w' hJ hD K' hK => ?_, ?_⟩
    · have hx := raw (show a.eval (.tmp 9) = .slice (some ⟨b, off, none⟩) NA c from hJ.old 9 (.inl (by decide)))
      exact tree_next ask3F_below hJ (Nat.le_of_ble_eq_true rfl) (Nat.le_of_ble_eq_true rfl) hK _ _ (Below.refl _ _) rfl |> wp_val (v := .slice (some ⟨b, off, none⟩) NA c) (w' := w') (by go_simp)
    refine ⟨fun a w' hJ hD K' hK => ?_, ?_⟩
    · have hx := raw (show a.eval (.tmp 0) = .slice Av vars.length cv from hJ.old 0 (.inl (by decide)))
      exact tree_next ask3F_below hJ (Nat.le_of_ble_eq_true rfl) (Nat.le_of_ble_eq_true rfl) hK _ _ (Below.refl _ _) rfl |> wp_val (v := .slice Av vars.length cv) (w' := w') (by go_simp)
    refine ⟨fun a w' hJ hD K' hK => ?_, ?_⟩
    · have hx := raw (show a.eval (.tmp 9) = .slice (some ⟨b, off, none⟩) NA c from hJ.old 9 (.inl (by decide)))
      exact tree_next ask3F_below hJ (Nat.le_of_ble_eq_true rfl) (Nat.le_of_ble_eq_true rfl) hK _ _ (Below.refl _ _) rfl |> wp_val (v := .slice (some ⟨b, off, none⟩) NA c) (w' := w') (by go_simp)
    refine ⟨fun a w' hJ hD K' hK => ?_, ?_⟩
    · obtain ⟨d0, d1, -⟩ := hD
      have hx := raw (show a.eval (.tmp 36) = .slice Av vars.length cv from d0 rfl)
      have hy := raw (show a.eval (.tmp 37) = .slice (some ⟨b, off, none⟩) NA c from d1 rfl)
      refine wp_calls (w' := w') (f := 50) (args := #[.slice Av vars.length cv, .slice (some ⟨b, off, none⟩) NA c]) (by go_simp) (HIX.out w' (below_call hJ.b HBW.out)) ?_
      rintro e w5 ⟨rfl, hb5⟩
      exact ⟨_, rfl, tree_next ask3F_below hJ (Nat.le_of_ble_eq_true rfl) (Nat.le_of_ble_eq_true rfl) hK _ _ hb5 rfl⟩
    refine ⟨fun a w' hJ hD K' hK => ?_, ?_⟩
    · obtain ⟨d0, d1, d2, -⟩ := hD
      have hx0 := raw (show a.eval (.tmp 34) = .slice Av vars.length cv from d0 rfl)
      have hx1 := raw (show a.eval (.tmp 35) = .slice (some ⟨b, off, none⟩) NA c from d1 rfl)
      have hx2 := raw (show a.eval (.tmp 38) = .int .i64 q from d2 rfl)
      refine wp_calls (w' := w') (f := 28) (args := #[.slice Av vars.length cv, .slice (some ⟨b, off, none⟩) NA c, .int .i64 q]) (by go_simp) (HCL.out w' (below_call hJ.b HBW.out)) ?_
      rintro e w5 ⟨v5, rfl, ho5, hb5⟩
      exact ⟨_, rfl, tree_next ask3F_below hJ (Nat.le_of_ble_eq_true rfl) (Nat.le_of_ble_eq_true rfl) hK _ _ hb5 (Sl.own encPrt_len ho5 rfl)⟩
    refine ⟨fun a w' hJ hD K' hK => ?_, ?_⟩
    · obtain ⟨d0, d1, -⟩ := hD
      have hl : LitAt wc.heap.size 38 w' (a.eval (.tmp 33)) := d0 rfl
      have hsl : Sl encPrt 5 w' (a.eval (.tmp 39)) L := d1 rfl
      refine wp_lit_app w' (.tmp 33) (.tmp 39) 23 rfl wc.heap.size 38 _ 5 56 Tryz.underlying23 info_prt rfl (by decide) encPrt encPrt_len one_Prt hl L hsl (by unfold maxLen; omega) (by omega) ?_
      intro v1 w1 ho hb
      exact tree_next ask3F_below hJ (Nat.le_of_ble_eq_true rfl) (Nat.le_of_ble_eq_true rfl) hK _ _ hb ho
    refine ⟨fun a w' hJ hD K' hK => ?_, ?_⟩
    · have hx := raw (show a.eval (.tmp 8) = .pointer (some ⟨w.heap.size, 0, none⟩) from hJ.old 8 (.inl (by decide)))
      obtain ⟨e0, e1, e2, e3, e4⟩ := HPB.out w' hJ.b
      exact tree_next ask3F_below hJ (Nat.le_of_ble_eq_true rfl) (Nat.le_of_ble_eq_true rfl) hK _ _ (Below.refl _ _) rfl |> wp_val (v := .agg #[.int .i64 p.k, .int .i64 p.n, .int .i64 p.t, .string p.s, .string p.f]) (w' := w') (by go_simp)
    refine ⟨fun a w' hJ hD K' hK => ?_, ?_⟩
    · obtain ⟨d0, -⟩ := hD
      have hx := raw (show a.eval (.tmp 41) = .agg #[.int .i64 p.k, .int .i64 p.n, .int .i64 p.t, .string p.s, .string p.f] from d0 rfl)
      exact tree_next ask3F_below hJ (Nat.le_of_ble_eq_true rfl) (Nat.le_of_ble_eq_true rfl) hK _ _ (below_alloc (Below.refl _ _)) (Sl.lit encPrt_len w' #[.int .i64 p.k, .int .i64 p.n, .int .i64 p.t, .string p.s, .string p.f] 38 1 [p] rfl rfl (by simp)) |> wp_val (v := .slice (some ⟨w'.heap.size, 0, none⟩) 1 1) (w' := w'.alloc (.cells #[.int .i64 p.k, .int .i64 p.n, .int .i64 p.t, .string p.s, .string p.f] 38)) (by go_simp)
    refine ⟨fun a w' hJ hD K' hK => ?_, trivial⟩
    · obtain ⟨d3, d5, -⟩ := hD
      have ho3 : w'.ownsRow wc.heap.size 38 5 (a.eval (.tmp 40)) L.length (L.flatMap encPrt) := d3 rfl
      have hsl : Sl encPrt 5 w' (a.eval (.tmp 42)) [p] := d5 rfl
      refine wp_own_app w' (.tmp 40) (.tmp 42) 23 rfl wc.heap.size 38 _ 5 56 Tryz.underlying23 info_prt rfl (by decide) encPrt encPrt_len one_Prt _ _ _ rfl ho3 _ [p] rfl hsl (by unfold maxLen; simp; omega) (by simp; omega) hJ.b.size ?_
      intro v1 w1 ho hg'
      exact tree_root hJ (Nat.le_of_ble_eq_true rfl) (Nat.le_of_ble_eq_true rfl) (by kernel_rfl) hK _ _ ((Below.refl _ _).grown hg' hJ.b.size (own_ge ho3 (Nat.le_refl _))) ho
  · intro a' w' hJ hF K' hK
    refine wp_assign (x := .tmp 43) rfl ?_
    change K' (a'.put (some 6) (a'.eval (.tmp 43))) w'
    refine hK _ _ ?_
    change w'.ownsRow wc.heap.size 38 5 (a'.eval (.tmp 43)) (L.length + [p].length) (L.flatMap encPrt ++ [p].flatMap encPrt) at hF
    generalize a'.eval (.tmp 43) = v at hF ⊢
    (obtain ⟨tl, htl, rfl⟩ := act_tree hJ (by simp); simp only [List.dropLast, List.length_cons, List.length_nil, Nat.reduceAdd, Nat.reduceSub] at htl; (iterate 11 (have htl2 := list_cons_of htl; clear htl; obtain ⟨_, tl, htl, rfl⟩ := htl2)); obtain rfl := List.eq_nil_of_length_eq_zero htl; simp only [Act.put, List.dropLast, List.length_cons, List.length_nil, Nat.reduceAdd, List.take_succ_cons, List.take_zero, List.drop_succ_cons, List.drop_zero, List.drop_nil, List.append_nil, List.cons_append, List.nil_append, List.setIfInBounds_toArray, List.set_cons_zero, List.set_cons_succ])
    have HF := Lib.hid hF
    have HJ := Lib.hid hJ.b
    clear hF hJ
    show K0 _ _
    refine hK0 _ _ ?_
    go_wp2
    go_ret
    refine ⟨_, rfl, ?_, below_call HJ.out HBW.out⟩
    rw [HX.out]
    show w'.ownsRow w.heap.size 38 5 v (LT ++ [p]).length ((LT ++ [p]).flatMap encPrt)
    rw [HLT.out, List.length_append, List.flatMap_append]
    exact own_base HF.out (by have := HBW.out.size; omega)
set_option maxHeartbeats 4000000 in
theorem asked_5 (vars : List Vr) (p : Prt) (A : Ex) (hk : p.k = 5) (hT1 : takesT p = 1) (ih : AskedC vars A) : AskedC vars (.un p A) := by
  intro t vv vx w hs hx h500 hte
  have hsA := hs
  obtain ⟨Av, cv, rfl, -, -, -⟩ := hs
  obtain ⟨A0, c, rfl, -, -, -⟩ := (id hx)
  have hx' : Sl encPrt 5 w (.slice A0 (Ex.un p A).flat.length c) (A.flat ++ [p]) := hx
  have HAH := Lib.hid (sl_ahead hx')
  obtain ⟨b, off, rfl, hL, hlc, hcm, hb, c0, c1, c2, c3, c4⟩ := sl_last hx'
  rw [hL] at hlc ⊢
  have hA5 : A.flat.length ≤ 499 := by simp only [Ex.flat, List.length_append, List.length_singleton] at h500; omega
  have hteA : ∀ q ∈ A.flat, takesT q = takesE q := fun q hq => hte q (by simp [Ex.flat, hq])
  have hteP : takesT p = takesE p := hte p (by simp [Ex.flat])
  have hnA := ask_len vars A
  obtain ⟨q, hq0⟩ : ∃ q : Int, q = 0 := ⟨0, rfl⟩
  obtain ⟨LT, hLT⟩ : ∃ L, (askX vars t A).flat = L := ⟨_, rfl⟩
  have HX := Lib.hid (show (askX vars t (.un p A)).flat = LT ++ [p] by rw [← hLT]; rw [askX, if_neg (by omega), if_neg (by omega)]; rfl)
  have hLl : LT.length = A.flat.length := by rw [← hLT]; exact hnA _
  have HCL := Lib.hid (show ∀ W, Below w.heap.size w W → Calls Tryz.prog 28 #[.slice Av vars.length cv, .slice (some ⟨b, off, none⟩) A.flat.length c, .int .i64 t] W (fun e w' => ∃ v, e = .returned v ∧ w'.ownsRow W.heap.size 38 5 v LT.length (LT.flatMap encPrt) ∧ Below W.heap.size W w') from fun W hW => by
    have h := ih t _ _ W (hsA.below hW) (HAH.out.below hW) (by omega) hteA
    rw [hLT] at h
    exact h)
  obtain ⟨L, hLL⟩ : ∃ L, LT = L := ⟨_, rfl⟩
  have HLT := Lib.hid hLL
  obtain ⟨NA, hNA⟩ : ∃ n, A.flat.length = n := ⟨_, rfl⟩
  rw [hNA] at hlc hLl HCL HAH c0 c1 c2 c3 c4 ⊢
  rw [hLL] at HCL hLl
  have hL5 : L.length ≤ 499 := by omega
  have hcz : ((NA + 1 : Nat) : Int) ≤ (c : Int) := by omega
  have hNz : (NA : Int) ≤ (c : Int) := by omega
  have hN0 : (0 : Int) ≤ (NA : Int) := Int.natCast_nonneg _
  have hzz : ((NA + 1 : Nat) : Int) - 1 = (NA : Int) := by omega
  clear hx hx' hLT hLL hL h500 hte hteA hnA hNA hsA ih
  have HTK := Lib.hid (fun W => (show Calls Tryz.prog 51 #[.agg #[.int .i64 p.k, .int .i64 p.n, .int .i64 p.t, .string p.s, .string p.f]] W fun e w' => e = .returned (.int .i64 1) ∧ Below W.heap.size W w' from by
    have h := rtakes_c p W
    rw [takesR6_E, ← hteP, hT1] at h
    exact h))
  have k3 : (p.k == 3) = false := by rw [hk]; rfl
  have k1 : (p.k == 1) = false := by rw [hk]; rfl
  have k6 : (p.k == 6) = false := by rw [hk]; rfl
  have k5 : (p.k == 5) = true := by rw [hk]; rfl
  clear hk hteP hT1
  go_enter Tryz.func28, Tryz.ntmps28
  go_upto_region 15 with (go_at_call 51; refine (HTK.out _).mono ?_; rintro e w1 ⟨rfl, hb1⟩)
  rename_i K0 hK0
  have HBW := Lib.hid (show Below w.heap.size w (w.alloc (.cells #[.int .i64 p.k, .int .i64 p.n, .int .i64 p.t, .string p.s, .string p.f] 38)) from below_alloc (Below.refl _ _))
  have HPB := Lib.hid (show ∀ W, Below (w.alloc (.cells #[.int .i64 p.k, .int .i64 p.n, .int .i64 p.t, .string p.s, .string p.f] 38)).heap.size (w.alloc (.cells #[.int .i64 p.k, .int .i64 p.n, .int .i64 p.t, .string p.s, .string p.f] 38)) W → W.cell? ⟨w.heap.size, 0, none⟩ = some (.int .i64 p.k) ∧ W.cell? ⟨w.heap.size, 1, none⟩ = some (.int .i64 p.n) ∧ W.cell? ⟨w.heap.size, 2, none⟩ = some (.int .i64 p.t) ∧ W.cell? ⟨w.heap.size, 3, none⟩ = some (.string p.s) ∧ W.cell? ⟨w.heap.size, 4, none⟩ = some (.string p.f) from fun W hW => by
    have h : ∀ j, W.cell? ⟨w.heap.size, j, none⟩ = (w.alloc (.cells #[.int .i64 p.k, .int .i64 p.n, .int .i64 p.t, .string p.s, .string p.f] 38)).cell? ⟨w.heap.size, j, none⟩ := fun j => hW.cell (p := ⟨w.heap.size, j, none⟩) (by simp)
    simp only [h, World.cell?_alloc_at _ _ _ _ rfl]
    exact ⟨rfl, rfl, rfl, rfl, rfl⟩)
  obtain ⟨wc, hwc⟩ : ∃ W, w1 = W := ⟨_, rfl⟩
  have HPB := Lib.hid (show ∀ W, Below wc.heap.size wc W → W.cell? ⟨w.heap.size, 0, none⟩ = some (.int .i64 p.k) ∧ W.cell? ⟨w.heap.size, 1, none⟩ = some (.int .i64 p.n) ∧ W.cell? ⟨w.heap.size, 2, none⟩ = some (.int .i64 p.t) ∧ W.cell? ⟨w.heap.size, 3, none⟩ = some (.string p.s) ∧ W.cell? ⟨w.heap.size, 4, none⟩ = some (.string p.f) from fun W hW => HPB.out W (by subst hwc; exact below_call hW hb1))
  have HBW := Lib.hid (show Below w.heap.size w wc by subst hwc; exact below_call hb1 HBW.out)
  subst hwc
  refine wp_region_treeF (by kernel_rfl) _ _ (dropLast_last _ (by simp)) (by kernel_rfl) (by simp) (ask5F w1.heap.size (.slice Av vars.length cv) (.slice (some ⟨b, off, none⟩) NA c) t q L p) 59 _ _ ?_ ?_
  · dsimp only [List.dropLast]
    refine ⟨fun a w' hJ hD K' hK => ?_, ?_⟩
    · exact tree_next ask5F_below hJ (Nat.le_of_ble_eq_true rfl) (Nat.le_of_ble_eq_true rfl) hK _ _ (below_alloc (Below.refl _ _)) ⟨_, rfl, hJ.b.size, heap_alloc_new _ _⟩ |> wp_val (v := .slice (some ⟨w'.heap.size, 0, none⟩) 0 0) (w' := w'.alloc (.cells #[] 38)) (by go_simp)
    refine ⟨fun a w' hJ hD K' hK => ?_, ?_⟩
    · have hx := raw (show a.eval (.tmp 0) = .slice Av vars.length cv from hJ.old 0 (.inl (by decide)))
      exact tree_next ask5F_below hJ (Nat.le_of_ble_eq_true rfl) (Nat.le_of_ble_eq_true rfl) hK _ _ (Below.refl _ _) rfl |> wp_val (v := .slice Av vars.length cv) (w' := w') (by go_simp)
    refine ⟨fun a w' hJ hD K' hK => ?_, ?_⟩
    · have hx := raw (show a.eval (.tmp 9) = .slice (some ⟨b, off, none⟩) NA c from hJ.old 9 (.inl (by decide)))
      exact tree_next ask5F_below hJ (Nat.le_of_ble_eq_true rfl) (Nat.le_of_ble_eq_true rfl) hK _ _ (Below.refl _ _) rfl |> wp_val (v := .slice (some ⟨b, off, none⟩) NA c) (w' := w') (by go_simp)
    refine ⟨fun a w' hJ hD K' hK => ?_, ?_⟩
    · have hx := raw (show a.eval (.tmp 2) = .int .i64 t from hJ.old 2 (.inl (by decide)))
      exact tree_next ask5F_below hJ (Nat.le_of_ble_eq_true rfl) (Nat.le_of_ble_eq_true rfl) hK _ _ (Below.refl _ _) rfl |> wp_val (v := .int .i64 t) (w' := w') (by go_simp)
    refine ⟨fun a w' hJ hD K' hK => ?_, ?_⟩
    · obtain ⟨d0, d1, d2, -⟩ := hD
      have hx0 := raw (show a.eval (.tmp 60) = .slice Av vars.length cv from d0 rfl)
      have hx1 := raw (show a.eval (.tmp 61) = .slice (some ⟨b, off, none⟩) NA c from d1 rfl)
      have hx2 := raw (show a.eval (.tmp 62) = .int .i64 t from d2 rfl)
      refine wp_calls (w' := w') (f := 28) (args := #[.slice Av vars.length cv, .slice (some ⟨b, off, none⟩) NA c, .int .i64 t]) (by go_simp) (HCL.out w' (below_call hJ.b HBW.out)) ?_
      rintro e w5 ⟨v5, rfl, ho5, hb5⟩
      exact ⟨_, rfl, tree_next ask5F_below hJ (Nat.le_of_ble_eq_true rfl) (Nat.le_of_ble_eq_true rfl) hK _ _ hb5 (Sl.own encPrt_len ho5 rfl)⟩
    refine ⟨fun a w' hJ hD K' hK => ?_, ?_⟩
    · obtain ⟨d0, d1, -⟩ := hD
      have hl : LitAt w1.heap.size 38 w' (a.eval (.tmp 59)) := d0 rfl
      have hsl : Sl encPrt 5 w' (a.eval (.tmp 63)) L := d1 rfl
      refine wp_lit_app w' (.tmp 59) (.tmp 63) 23 rfl w1.heap.size 38 _ 5 56 Tryz.underlying23 info_prt rfl (by decide) encPrt encPrt_len one_Prt hl L hsl (by unfold maxLen; omega) (by omega) ?_
      intro v1 w1 ho hb
      exact tree_next ask5F_below hJ (Nat.le_of_ble_eq_true rfl) (Nat.le_of_ble_eq_true rfl) hK _ _ hb ho
    refine ⟨fun a w' hJ hD K' hK => ?_, ?_⟩
    · have hx := raw (show a.eval (.tmp 8) = .pointer (some ⟨w.heap.size, 0, none⟩) from hJ.old 8 (.inl (by decide)))
      obtain ⟨e0, e1, e2, e3, e4⟩ := HPB.out w' hJ.b
      exact tree_next ask5F_below hJ (Nat.le_of_ble_eq_true rfl) (Nat.le_of_ble_eq_true rfl) hK _ _ (Below.refl _ _) rfl |> wp_val (v := .agg #[.int .i64 p.k, .int .i64 p.n, .int .i64 p.t, .string p.s, .string p.f]) (w' := w') (by go_simp)
    refine ⟨fun a w' hJ hD K' hK => ?_, ?_⟩
    · obtain ⟨d0, -⟩ := hD
      have hx := raw (show a.eval (.tmp 65) = .agg #[.int .i64 p.k, .int .i64 p.n, .int .i64 p.t, .string p.s, .string p.f] from d0 rfl)
      exact tree_next ask5F_below hJ (Nat.le_of_ble_eq_true rfl) (Nat.le_of_ble_eq_true rfl) hK _ _ (below_alloc (Below.refl _ _)) (Sl.lit encPrt_len w' #[.int .i64 p.k, .int .i64 p.n, .int .i64 p.t, .string p.s, .string p.f] 38 1 [p] rfl rfl (by simp)) |> wp_val (v := .slice (some ⟨w'.heap.size, 0, none⟩) 1 1) (w' := w'.alloc (.cells #[.int .i64 p.k, .int .i64 p.n, .int .i64 p.t, .string p.s, .string p.f] 38)) (by go_simp)
    refine ⟨fun a w' hJ hD K' hK => ?_, trivial⟩
    · obtain ⟨d3, d5, -⟩ := hD
      have ho3 : w'.ownsRow w1.heap.size 38 5 (a.eval (.tmp 64)) L.length (L.flatMap encPrt) := d3 rfl
      have hsl : Sl encPrt 5 w' (a.eval (.tmp 66)) [p] := d5 rfl
      refine wp_own_app w' (.tmp 64) (.tmp 66) 23 rfl w1.heap.size 38 _ 5 56 Tryz.underlying23 info_prt rfl (by decide) encPrt encPrt_len one_Prt _ _ _ rfl ho3 _ [p] rfl hsl (by unfold maxLen; simp; omega) (by simp; omega) hJ.b.size ?_
      intro v1 w1 ho hg'
      exact tree_root hJ (Nat.le_of_ble_eq_true rfl) (Nat.le_of_ble_eq_true rfl) (by kernel_rfl) hK _ _ ((Below.refl _ _).grown hg' hJ.b.size (own_ge ho3 (Nat.le_refl _))) ho
  · intro a' w' hJ hF K' hK
    refine wp_assign (x := .tmp 67) rfl ?_
    change K' (a'.put (some 6) (a'.eval (.tmp 67))) w'
    refine hK _ _ ?_
    change w'.ownsRow w1.heap.size 38 5 (a'.eval (.tmp 67)) (L.length + [p].length) (L.flatMap encPrt ++ [p].flatMap encPrt) at hF
    generalize a'.eval (.tmp 67) = v at hF ⊢
    (obtain ⟨tl, htl, rfl⟩ := act_tree hJ (by simp); simp only [List.dropLast, List.length_cons, List.length_nil, Nat.reduceAdd, Nat.reduceSub] at htl; (iterate 9 (have htl2 := list_cons_of htl; clear htl; obtain ⟨_, tl, htl, rfl⟩ := htl2)); obtain rfl := List.eq_nil_of_length_eq_zero htl; simp only [Act.put, List.dropLast, List.length_cons, List.length_nil, Nat.reduceAdd, List.take_succ_cons, List.take_zero, List.drop_succ_cons, List.drop_zero, List.drop_nil, List.append_nil, List.cons_append, List.nil_append, List.setIfInBounds_toArray, List.set_cons_zero, List.set_cons_succ])
    have HF := Lib.hid hF
    have HJ := Lib.hid hJ.b
    clear hF hJ
    show K0 _ _
    refine hK0 _ _ ?_
    go_wp2
    go_ret
    refine ⟨_, rfl, ?_, below_call HJ.out HBW.out⟩
    rw [HX.out]
    show w'.ownsRow w.heap.size 38 5 v (LT ++ [p]).length ((LT ++ [p]).flatMap encPrt)
    rw [HLT.out, List.length_append, List.flatMap_append]
    exact own_base HF.out (by have := HBW.out.size; omega)
end Go.Proofs.YtenjkplijblcoaaGreatDoor

/- capstanref10.two, asked, Resolve: what each call answers. -/
namespace Go.Proofs.YtenjkplijblcoaaGreatDoor
open Go.RowKit Cap
set_option maxRecDepth 100000

theorem two_own {w : World} {base n : Nat} {v : Value} {x y : List Prt} {q : Prt} (hn : (x ++ y ++ [q]).length = n) (h : w.ownsRow base 38 5 v (0 + x.length + y.length + [q].length) ([] ++ x.flatMap encPrt ++ y.flatMap encPrt ++ [q].flatMap encPrt)) : w.ownsRow base 38 5 v n ((x ++ y ++ [q]).flatMap encPrt) := by
  subst hn
  rw [List.flatMap_append, List.flatMap_append, List.length_append, List.length_append]
  rw [Nat.zero_add, List.nil_append] at h
  exact h
set_option maxHeartbeats 8000000 in
theorem two10_c (vars : List Vr) (p : Prt) (A B : Ex) (hB : B.Ok) (iha : AskedC vars A) (ihb : AskedC vars B) (t : Int) (vv vx : Value) (w : World) (hs : Sl encVr 5 w vv vars) (hx : Sl encPrt 5 w vx (Ex.bin p A B).flat) (h500 : (Ex.bin p A B).flat.length ≤ 500) (hte : ∀ p' ∈ (Ex.bin p A B).flat, takesT p' = takesE p') :
    Calls Tryz.prog 52 #[vv, vx, .int .i64 t] w (fun e w' => ∃ v, e = .returned v ∧ w'.ownsRow w.heap.size 38 5 v (askX vars t (.bin p A B)).flat.length ((askX vars t (.bin p A B)).flat.flatMap encPrt) ∧ Below w.heap.size w w') := by
  have hsA := hs
  obtain ⟨Av, cv, rfl, -, -, -⟩ := hs
  obtain ⟨A0, c, rfl, -, -, -⟩ := (id hx)
  have hx' : Sl encPrt 5 w (.slice A0 (Ex.bin p A B).flat.length c) ((A.flat ++ B.flat) ++ [p]) := hx
  have hteB : ∀ q ∈ B.flat, takesT q = takesE q := fun q hq => hte q (by simp [Ex.flat, hq])
  have hteA : ∀ q ∈ A.flat, takesT q = takesE q := fun q hq => hte q (by simp [Ex.flat, hq])
  have hfr := from_bin (a := A) (p := p) hB hteB
  have hFR := fun W (hW : Below w.heap.size w W) => rfrom_c (A.flat ++ B.flat ++ [p]) (A.flat.length + B.flat.length) _ W (hx'.below hW) h500 (by simp)
  rw [hfr] at hFR
  have hAB := sl_ahead hx'
  obtain ⟨b, off, rfl, hL, hlc, hcm, hb, c0, c1, c2, c3, c4⟩ := sl_last hx'
  rw [hL] at hlc hFR ⊢
  have hSA : Sl encPrt 5 w (.slice (some ⟨b, off, none⟩) A.flat.length c) A.flat := by
    have h := hAB.first (m := A.flat.length) (by simp)
    rwa [List.take_left] at h
  have hSB : Sl encPrt 5 w (.slice (some ⟨b, off + A.flat.length * 5, none⟩) B.flat.length (c - A.flat.length)) B.flat := by
    have h := hAB.drop A.flat.length (by simp)
    rw [List.drop_left] at h
    have e : (A.flat ++ B.flat).length - A.flat.length = B.flat.length := by simp
    rw [e] at h
    exact h
  have hl500 : A.flat.length + B.flat.length ≤ 499 := by simp only [Ex.flat, List.length_append, List.length_singleton] at h500; omega
  have hKA := fun W (hW : Below w.heap.size w W) => rkind_c vars A.flat _ _ W (hsA.below hW) (hSA.below hW)
  have hKB := fun W (hW : Below w.heap.size w W) => rkind_c vars B.flat _ _ W (hsA.below hW) (hSB.below hW)
  obtain ⟨ka, hka⟩ : ∃ k, (reckV vars A.flat).1.t = k := ⟨_, rfl⟩
  obtain ⟨kb, hkb⟩ : ∃ k, (reckV vars B.flat).1.t = k := ⟨_, rfl⟩
  have HX := Lib.hid (show ∀ k, (if max ka kb = 0 then (if 9 ≤ p.n then 3 else t) else max ka kb) = k → (askX vars t (.bin p A B)).flat = (askX vars k A).flat ++ (askX vars k B).flat ++ [p] from fun k hk => by
    rw [askX, hka, hkb]
    rw [hk]
    rfl)
  rw [hka] at hKA
  rw [hkb] at hKB
  have hCA := fun k W (hW : Below w.heap.size w W) => iha k _ _ W (hsA.below hW) (hSA.below hW) (by omega) hteA
  have hCB := fun k W (hW : Below w.heap.size w W) => ihb k _ _ W (hsA.below hW) (hSB.below hW) (by omega) hteB
  have hnA := ask_len vars A
  have hnB := ask_len vars B
  obtain ⟨m, hm⟩ : ∃ m, A.flat.length = m := ⟨_, rfl⟩
  obtain ⟨nb, hnb⟩ : ∃ m, B.flat.length = m := ⟨_, rfl⟩
  rw [List.length_append] at c0 c1 c2 c3 c4 hlc
  rw [List.length_append] at hFR
  rw [List.length_append]
  rw [hm, hnb] at c0 c1 c2 c3 c4 hlc hl500
  rw [hm] at hKA hCA hKB hCB hFR ⊢
  rw [hnb] at hKB hCB hFR ⊢
  obtain ⟨N, hN⟩ : ∃ n, m + nb = n := ⟨_, rfl⟩
  rw [hN] at c0 c1 c2 c3 c4 hlc hFR hl500 ⊢
  have hCX := fun W (hW : Below w.heap.size w W) => (show W.cell? ⟨b, off + N * 5, none⟩ = some (.int .i64 p.k) ∧ W.cell? ⟨b, off + N * 5 + 1, none⟩ = some (.int .i64 p.n) ∧ W.cell? ⟨b, off + N * 5 + 2, none⟩ = some (.int .i64 p.t) ∧ W.cell? ⟨b, off + N * 5 + 3, none⟩ = some (.string p.s) ∧ W.cell? ⟨b, off + N * 5 + 4, none⟩ = some (.string p.f) from
    ⟨(hW.cell (p := ⟨b, off + N * 5, none⟩) hb).trans c0, (hW.cell (p := ⟨b, off + N * 5 + 1, none⟩) hb).trans c1, (hW.cell (p := ⟨b, off + N * 5 + 2, none⟩) hb).trans c2, (hW.cell (p := ⟨b, off + N * 5 + 3, none⟩) hb).trans c3, (hW.cell (p := ⟨b, off + N * 5 + 4, none⟩) hb).trans c4⟩)
  have HCX := Lib.hid hCX
  have HFR := Lib.hid hFR
  have HKA := Lib.hid hKA
  have HKB := Lib.hid hKB
  have hcz : ((N + 1 : Nat) : Int) ≤ (c : Int) := by omega
  have hNc : (N : Int) ≤ (c : Int) := by omega
  have hN0 : (0 : Int) ≤ (N : Int) := Int.natCast_nonneg _
  have hzz : ((N + 1 : Nat) : Int) - 1 = (N : Int) := by omega
  have hm0 : (0 : Int) ≤ (m : Int) := Int.natCast_nonneg _
  have hmc : (m : Int) ≤ (c : Int) := by omega
  have hmN : (m : Int) ≤ (N : Int) := by omega
  have hcm1 : ¬ c = m := by omega
  have hNm : N - m = nb := by omega
  have hNz : (N : Int) < ((N + 1 : Nat) : Int) := by omega
  clear hx hx' hfr hFR hAB hSA hSB hKA hKB hte hteA hteB h500 hka hkb hsA hL iha ihb hCX c0 c1 c2 c3 c4
  go_enter Tryz.func52, Tryz.ntmps52
  go_upto_region 3 with (go_at_call 56; refine (HFR.out _ (by (repeat' (first | (with_reducible exact Below.refl _ _) | (with_reducible refine below_alloc ?_) | (with_reducible refine below_drew ?_) | (with_reducible refine below_drewN ?_) | (with_reducible refine below_set (by first | (simp; done) | (simp; omega)) ?_) | (with_reducible refine below_call (by with_reducible assumption) ?_))))).mono ?_; rintro e w1 ⟨rfl, hb1⟩)
  go_region_held3 (fun _ => True) (first | trivial) (first | fail)
  go_upto_region 5 with (first | (go_at_call_of 73 (Value.slice (some ⟨b, off, none⟩) m c); refine (HKA.out _ (by (repeat' (first | (with_reducible exact Below.refl _ _) | (with_reducible refine below_alloc ?_) | (with_reducible refine below_drew ?_) | (with_reducible refine below_drewN ?_) | (with_reducible refine below_set (by first | (simp; done) | (simp; omega)) ?_) | (with_reducible refine below_call (by with_reducible assumption) ?_))))).mono ?_; clear HKA; rintro e w2 ⟨rfl, hb2⟩) | (go_at_call 73; refine (HKB.out _ (by (repeat' (first | (with_reducible exact Below.refl _ _) | (with_reducible refine below_alloc ?_) | (with_reducible refine below_drew ?_) | (with_reducible refine below_drewN ?_) | (with_reducible refine below_set (by first | (simp; done) | (simp; omega)) ?_) | (with_reducible refine below_call (by with_reducible assumption) ?_))))).mono ?_; rintro e w3 ⟨rfl, hb3⟩))
  have HB3 := Lib.hid (show Below w.heap.size w w3 by (repeat' (first | (with_reducible exact Below.refl _ _) | (with_reducible refine below_alloc ?_) | (with_reducible refine below_drew ?_) | (with_reducible refine below_drewN ?_) | (with_reducible refine below_set (by first | (simp; done) | (simp; omega)) ?_) | (with_reducible refine below_call (by with_reducible assumption) ?_))))
  obtain ⟨d0, d1, d2, d3, d4⟩ := HCX.out w3 HB3.out
  have HCAk := Lib.hid hCA
  have HCBk := Lib.hid hCB
  rw [hm] at hnA
  rw [hnb] at hnB
  clear hCA hCB hb1 hb2 hb3 HFR HKB hm hnb
  generalize max ka kb = kM at HX ⊢
  by_cases hkm : kM = 0
  · subst hkm
    by_cases h9 : 9 ≤ p.n
    · have HXF := Lib.hid (HX.out (3) (by rw [if_pos rfl, if_pos h9]))
      have hCA := fun W (hW : Below w.heap.size w W) => HCAk.out (3) W hW
      have hCB := fun W (hW : Below w.heap.size w W) => HCBk.out (3) W hW
      have hla := hnA (3)
      have hlb := hnB (3)
      obtain ⟨LA, hLA⟩ : ∃ L, (askX vars (3) A).flat = L := ⟨_, rfl⟩
      obtain ⟨LB, hLB⟩ : ∃ L, (askX vars (3) B).flat = L := ⟨_, rfl⟩
      rw [hLA] at hCA hla HXF
      rw [hLB] at hCB hlb HXF
      have HCA := Lib.hid hCA
      have HCB := Lib.hid hCB
      clear hCA hCB hLA hLB HCAk HCBk HX hnA hnB
      have hln : LA.length + LB.length ≤ 499 := by omega
      go_wp2_with (first | (go_at_call_of 28 (Value.slice (some ⟨b, off, none⟩) m c); refine (HCA.out _ (below_call (by (repeat' (first | (with_reducible exact Below.refl _ _) | (with_reducible refine below_alloc ?_) | (with_reducible refine below_drew ?_) | (with_reducible refine below_drewN ?_) | (with_reducible refine below_set (by first | (simp; done) | (simp; omega)) ?_) | (with_reducible refine below_call (by with_reducible assumption) ?_)))) HB3.out)).mono ?_; rintro e w4 ⟨v4, rfl, ho4, hb4⟩; have HL4 := Lib.hid (Sl.own encPrt_len ho4 rfl); clear ho4 HCA) | (go_at_call 28; refine (HCB.out _ (below_call (by (repeat' (first | (with_reducible exact Below.refl _ _) | (with_reducible refine below_alloc ?_) | (with_reducible refine below_drew ?_) | (with_reducible refine below_drewN ?_) | (with_reducible refine below_set (by first | (simp; done) | (simp; omega)) ?_) | (with_reducible refine below_call (by with_reducible assumption) ?_)))) (below_call hb5 HB3.out))).mono ?_; rintro e w6 ⟨v6, rfl, ho6, hb6⟩; have HL6 := Lib.hid (Sl.own encPrt_len ho6 rfl); clear ho6) | (at_builtin; refine wpList_app _ rfl (.tmp 43) (.tmp 47) 23 rfl w3.heap.size 38 _ 5 56 Tryz.underlying23 info_prt rfl (by decide) encPrt encPrt_len one_Prt (.slice (some ⟨w3.heap.size, 0, none⟩) 0 0) 0 [] rfl (own_below (World.ownsRow_lit w3 #[] 0 (Nat.le_refl _) (by decide) (by rfl)) hb4) _ LA rfl HL4.out (by unfold maxLen; omega) (by omega) (by have := hb4.size; simp at this; omega) ?_; intro v5 w5 ho5 hg5; have hb5 := below_grown (w := w3) (below_call hb4 (below_alloc (Below.refl _ _))) hg5 (fun g hg => by simp [Value.ownBlock] at hg; omega)) | (at_builtin; refine wpList_app _ rfl (.tmp 49) (.tmp 53) 23 rfl w3.heap.size 38 _ 5 56 Tryz.underlying23 info_prt rfl (by decide) encPrt encPrt_len one_Prt v5 _ _ rfl (own_below ho5 hb6) _ LB rfl HL6.out (by unfold maxLen; omega) (by omega) (by have := hb5.size; have := hb6.size; omega) ?_; intro v7 w7 ho7 hg7; have hb7 := below_grown (w := w3) (below_call hb6 hb5) hg7 (own_ge ho5 (Nat.le_refl _)); obtain ⟨d0, d1, d2, d3, d4⟩ := HCX.out w7 (below_call hb7 HB3.out)) | (at_builtin; refine wpList_app _ rfl (.tmp 55) (.tmp 60) 23 rfl w3.heap.size 38 _ 5 56 Tryz.underlying23 info_prt rfl (by decide) encPrt encPrt_len one_Prt v7 _ _ rfl (own_below ho7 (below_alloc (Below.refl _ _))) _ [p] rfl (by refine Sl.lit' ?_ _ _ _ _ _ _ ?_ ?_ ?_ ?_ <;> first | (intro _; rfl) | rfl | decide | (simp; done)) (by unfold maxLen; simp; omega) (by simp; omega) (by have := hb7.size; simp; omega) ?_; intro v8 w8 ho8 hg8; have hb8 := below_grown (w := w3) (below_alloc hb7) hg8 (own_ge ho7 (Nat.le_refl _))))
      go_ret
      refine ⟨v8, rfl, ?_, below_call hb8 HB3.out⟩
      rw [HXF.out]
      exact own_base (two_own rfl ho8) HB3.out.size
    · have HXF := Lib.hid (HX.out (t) (by rw [if_pos rfl, if_neg h9]))
      have hCA := fun W (hW : Below w.heap.size w W) => HCAk.out (t) W hW
      have hCB := fun W (hW : Below w.heap.size w W) => HCBk.out (t) W hW
      have hla := hnA (t)
      have hlb := hnB (t)
      obtain ⟨LA, hLA⟩ : ∃ L, (askX vars (t) A).flat = L := ⟨_, rfl⟩
      obtain ⟨LB, hLB⟩ : ∃ L, (askX vars (t) B).flat = L := ⟨_, rfl⟩
      rw [hLA] at hCA hla HXF
      rw [hLB] at hCB hlb HXF
      have HCA := Lib.hid hCA
      have HCB := Lib.hid hCB
      clear hCA hCB hLA hLB HCAk HCBk HX hnA hnB
      have hln : LA.length + LB.length ≤ 499 := by omega
      go_wp2_with (first | (go_at_call_of 28 (Value.slice (some ⟨b, off, none⟩) m c); refine (HCA.out _ (below_call (by (repeat' (first | (with_reducible exact Below.refl _ _) | (with_reducible refine below_alloc ?_) | (with_reducible refine below_drew ?_) | (with_reducible refine below_drewN ?_) | (with_reducible refine below_set (by first | (simp; done) | (simp; omega)) ?_) | (with_reducible refine below_call (by with_reducible assumption) ?_)))) HB3.out)).mono ?_; rintro e w4 ⟨v4, rfl, ho4, hb4⟩; have HL4 := Lib.hid (Sl.own encPrt_len ho4 rfl); clear ho4 HCA) | (go_at_call 28; refine (HCB.out _ (below_call (by (repeat' (first | (with_reducible exact Below.refl _ _) | (with_reducible refine below_alloc ?_) | (with_reducible refine below_drew ?_) | (with_reducible refine below_drewN ?_) | (with_reducible refine below_set (by first | (simp; done) | (simp; omega)) ?_) | (with_reducible refine below_call (by with_reducible assumption) ?_)))) (below_call hb5 HB3.out))).mono ?_; rintro e w6 ⟨v6, rfl, ho6, hb6⟩; have HL6 := Lib.hid (Sl.own encPrt_len ho6 rfl); clear ho6) | (at_builtin; refine wpList_app _ rfl (.tmp 43) (.tmp 47) 23 rfl w3.heap.size 38 _ 5 56 Tryz.underlying23 info_prt rfl (by decide) encPrt encPrt_len one_Prt (.slice (some ⟨w3.heap.size, 0, none⟩) 0 0) 0 [] rfl (own_below (World.ownsRow_lit w3 #[] 0 (Nat.le_refl _) (by decide) (by rfl)) hb4) _ LA rfl HL4.out (by unfold maxLen; omega) (by omega) (by have := hb4.size; simp at this; omega) ?_; intro v5 w5 ho5 hg5; have hb5 := below_grown (w := w3) (below_call hb4 (below_alloc (Below.refl _ _))) hg5 (fun g hg => by simp [Value.ownBlock] at hg; omega)) | (at_builtin; refine wpList_app _ rfl (.tmp 49) (.tmp 53) 23 rfl w3.heap.size 38 _ 5 56 Tryz.underlying23 info_prt rfl (by decide) encPrt encPrt_len one_Prt v5 _ _ rfl (own_below ho5 hb6) _ LB rfl HL6.out (by unfold maxLen; omega) (by omega) (by have := hb5.size; have := hb6.size; omega) ?_; intro v7 w7 ho7 hg7; have hb7 := below_grown (w := w3) (below_call hb6 hb5) hg7 (own_ge ho5 (Nat.le_refl _)); obtain ⟨d0, d1, d2, d3, d4⟩ := HCX.out w7 (below_call hb7 HB3.out)) | (at_builtin; refine wpList_app _ rfl (.tmp 55) (.tmp 60) 23 rfl w3.heap.size 38 _ 5 56 Tryz.underlying23 info_prt rfl (by decide) encPrt encPrt_len one_Prt v7 _ _ rfl (own_below ho7 (below_alloc (Below.refl _ _))) _ [p] rfl (by refine Sl.lit' ?_ _ _ _ _ _ _ ?_ ?_ ?_ ?_ <;> first | (intro _; rfl) | rfl | decide | (simp; done)) (by unfold maxLen; simp; omega) (by simp; omega) (by have := hb7.size; simp; omega) ?_; intro v8 w8 ho8 hg8; have hb8 := below_grown (w := w3) (below_alloc hb7) hg8 (own_ge ho7 (Nat.le_refl _))))
      go_ret
      refine ⟨v8, rfl, ?_, below_call hb8 HB3.out⟩
      rw [HXF.out]
      exact own_base (two_own rfl ho8) HB3.out.size
  · have hkb := ne_i hkm
    have HXF := Lib.hid (HX.out (kM) (by rw [if_neg hkm]))
    have hCA := fun W (hW : Below w.heap.size w W) => HCAk.out (kM) W hW
    have hCB := fun W (hW : Below w.heap.size w W) => HCBk.out (kM) W hW
    have hla := hnA (kM)
    have hlb := hnB (kM)
    obtain ⟨LA, hLA⟩ : ∃ L, (askX vars (kM) A).flat = L := ⟨_, rfl⟩
    obtain ⟨LB, hLB⟩ : ∃ L, (askX vars (kM) B).flat = L := ⟨_, rfl⟩
    rw [hLA] at hCA hla HXF
    rw [hLB] at hCB hlb HXF
    have HCA := Lib.hid hCA
    have HCB := Lib.hid hCB
    clear hCA hCB hLA hLB HCAk HCBk HX hnA hnB
    have hln : LA.length + LB.length ≤ 499 := by omega
    go_wp2_with (first | (go_at_call_of 28 (Value.slice (some ⟨b, off, none⟩) m c); refine (HCA.out _ (below_call (by (repeat' (first | (with_reducible exact Below.refl _ _) | (with_reducible refine below_alloc ?_) | (with_reducible refine below_drew ?_) | (with_reducible refine below_drewN ?_) | (with_reducible refine below_set (by first | (simp; done) | (simp; omega)) ?_) | (with_reducible refine below_call (by with_reducible assumption) ?_)))) HB3.out)).mono ?_; rintro e w4 ⟨v4, rfl, ho4, hb4⟩; have HL4 := Lib.hid (Sl.own encPrt_len ho4 rfl); clear ho4 HCA) | (go_at_call 28; refine (HCB.out _ (below_call (by (repeat' (first | (with_reducible exact Below.refl _ _) | (with_reducible refine below_alloc ?_) | (with_reducible refine below_drew ?_) | (with_reducible refine below_drewN ?_) | (with_reducible refine below_set (by first | (simp; done) | (simp; omega)) ?_) | (with_reducible refine below_call (by with_reducible assumption) ?_)))) (below_call hb5 HB3.out))).mono ?_; rintro e w6 ⟨v6, rfl, ho6, hb6⟩; have HL6 := Lib.hid (Sl.own encPrt_len ho6 rfl); clear ho6) | (at_builtin; refine wpList_app _ rfl (.tmp 43) (.tmp 47) 23 rfl w3.heap.size 38 _ 5 56 Tryz.underlying23 info_prt rfl (by decide) encPrt encPrt_len one_Prt (.slice (some ⟨w3.heap.size, 0, none⟩) 0 0) 0 [] rfl (own_below (World.ownsRow_lit w3 #[] 0 (Nat.le_refl _) (by decide) (by rfl)) hb4) _ LA rfl HL4.out (by unfold maxLen; omega) (by omega) (by have := hb4.size; simp at this; omega) ?_; intro v5 w5 ho5 hg5; have hb5 := below_grown (w := w3) (below_call hb4 (below_alloc (Below.refl _ _))) hg5 (fun g hg => by simp [Value.ownBlock] at hg; omega)) | (at_builtin; refine wpList_app _ rfl (.tmp 49) (.tmp 53) 23 rfl w3.heap.size 38 _ 5 56 Tryz.underlying23 info_prt rfl (by decide) encPrt encPrt_len one_Prt v5 _ _ rfl (own_below ho5 hb6) _ LB rfl HL6.out (by unfold maxLen; omega) (by omega) (by have := hb5.size; have := hb6.size; omega) ?_; intro v7 w7 ho7 hg7; have hb7 := below_grown (w := w3) (below_call hb6 hb5) hg7 (own_ge ho5 (Nat.le_refl _)); obtain ⟨d0, d1, d2, d3, d4⟩ := HCX.out w7 (below_call hb7 HB3.out)) | (at_builtin; refine wpList_app _ rfl (.tmp 55) (.tmp 60) 23 rfl w3.heap.size 38 _ 5 56 Tryz.underlying23 info_prt rfl (by decide) encPrt encPrt_len one_Prt v7 _ _ rfl (own_below ho7 (below_alloc (Below.refl _ _))) _ [p] rfl (by refine Sl.lit' ?_ _ _ _ _ _ _ ?_ ?_ ?_ ?_ <;> first | (intro _; rfl) | rfl | decide | (simp; done)) (by unfold maxLen; simp; omega) (by simp; omega) (by have := hb7.size; simp; omega) ?_; intro v8 w8 ho8 hg8; have hb8 := below_grown (w := w3) (below_alloc hb7) hg8 (own_ge ho7 (Nat.le_refl _))))
    go_ret
    refine ⟨v8, rfl, ?_, below_call hb8 HB3.out⟩
    rw [HXF.out]
    exact own_base (two_own rfl ho8) HB3.out.size
end Go.Proofs.YtenjkplijblcoaaGreatDoor

/- capstanref10.asked whole, Resolve: what each call answers. -/
namespace Go.Proofs.YtenjkplijblcoaaGreatDoor
open Go.RowKit Cap
set_option maxRecDepth 100000

set_option maxHeartbeats 2000000 in
theorem asked_bin (vars : List Vr) (p : Prt) (A B : Ex) (hk : p.k = 5) (hT2 : takesT p = 2) (hB : B.Ok) (iha : AskedC vars A) (ihb : AskedC vars B) : AskedC vars (.bin p A B) := by
  intro t vv vx w hs hx h500 hte
  have HTW := Lib.hid (fun W (hW : Below w.heap.size w W) => two10_c vars p A B hB iha ihb t vv vx W (hs.below hW) (hx.below hW) h500 hte)
  have hteP : takesT p = takesE p := hte p (by simp [Ex.flat])
  have HTK := Lib.hid (fun W => (show Calls Tryz.prog 51 #[.agg #[.int .i64 p.k, .int .i64 p.n, .int .i64 p.t, .string p.s, .string p.f]] W fun e w' => e = .returned (.int .i64 2) ∧ Below W.heap.size W w' from by
    have h := rtakes_c p W
    rw [takesR6_E, ← hteP, hT2] at h
    exact h))
  obtain ⟨Av, cv, rfl, -, -, -⟩ := hs
  obtain ⟨A0, c, rfl, -, -, -⟩ := (id hx)
  have hx' : Sl encPrt 5 w (.slice A0 (Ex.bin p A B).flat.length c) ((A.flat ++ B.flat) ++ [p]) := hx
  obtain ⟨b, off, rfl, hL, hlc, hcm, hb, c0, c1, c2, c3, c4⟩ := sl_last hx'
  rw [hL] at hlc HTW ⊢
  obtain ⟨NA, hNA⟩ : ∃ n, (A.flat ++ B.flat).length = n := ⟨_, rfl⟩
  rw [hNA] at hlc HTW c0 c1 c2 c3 c4 ⊢
  have hcz : ((NA + 1 : Nat) : Int) ≤ (c : Int) := by omega
  have hNz : (NA : Int) ≤ (c : Int) := by omega
  have hN0 : (0 : Int) ≤ (NA : Int) := Int.natCast_nonneg _
  have hzz : ((NA + 1 : Nat) : Int) - 1 = (NA : Int) := by omega
  have k3 : (p.k == 3) = false := by rw [hk]; rfl
  have k1 : (p.k == 1) = false := by rw [hk]; rfl
  have k6 : (p.k == 6) = false := by rw [hk]; rfl
  have k5 : (p.k == 5) = true := by rw [hk]; rfl
  clear hx hx' hL h500 hte hNA iha ihb hk hteP hT2
  go_enter Tryz.func28, Tryz.ntmps28
  go_wp2_with (first | (go_at_call 51; refine (HTK.out _).mono ?_; rintro e w1 ⟨rfl, hb1⟩) | (go_at_call 52; refine (HTW.out _ (by (repeat' (first | (with_reducible exact Below.refl _ _) | (with_reducible refine below_alloc ?_) | (with_reducible refine below_drew ?_) | (with_reducible refine below_drewN ?_) | (with_reducible refine below_set (by first | (simp; done) | (simp; omega)) ?_) | (with_reducible refine below_call (by with_reducible assumption) ?_))))).mono ?_; rintro e w2 ⟨v2, rfl, ho2, hb2⟩; have HO2 := Lib.hid ho2; clear ho2))
  go_ret
  exact ⟨v2, rfl, own_base HO2.out (by have := hb1.size; simp at this; omega), by (repeat' (first | (with_reducible exact Below.refl _ _) | (with_reducible refine below_alloc ?_) | (with_reducible refine below_drew ?_) | (with_reducible refine below_drewN ?_) | (with_reducible refine below_set (by first | (simp; done) | (simp; omega)) ?_) | (with_reducible refine below_call (by with_reducible assumption) ?_)))⟩
theorem asked_c (vars : List Vr) : ∀ T : Ex, T.Ok → AskedC vars T
  | .leaf p, hT => asked_leaf vars p hT
  | .un p A, hT => by
    have ih := asked_c vars A hT.2
    by_cases h3 : p.k = 3
    · exact asked_3 vars p A h3 ih
    · rcases takes1 hT.1 h3 with h6 | h5
      · exact asked_6 vars p A h6 ih
      · exact asked_5 vars p A h5 hT.1 ih
  | .bin p A B, hT => asked_bin vars p A B (takes2 hT.1) hT.1 hT.2.2 (asked_c vars A hT.2.1) (asked_c vars B hT.2.2)
set_option maxHeartbeats 1000000 in
theorem rresolve_c (vars : List Vr) (x : List Prt) (t : Int) (vv vx : Value) (w : World) (hs : Sl encVr 5 w vv vars) (hx : Sl encPrt 5 w vx x) :
    Calls Tryz.prog 10 #[vv, vx, .int .i64 t] w (ResolveR vars x t w) := by
  have HFT := Lib.hid (fun W (hW : Below w.heap.size w W) => rfits9_c vars x t vv vx W (hs.below hW) (hx.below hW))
  have hsA := hs
  have hxA := hx
  unfold ResolveR
  obtain ⟨f, hf⟩ : ∃ f, fitsX vars x t = f := ⟨_, rfl⟩
  rw [hf] at HFT ⊢
  obtain ⟨Av, cv, rfl, -, -, -⟩ := hs
  obtain ⟨Ax, cx, rfl, -, -, -⟩ := hx
  by_cases hf0 : f = 0
  · subst hf0
    have hcx := fits_check hf
    obtain ⟨h500, _, hmay⟩ := check_in hcx
    obtain ⟨hTok, hTf⟩ := tree_in hcx
    have HAS := Lib.hid (fun W (hW : Below w.heap.size w W) => asked_c vars (treeL x) hTok t _ _ W (hsA.below hW) (by rw [hTf]; exact hxA.below hW) (by rw [hTf]; exact h500) (by rw [hTf]; exact fun p hp => mayT_E (hmay p hp)))
    simp only [ne_eq, not_true_eq_false, if_false]
    clear hf hcx h500 hmay hTok hTf hsA hxA
    go_enter Tryz.func10, Tryz.ntmps10
    go_wp2_with (first | (go_at_call 27; refine (HFT.out _ (by (repeat' (first | (with_reducible exact Below.refl _ _) | (with_reducible refine below_alloc ?_) | (with_reducible refine below_drew ?_) | (with_reducible refine below_drewN ?_) | (with_reducible refine below_set (by first | (simp; done) | (simp; omega)) ?_) | (with_reducible refine below_call (by with_reducible assumption) ?_))))).mono ?_; rintro e w1 ⟨rfl, hb1⟩) | (go_at_call 28; refine (HAS.out _ (by (repeat' (first | (with_reducible exact Below.refl _ _) | (with_reducible refine below_alloc ?_) | (with_reducible refine below_drew ?_) | (with_reducible refine below_drewN ?_) | (with_reducible refine below_set (by first | (simp; done) | (simp; omega)) ?_) | (with_reducible refine below_call (by with_reducible assumption) ?_))))).mono ?_; rintro e w2 ⟨v2, rfl, ho2, hb2⟩; have HO2 := Lib.hid ho2; clear ho2))
    go_ret2
    exact ⟨⟨v2, rfl, own_base HO2.out (by have := hb1.size; omega)⟩, by (repeat' (first | (with_reducible exact Below.refl _ _) | (with_reducible refine below_alloc ?_) | (with_reducible refine below_drew ?_) | (with_reducible refine below_drewN ?_) | (with_reducible refine below_set (by first | (simp; done) | (simp; omega)) ?_) | (with_reducible refine below_call (by with_reducible assumption) ?_)))⟩
  · have hfb := ne_i hf0
    have hfn : (f != 0) = true := by simpa using hf0
    simp only [ne_eq, hf0, not_false_eq_true, if_true]
    clear hf hsA hxA
    go_enter Tryz.func10, Tryz.ntmps10
    go_wp2_with (go_at_call 27; refine (HFT.out _ (by (repeat' (first | (with_reducible exact Below.refl _ _) | (with_reducible refine below_alloc ?_) | (with_reducible refine below_drew ?_) | (with_reducible refine below_drewN ?_) | (with_reducible refine below_set (by first | (simp; done) | (simp; omega)) ?_) | (with_reducible refine below_call (by with_reducible assumption) ?_))))).mono ?_; rintro e w1 ⟨rfl, hb1⟩)
    go_ret2
    exact ⟨rfl, by (repeat' (first | (with_reducible exact Below.refl _ _) | (with_reducible refine below_alloc ?_) | (with_reducible refine below_drew ?_) | (with_reducible refine below_drewN ?_) | (with_reducible refine below_set (by first | (simp; done) | (simp; omega)) ?_) | (with_reducible refine below_call (by with_reducible assumption) ?_)))⟩
end Go.Proofs.YtenjkplijblcoaaGreatDoor
