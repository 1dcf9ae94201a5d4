/- expr.Parse: what it answers. -/
import Derived.Test.YtbnelgniekcjdaaGreatDoorCRdJ
import Derived.Test.YtbnelgniekcjdaaGreatDoorCFDepth
set_option linter.unusedSimpArgs false
set_option linter.unusedVariables false
namespace Go.Proofs.YtbnelgniekcjdaaGreatDoor
open Go.RowKit Cap
set_option maxRecDepth 100000

/-- What becomes of what was read. -/
def readOf (a : Nat) (q : PR) : Cap.Read := match q with
  | .no b e => .no b e
  | .ok b y => if 500 < y.length ∨ 24 < depthL y then .no a 2 else .ok y b
theorem parse_of (l : List Tok) (a : Nat) (ha : a ≤ l.length) : parseP l (a : Int) = readOf a (orP l (unP l 200) a) := by
  unfold parseP readOf
  rw [if_neg (by omega), Int.toNat_natCast]
  cases orP l (unP l 200) a <;> rfl
/-- What Parse answers. -/
inductive ParE (w : World) : Cap.Read → Ending → World → Prop
  | ok {x : List Prt} {n : Int} {v : Value} {w' : World} (h : w'.ownsRow w.heap.size 44 5 v x.length (x.flatMap encPrt)) (hb : Below w.heap.size w w') : ParE w (.ok x n) (.returned (.tuple #[v, .int .i64 n, .agg #[.int .i64 0, .int .i64 0]])) w'
  | no {b e : Int} {w' : World} (hb : Below w.heap.size w w') : ParE w (.no b e) (.returned (.tuple #[.slice none 0 0, .int .i64 0, .agg #[.int .i64 b, .int .i64 e]])) w'
theorem own_weak {w : World} {base base' : Nat} {e : TypeId} {k : Nat} {v : Value} {n : Nat} {xs : List Value} (h : w.ownsRow base e k v n xs) (hb : base' ≤ base) : w.ownsRow base' e k v n xs := by
  refine ⟨h.1, ?_⟩
  rcases h.2 with h | ⟨g, cap, cur, rfl, hg, rest⟩
  · exact .inl h
  · exact .inr ⟨g, cap, cur, rfl, Nat.le_trans hb hg, rest⟩
theorem results_cells3 {fn : Func} {p q r : Tmp} {tp tq tr : TypeId} (h : fn.results = #[.cell p tp, .cell q tq, .cell r tr]) (tmps : Array Value) (P : Program) (w : World) :
    (results fn tmps).run P w =
      ((asAddr (tmps.getD p undef)).run P w).andThen fun a w₁ => ((loadVar tp a).run P w₁).andThen fun v w₂ => ((asAddr (tmps.getD q undef)).run P w₂).andThen fun b w₃ => ((loadVar tq b).run P w₃).andThen fun u w₄ =>
        ((asAddr (tmps.getD r undef)).run P w₄).andThen fun d w₅ => ((loadVar tr d).run P w₅).andThen fun x w₆ => .ok (.tuple #[v, u, x]) w₆ := by
  simp only [results, h]
  simp [Sem.run_bind, Result.andThen]
theorem res3_run (tmps : Array Value) (W : World) (p : Nat) {x n f c : Value} (h : Res3 p x n f c W) (h4 : tmps.getD 4 undef = .pointer (some ⟨p, 0, none⟩)) (h5 : tmps.getD 5 undef = .pointer (some ⟨p + 1, 0, none⟩)) (h6 : tmps.getD 6 undef = .pointer (some ⟨p + 1 + 1, 0, none⟩)) :
    (results Tryz.f10 tmps).run Tryz.prog W = .ok (.tuple #[x, n, .agg #[f, c]]) W := by
  rw [results_cells3 (p := 4) (q := 5) (r := 6) (tp := 26) (tq := 3) (tr := 34) rfl, h4, h5, h6]
  have c0 := cell_of_row _ _ 0 _ _ _ h.a
  have c1 := cell_of_row _ _ 0 _ _ _ h.b
  have c2 := cell_of_row _ _ 0 _ _ _ h.c
  have c3 := cell_of_row _ _ 1 _ _ _ h.c
  simp at c0 c1 c2 c3
  go_simp
theorem Res3.laid (W : World) (x n f c : Value) : Res3 W.heap.size x n f c (((W.alloc (.cells #[x] 26)).alloc (.cells #[n] 3)).alloc (.cells #[f, c] 34)) := by
  refine ⟨?_, ?_, ?_⟩
  · exact hpA (hpA (heap_alloc_new _ _))
  · have h := heap_alloc_new (W.alloc (.cells #[x] 26)) (.cells #[n] 3)
    rw [World.size_alloc] at h
    exact hpA h
  · have h := heap_alloc_new ((W.alloc (.cells #[x] 26)).alloc (.cells #[n] 3)) (.cells #[f, c] 34)
    rw [World.size_alloc, World.size_alloc] at h
    exact h
theorem own_sets4 {w : World} {base : Nat} {e : TypeId} {k : Nat} {u : Value} {n : Nat} {xs : List Value} (h : w.ownsRow base e k u n xs) {p : Nat} (hp : p + 1 + 1 < base) (v m a b : Value) :
    ((((w.setCell ⟨p, 0, none⟩ v).setCell ⟨p + 1, 0, none⟩ m).setCell ⟨p + 1 + 1, 0, none⟩ a).setCell ⟨p + 1 + 1, 1, none⟩ b).ownsRow base e k u n xs :=
  own_keep h fun g hg => by
    have hge := (own_lt h g hg).1
    have o : ∀ (w : World) (q j : Nat) (u : Value), g ≠ q → (w.setCell ⟨q, j, none⟩ u).heap[g]? = w.heap[g]? := fun w q j u hk => heap_setCell_other w ⟨q, j, none⟩ g u hk
    rw [o _ _ _ _ (by omega), o _ _ _ _ (by omega), o _ _ _ _ (by omega), o _ _ _ _ (by omega)]
/-- Only what ends as it should. -/
def OnlyN (Q : Exit → Act → World → Prop) : Exit → Act → World → Prop
  | .normal, a, w => Q .normal a w
  | _, _, _ => False
theorem wp_onlyN {P : Program} {Q : Exit → Act → World → Prop} {c : Code} {a : Act} {w : World} (h : c.wp P (OnlyN Q) a w) : c.wp P Q a w := wp_mono h fun e a w h => by cases e <;> first | exact h | exact h.elim
set_option maxHeartbeats 4000000 in
theorem parse_c (l : List Tok) (w : World) (lv : Value) (at_ : Int) (hl : TokL w lv l) (hm : TokMax l.length) (hG : GX w) (hts : ∀ t ∈ l, t.s.size ≤ 140737488351232) :
    Calls Tryz.prog 10 #[lv, .int .i64 at_] w (ParE w (parseP l at_)) := by
  have hmf : ∀ (fn : Fn) (first cap : Array Value) (w : World), (Instr.makeFunc fn first cap).run Tryz.prog w = .ok (.func fn first cap) w := fun _ _ _ _ => rfl
  obtain ⟨A, c, rfl, hln, hmx, hcx⟩ := hl
  have HL := Lib.hid (show TokL w (.slice A l.length c) l from ⟨A, c, rfl, hln, hmx, hcx⟩)
  by_cases h0 : at_ < 0
  · rw [show parseP l at_ = .no 0 1 by unfold parseP; rw [if_pos (.inl h0)]]
    clear hcx
    go_enter_defers Tryz.func10, Tryz.ntmps10
    go_wp2
    exact ⟨_, res3_run _ _ w.heap.size (Res3.laid w _ _ _ _) rfl rfl rfl, .no (by (repeat' (first | (with_reducible exact Below.refl _ _) | (with_reducible refine below_alloc ?_) | (with_reducible refine below_drew ?_) | (with_reducible refine below_drewN ?_) | (with_reducible refine below_set (by first | (simp; done) | (simp; omega)) ?_) | (with_reducible refine below_call (by with_reducible assumption) ?_))))⟩
  · by_cases h1 : (l.length : Int) < at_
    · rw [show parseP l at_ = .no 0 1 by unfold parseP; rw [if_pos (.inr h1)]]
      clear hcx
      go_enter_defers Tryz.func10, Tryz.ntmps10
      go_wp2
      exact ⟨_, res3_run _ _ w.heap.size (Res3.laid w _ _ _ _) rfl rfl rfl, .no (by (repeat' (first | (with_reducible exact Below.refl _ _) | (with_reducible refine below_alloc ?_) | (with_reducible refine below_drew ?_) | (with_reducible refine below_drewN ?_) | (with_reducible refine below_set (by first | (simp; done) | (simp; omega)) ?_) | (with_reducible refine below_call (by with_reducible assumption) ?_))))⟩
    · obtain ⟨a, rfl⟩ : ∃ a : Nat, at_ = a := ⟨at_.toNat, by omega⟩
      have ha : a ≤ l.length := by omega
      obtain ⟨W0, hW0⟩ : ∃ W0, W0 = ((w.alloc (.cells #[.slice none 0 0] 26)).alloc (.cells #[.int .i64 0] 3)).alloc (.cells #[.int .i64 0, .int .i64 0] 34) := ⟨_, rfl⟩
      have hb0 : Below w.heap.size w W0 := by rw [hW0]; (repeat' (first | (with_reducible exact Below.refl _ _) | (with_reducible refine below_alloc ?_) | (with_reducible refine below_drew ?_) | (with_reducible refine below_drewN ?_) | (with_reducible refine below_set (by first | (simp; done) | (simp; omega)) ?_) | (with_reducible refine below_call (by with_reducible assumption) ?_)))
      have hs0 : W0.heap.size = w.heap.size + 1 + 1 + 1 := by rw [hW0]; simp
      have hr0 : Res3 w.heap.size (.slice none 0 0) (.int .i64 0) (.int .i64 0) (.int .i64 0) W0 := by rw [hW0]; exact Res3.laid w _ _ _ _
      have hl0 : TokL W0 (.slice A l.length c) l := HL.out.below hb0
      have hRd : Rd W0 (w.heap.size + 1 + 1 + 1) (.slice A l.length c) a 0 (.slice none 0 0) [] (W0.alloc (.cells #[.slice A l.length c, .int .i64 a, .int .i64 0, .slice none 0 0] 57)) :=
        ⟨by (repeat' (first | (with_reducible exact Below.refl _ _) | (with_reducible refine below_alloc ?_) | (with_reducible refine below_drew ?_) | (with_reducible refine below_drewN ?_) | (with_reducible refine below_set (by first | (simp; done) | (simp; omega)) ?_) | (with_reducible refine below_call (by with_reducible assumption) ?_))), by omega, by rw [← hs0]; exact heap_alloc_new _ _, World.ownsRow_nil _ _ _ _⟩
      obtain ⟨q, hq⟩ : ∃ q, orP l (unP l 200) a = q := ⟨_, rfl⟩
      have HZ := Lib.hid (show parseP l (a : Int) = readOf a q by rw [parse_of l a ha, hq])
      have HOR := Lib.hid (or_all l W0 (w.heap.size + 1 + 1 + 1) (.slice A l.length c) hl0 hm (hG.below hb0) hts _ a _ [] hRd (Nat.zero_le _) ha)
      rw [hq] at HOR
      have HGD := Lib.hid (show ∀ b y, q = .ok b y → b ≤ l.length ∧ y.length ≤ l.length from fun b y e => by
        obtain ⟨g1, g2, g3⟩ := orP_good (un_good l 200) _ _ _ (hq.trans e)
        exact ⟨g2, by omega⟩)
      have HB0 := Lib.hid hb0
      have HR0 := Lib.hid hr0
      have HS0 := Lib.hid hs0
      rw [hW0] at HOR
      rw [← hW0] at HOR
      generalize hPZ : parseP l (a : Int) = PZ at HZ ⊢
      have ham : (a : Int) ≤ 2932031007402 := by unfold TokMax at hm; omega
      clear hPZ hq hcx hl0 hRd hr0 hb0 hs0 HL hG hts h0 h1
      subst hW0
      go_enter_defers Tryz.func10, Tryz.ntmps10
      go_upto_region 5 with fail
      go_wp2_with fail
      refine HOR.out.mono ?_
      rintro e w1 hE
      cases hE with
      | @no b e w1 hb1 hk =>
        have hbw := below_weak hb1 (show w.heap.size ≤ _ by have := HS0.out; omega)
        have hb2 := HB0.out.trans hbw
        have hr1 := HR0.out.below hb1
        refine leaves_cons (f := 16) (args := #[.pointer (some ⟨w.heap.size, 0, none⟩), .pointer (some ⟨w.heap.size + 1, 0, none⟩), .pointer (some ⟨w.heap.size + 1 + 1, 0, none⟩)]) (by simp) (by simp [go_sem]) ?_
        refine (catch_pan w.heap.size w1 b e _ _ _ _ hr1).mono ?_
        rintro e' u' w2 ⟨rfl, rfl, hb3, hr3⟩
        rw [HZ.out]
        exact ⟨_, res3_run _ _ w.heap.size hr3 rfl rfl rfl, .no (hb2.trans hb3)⟩
      | @ok b y w1 ov1 h1 hk =>
        have hbw := below_weak h1.b0 (show w.heap.size ≤ _ by have := HS0.out; omega)
        have hb2 := Lib.hid (HB0.out.trans hbw)
        have hr1 := Lib.hid (HR0.out.below h1.b0)
        obtain ⟨⟨k0, k1, k2, k3⟩, hzz⟩ := h1.cells
        have h1o := h1.own
        rw [List.nil_append] at h1o
        obtain ⟨A1, c1, rfl⟩ := own_slice h1o
        have HO1 := Lib.hid h1o
        have HY := Lib.hid (Sl.own encPrt_len h1o rfl)
        obtain ⟨g1, g2⟩ := HGD.out _ _ rfl
        have H1 := Lib.hid h1
        have hlt1 := h1.lt
        obtain ⟨yl, hyl⟩ : ∃ n, y.length = n := ⟨_, rfl⟩
        have hyl0 : (0 : Int) ≤ (yl : Int) := Int.natCast_nonneg _
        rw [hyl] at k3
        have HYL := Lib.hid hyl
        clear k0 k2 hzz h1 h1o hbw hk hyl
        have s0 := cell_of_row _ _ 0 _ _ _ hr1.out.a
        have s1 := cell_of_row _ _ 0 _ _ _ hr1.out.b
        have s2 := cell_of_row _ _ 0 _ _ _ hr1.out.c
        have s3 := cell_of_row _ _ 1 _ _ _ hr1.out.c
        have t0 := frozen_of_row _ _ 0 _ _ hr1.out.a
        have t1 := frozen_of_row _ _ 0 _ _ hr1.out.b
        have t2 := frozen_of_row _ _ 0 _ _ hr1.out.c
        have t3 := frozen_of_row _ _ 1 _ _ hr1.out.c
        simp at s0 s1 s2 s3
        by_cases h5 : 500 < yl
        · have h5z : (500 : Int) < (yl : Int) := by omega
          have HR := Lib.hid (show PZ = .no a 2 by rw [HZ.out]; unfold readOf; simp only; rw [if_pos (.inl (by rw [HYL.out]; exact h5))])
          go_wp2_with fail
          refine leaves_cons (f := 16) (args := #[.pointer (some ⟨w.heap.size, 0, none⟩), .pointer (some ⟨w.heap.size + 1, 0, none⟩), .pointer (some ⟨w.heap.size + 1 + 1, 0, none⟩)]) (by simp) (by simp [go_sem]) ?_
          refine (catch_idle w.heap.size _).mono ?_
          rintro e' u' w2 ⟨rfl, rfl, hb3⟩
          rw [HR.out]
          exact ⟨_, res3_run _ _ w.heap.size ((hr1.out.sets _ _ _ _).below hb3) rfl rfl rfl, .no ((hb2.out.trans (sets4_below _ _ _ _ _ _)).trans (below_weak hb3 (by have := hb2.out.size; simp; omega)))⟩
        · have h5z : ¬ (500 : Int) < (yl : Int) := by omega
          have HDC := Lib.hid (depth_c y _ w1 HY.out (by have := HYL.out; omega))
          rw [HYL.out] at HDC
          by_cases h24 : 24 < depthL y
          · have h24z : (24 : Int) < (depthL y : Int) := by omega
            have HR := Lib.hid (show PZ = .no a 2 by rw [HZ.out]; unfold readOf; simp only; rw [if_pos (.inr h24)])
            go_upto_region 7 with (go_at_call 18; refine HDC.out.mono ?_; rintro e w2 ⟨rfl, hb2'⟩)
            have hr2 := hr1.out.below hb2'
            have hbb := hb2.out.trans (below_weak hb2' (by have := hb2.out.size; omega))
            have hR2 := Lib.hid hr2
            have hBB := Lib.hid hbb
            clear s0 s1 s2 s3 t0 t1 t2 t3
            have s0 := cell_of_row _ _ 0 _ _ _ hr2.a
            have s1 := cell_of_row _ _ 0 _ _ _ hr2.b
            have s2 := cell_of_row _ _ 0 _ _ _ hr2.c
            have s3 := cell_of_row _ _ 1 _ _ _ hr2.c
            have t0 := frozen_of_row _ _ 0 _ _ hr2.a
            have t1 := frozen_of_row _ _ 0 _ _ hr2.b
            have t2 := frozen_of_row _ _ 0 _ _ hr2.c
            have t3 := frozen_of_row _ _ 1 _ _ hr2.c
            simp at s0 s1 s2 s3
            clear hr2 hbb
            go_wp2_with fail
            refine leaves_cons (f := 16) (args := #[.pointer (some ⟨w.heap.size, 0, none⟩), .pointer (some ⟨w.heap.size + 1, 0, none⟩), .pointer (some ⟨w.heap.size + 1 + 1, 0, none⟩)]) (by simp) (by simp [go_sem]) ?_
            refine (catch_idle w.heap.size _).mono ?_
            rintro e' u' w3 ⟨rfl, rfl, hb3⟩
            rw [HR.out]
            exact ⟨_, res3_run _ _ w.heap.size ((hR2.out.sets _ _ _ _).below hb3) rfl rfl rfl, .no ((hBB.out.trans (sets4_below _ _ _ _ _ _)).trans (below_weak hb3 (by have := hBB.out.size; simp; omega)))⟩
          · have h24z : ¬ (24 : Int) < (depthL y : Int) := by omega
            have HR := Lib.hid (show PZ = .ok y b by rw [HZ.out]; unfold readOf; simp only; rw [if_neg (by rw [HYL.out]; omega)])
            go_upto_region 8 with (go_at_call 18; refine HDC.out.mono ?_; rintro e w2 ⟨rfl, hb2'⟩)
            have hr2 := hr1.out.below hb2'
            have hbb := hb2.out.trans (below_weak hb2' (by have := hb2.out.size; omega))
            have hR2 := Lib.hid hr2
            have hBB := Lib.hid hbb
            have H2 := Lib.hid (H1.out.below hb2')
            clear s0 s1 s2 s3 t0 t1 t2 t3 k1 k3
            have s0 := cell_of_row _ _ 0 _ _ _ hr2.a
            have s1 := cell_of_row _ _ 0 _ _ _ hr2.b
            have s2 := cell_of_row _ _ 0 _ _ _ hr2.c
            have s3 := cell_of_row _ _ 1 _ _ _ hr2.c
            have t0 := frozen_of_row _ _ 0 _ _ hr2.a
            have t1 := frozen_of_row _ _ 0 _ _ hr2.b
            have t2 := frozen_of_row _ _ 0 _ _ hr2.c
            have t3 := frozen_of_row _ _ 1 _ _ hr2.c
            simp at s0 s1 s2 s3
            obtain ⟨⟨k0, k1, k2, k3⟩, hzz⟩ := H2.out.cells
            rw [HYL.out] at k3
            have r1 := H2.out.lt
            clear hr2 hbb k0 k2 hzz
            apply wp_onlyN
            go_region_law (fail)
            all_goals
              simp only [OnlyN]
              go_wp2_with fail
              refine leaves_cons (f := 16) (args := #[.pointer (some ⟨w.heap.size, 0, none⟩), .pointer (some ⟨w.heap.size + 1, 0, none⟩), .pointer (some ⟨w.heap.size + 1 + 1, 0, none⟩)]) (by simp) (by simp [go_sem]) ?_
              refine (catch_idle w.heap.size _).mono ?_
              rintro e' u' w3 ⟨rfl, rfl, hb3⟩
              rw [HR.out]
              have hd : ∀ W : World, Below W.heap.size W W.drew := fun W => below_drew (Below.refl _ _)
              have hsz := HS0.out
              have ho := own_below (own_below (own_sets4 (own_below HO1.out hb2') (p := w.heap.size) (by omega) (.slice A1 yl c1) (.int .i64 b) (.int .i64 0) (.int .i64 0)) (hd _)) hb3
              rw [HYL.out] at ho
              exact ⟨_, res3_run _ _ w.heap.size (((hR2.out.sets _ _ _ _).below (hd _)).below hb3) rfl rfl rfl, .ok (by rw [HYL.out]; exact own_weak ho (by omega)) (((hBB.out.trans (sets4_below _ _ _ _ _ _)).trans (below_weak (hd _) (by have := hBB.out.size; simp; omega))).trans (below_weak hb3 (by have := hBB.out.size; simp; omega)))⟩
end Go.Proofs.YtbnelgniekcjdaaGreatDoor
