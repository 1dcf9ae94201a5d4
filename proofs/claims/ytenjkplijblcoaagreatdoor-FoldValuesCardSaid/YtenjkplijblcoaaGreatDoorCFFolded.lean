/- fold.folded. -/
import Derived.Test.YtenjkplijblcoaaGreatDoorCFEach
import Derived.Test.YtenjkplijblcoaaGreatDoorCReckon
set_option linter.unusedSimpArgs false
set_option linter.unusedVariables false
namespace Cap
open Go Go.RowKit
theorem foldGo_snoc (p : Prt) : ∀ (r out : List Prt), foldGo (r ++ [p]) out = foldStep p (foldGo r out)
  | [], out => rfl
  | q :: r, out => by
    rw [List.cons_append, foldGo, foldGo]
    exact foldGo_snoc p r (foldStep q out)
theorem foldGo_take {x : List Prt} {i : Nat} {p : Prt} (h : x[i]? = some p) : foldGo (x.take (i + 1)) [] = foldStep p (foldGo (x.take i) []) := by
  obtain ⟨hi, rfl⟩ := List.getElem?_eq_some_iff.1 h
  rw [List.take_succ_eq_append_getElem hi, foldGo_snoc]
theorem foldStep_0 {p : Prt} {out : List Prt} (h : takesT p = 0) : foldStep p out = out ++ [p] := by
  unfold foldStep
  rw [if_neg (fun h' => h'.1 h)]
theorem foldStep_len (p : Prt) (out : List Prt) (h : takesT p ≤ out.length) : out.length - takesT p + 1 ≤ (foldStep p out).length ∧ (foldStep p out).length ≤ out.length + 1 := by
  unfold foldStep
  split
  · rw [List.length_append, List.length_take, List.length_singleton]
    omega
  · rw [List.length_append, List.length_singleton]
    omega
end Cap
namespace Go.Proofs.YtenjkplijblcoaaGreatDoor
open Go.RowKit Cap
set_option maxRecDepth 100000
attribute [local go_sem] Oper.semAt_some

theorem types_ne {W : World} {b : Nat} {c c' : Array Value} {T T' : TypeId} {fr fr' : Nat × Nat} (h : W.heap[b]? = some (.cells c T fr)) (h' : W.heap[b]? = some (.cells c' T' fr')) (hne : T ≠ T') : False := by
  rw [h] at h'
  simp at h'
  exact hne h'.2.1
theorem cell_add_new (w : World) (cs : List Value) (t : TypeId) (j : Nat) : (w.alloc (.cells cs.toArray t)).cell? ((⟨w.heap.size, 0, none⟩ : Addr).add j) = cs[j]? := by
  have hadd : (⟨w.heap.size, 0, none⟩ : Addr).add j = ⟨w.heap.size, j, none⟩ := by unfold Addr.add; split <;> simp_all
  rw [hadd, World.cell?_alloc_at _ _ _ _ rfl]
  simp
/-- What lies behind i parts. -/
structure FoldSt (w : World) (vx : Value) (x : List Prt) (i : Nat) (W : World) (so : Value) : Prop where
  b0 : Boxed W w.heap.size 23 vx
  b1 : Boxed W (w.heap.size + 1) 23 so
  b2 : Boxed W (w.heap.size + 2) 23 vx
  row : W.ownsRow w.heap.size 38 5 so (foldGo (x.take i) []).length ((foldGo (x.take i) []).flatMap encPrt)
  below : Below w.heap.size w W
  ge : (stackAt x i).length ≤ (foldGo (x.take i) []).length
  le : (foldGo (x.take i) []).length ≤ i
theorem FoldSt.kept {w : World} {vx : Value} {x : List Prt} {i : Nat} {A B : World} {so : Value} {row : Option Nat} (h : FoldSt w vx x i A so) (hg : A.grownBy B row)
    (hr : ∀ r, row = some r → w.heap.size ≤ r ∧ ∃ o, A.heap[r]? = some o ∧ ∀ c fr, o ≠ .cells c 23 fr ∧ o ≠ .cells c 38 fr) : FoldSt w vx x i B so := by
  have hbx : ∀ {b v}, Boxed A b 23 v → some b ≠ row := fun {b v} hv e => by
    obtain ⟨_, o, ho, hn⟩ := hr b e.symm
    have := (show A.heap[b]? = _ from hv).symm.trans ho
    injection this with this
    exact (hn _ _).1 this.symm
  refine ⟨h.b0.kept hg (hbx h.b0), h.b1.kept hg (hbx h.b1), h.b2.kept hg (hbx h.b2), h.row.kept hg ?_, below_grown h.below hg (fun r hr' => (hr r hr').1), h.ge, h.le⟩
  rcases h.row.2 with ⟨e, _⟩ | ⟨g, cap, cur, e, _, hgb, _⟩
  · rw [e]
    exact .inl rfl
  · rw [e]
    refine .inr fun e' => ?_
    obtain ⟨_, o, ho, hn⟩ := hr g e'.symm
    rw [hgb] at ho
    injection ho with ho
    exact (hn _ _).2 ho.symm
def FoldI (w : World) (vx : Value) (x : List Prt) (i : Nat) (_ : Option Nat) (W : World) : Prop := ∃ so, FoldSt w vx x i W so
/-- One part more. -/
theorem FoldSt.next {w : World} {vx : Value} {x : List Prt} {i n1 n5 : Nat} {W Wc w5 : World} {so s5 : Value} {own : Option Nat} {tmp : Obj} {xs5 : List Value} (h : FoldSt w vx x i W so) (hb : Below W.heap.size W Wc)
    (hg : (Wc.alloc tmp).grownBy w5 so.ownBlock) (hown : w5.ownsRow w.heap.size 38 5 s5 n5 xs5) (ho : OwnRow 3 n1 own W) :
    Boxed w5 (w.heap.size + 1) 23 so ∧
    (n5 = (foldGo (x.take (i + 1)) []).length → xs5 = (foldGo (x.take (i + 1)) []).flatMap encPrt → (stackAt x (i + 1)).length ≤ n5 → n5 ≤ i + 1 →
      KeepsOthers W (w5.setCell ⟨w.heap.size + 1, 0, none⟩ s5) ∧ KeepE w.heap.size (w.heap.size + 2) own W (w5.setCell ⟨w.heap.size + 1, 0, none⟩ s5) ∧ FoldI w vx x (i + 1) own (w5.setCell ⟨w.heap.size + 1, 0, none⟩ s5)) := by
  have hc : FoldSt w vx x i Wc so := h.kept (grown_below hb none) (fun r e => by cases e)
  obtain ⟨v1, v2, v3, v4, v5⟩ := hc.b1.appended (by decide) hc.row hc.below.size (Nat.le_succ _) hown hg
  refine ⟨v1, ?_⟩
  rintro rfl rfl hge hle
  have hne : ∀ {b v}, Boxed Wc b 23 v → some b ≠ so.ownBlock := fun hv => hv.not_row (by decide) hc.row
  have hset : ∀ (b : Nat), b ≠ w.heap.size + 1 → (w5.setCell ⟨w.heap.size + 1, 0, none⟩ s5).heap[b]? = w5.heap[b]? := fun b hb => Below.heap_setCell _ _ _ b hb
  have hk : KeepsOthers W (w5.setCell ⟨w.heap.size + 1, 0, none⟩ s5) := by
    refine KeepsOthers.trans ⟨hb.size, fun k o hk _ => (hb.block k (Array.getElem?_eq_some_iff.1 hk).1).trans hk⟩ v4
  have hbox : ∀ {b v}, b ≠ w.heap.size + 1 → Boxed Wc b 23 v → Boxed (w5.setCell ⟨w.heap.size + 1, 0, none⟩ s5) b 23 v := fun {b v} hb' hv => (hset b hb').trans ((hv.alloc tmp).kept hg (hne hv))
  refine ⟨hk, ⟨?_, ?_, ?_⟩, s5, ?_, v2, ?_, v3, hc.below.trans v5, hge, hle⟩
  · exact (hb.mono h.below.size).trans v5
  · exact (hbox (by omega) hc.b2).trans (show W.heap[w.heap.size + 2]? = _ from h.b2).symm
  · intro r hr
    obtain ⟨_, c, fr, hw⟩ := ho r hr
    have hlt := (Array.getElem?_eq_some_iff.1 hw).1
    have hwc : Wc.heap[r]? = some (.cells c 3 fr) := (hb.block r hlt).trans hw
    have hr1 : r ≠ w.heap.size + 1 := fun e => types_ne (show W.heap[w.heap.size + 1]? = _ from h.b1) (by rw [← e]; exact hw) (by decide)
    rw [hset r hr1]
    refine ((hg.block r (by have := (Array.getElem?_eq_some_iff.1 hwc).1; simp; omega) (fun e => ?_)).trans (Below.heap_alloc _ _ r (Array.getElem?_eq_some_iff.1 hwc).1)).trans (hwc.trans hw.symm)
    rcases hc.row.2 with ⟨e', _⟩ | ⟨g, cap, cur, e', _, hgb, _⟩
    · rw [e'] at e
      cases e
    · rw [e'] at e
      injection e with e
      have e : r = g := e
      exact types_ne hwc (by rw [e]; exact hgb) (by decide)
  · exact hbox (by omega) hc.b0
  · exact hbox (by omega) hc.b2
set_option maxHeartbeats 8000000 in
theorem folded_c (x : List Prt) (hfl : FlatOk x) (h500 : x.length ≤ 500) (vx : Value) (w : World) (hx : Sl encPrt 5 w vx x) :
    Calls Tryz.prog 29 #[vx] w fun e w' => ∃ v, e = .returned v ∧ w'.ownsRow w.heap.size 38 5 v (foldGo x []).length ((foldGo x []).flatMap encPrt) ∧ Below w.heap.size w w' := by
  have HX := Lib.hid hx
  have HFL := Lib.hid hfl
  have hv0 := hx
  obtain ⟨Ax, cx, rfl, hxl, hxm, hxc⟩ := hx
  have HXC := Lib.hid hxc
  clear hxc
  refine (callsIn_wide (n := 4)).1 ?_
  refine callsIn_of_wp_marks Tryz.func29 rfl trivial ?_ rfl
  simp only [Tryz.ntmps29, List.size_toArray, List.length_cons, List.length_nil, Nat.reduceAdd, Nat.reduceSub, Array.replicate_succ, Array.replicate_zero, List.push_toArray, List.append_toArray, List.nil_append, List.cons_append]
  have hfE : Fence.wide.fn 25 := trivial
  have hfT : Fence.wide.fn 44 := trivial
  have hfC : Fence.wide.fn 53 := trivial
  have hfR : Fence.wide.fn 55 := trivial
  gi_wp2_with (gi_at_call 25; refine (callsIn_wide.2 (each_c _ _ _ _)).mono ?_; rintro e w1 ⟨rfl, rfl⟩)
  have B0 := Boxed.new w 23 (.slice Ax x.length cx)
  have B1 := Boxed.new (w.alloc (.cells #[.slice Ax x.length cx] 23)) 23 (.slice none 0 0)
  have B2 := Boxed.new ((w.alloc (.cells #[.slice Ax x.length cx] 23)).alloc (.cells #[.slice none 0 0] 23)) 23 (.slice Ax x.length cx)
  rw [World.size_alloc] at B1
  rw [World.size_alloc, World.size_alloc] at B2
  have hB3 : Below w.heap.size w (((w.alloc (.cells #[.slice Ax x.length cx] 23)).alloc (.cells #[.slice none 0 0] 23)).alloc (.cells #[.slice Ax x.length cx] 23)) := by (repeat' (first | (with_reducible exact Below.refl _ _) | (with_reducible refine below_alloc ?_) | (with_reducible refine below_drew ?_) | (with_reducible refine below_drewN ?_) | (with_reducible refine below_set (by first | (simp; done) | (simp; omega)) ?_) | (with_reducible refine below_call (by with_reducible assumption) ?_)))
  refine wp_rangeFunc_each (ti := 3) (gf := 43) (lb := #[.pointer (some ⟨w.heap.size + 1 + 1, 0, none⟩)]) rfl (enters_of Tryz.func43 (by kernel_rfl) rfl) (n0 := w.heap.size) (bx := w.heap.size + 2) (N := x.length) (vals := valsAt x)
    (w0 := (((w.alloc (.cells #[.slice Ax x.length cx] 23)).alloc (.cells #[.slice none 0 0] 23)).alloc (.cells #[.slice Ax x.length cx] 23))) (each1_c x HFL.out h500 _ w hv0 _ hB3 (w.heap.size + 2) B2) (Below.refl _ _) (by simp; omega) ⟨_, B2, rfl⟩ rfl (FoldI w (.slice Ax x.length cx) x) ?hIo ?hIe ?h0
    (fun i v => { tmps := #[.slice Ax x.length cx, .pointer (some ⟨w.heap.size, 0, none⟩), .slice none 0 0, .pointer (some ⟨w.heap.size + 1, 0, none⟩), .int .i64 (i : Int), undef, undef, undef, undef, undef, undef, .slice Ax x.length cx, .func (.func 43) #[] #[.pointer (some ⟨w.heap.size + 1 + 1, 0, none⟩)], .int .i64 (i : Int), v, undef, undef, undef, undef, undef, undef, undef, undef, undef, undef, undef, undef, undef, undef, undef, undef, undef, undef, undef, undef, undef, undef, undef, undef, undef, undef, undef, undef, undef, undef, undef, undef, undef, undef, undef, undef, undef, undef, undef, undef, undef, undef, undef, undef, undef], defers := [] }) ?assign ?body ?done
  case hIo =>
    rintro i own A B row ⟨so, hS⟩ hg hr
    refine ⟨so, hS.kept hg fun r e => ?_⟩
    obtain ⟨h1, o, h2, h3⟩ := hr r e
    refine ⟨by simp at h1; omega, o, h2, fun c fr => ⟨fun e => ?_, fun e => ?_⟩⟩ <;> (rw [e] at h3; cases h3)
  case hIe =>
    rintro i own own' A B ⟨so, hS⟩ ⟨hg, ho, _⟩
    refine ⟨so, hS.kept hg fun r e => ?_⟩
    obtain ⟨h1, c, fr, h2⟩ := ho r e
    refine ⟨by simp at h1; omega, _, h2, fun c' fr' => ⟨fun e => ?_, fun e => ?_⟩⟩ <;> (injection e with _ e; cases e)
  case h0 => exact ⟨_, (B0.alloc _).alloc _, B1.alloc _, B2, World.ownsRow_nil _ _ _ _, hB3, by simp [stackAt], by simp [foldGo]⟩
  case assign =>
    intro l i v W K hK
    gi_wp2
    exact hK
  case done =>
    rintro D own W hD ⟨so, hS⟩ hK
    have hc := hS.b1.cell
    gi_wp2
    refine ⟨by simp, .inl ⟨_, _, rfl, run_takeDeferred hK, ?_⟩⟩
    have hrow := hS.row
    rw [List.take_length] at hrow
    exact ⟨_, results_tmp rfl _ _ _, so, rfl, ownsRow_putObj hrow _ hK rfl, hS.below.trans (belowK_b (w := w) (Nat.le_refl _) W D _ _ (by simp at hD; omega) hK rfl rfl)⟩
  case body =>
    rintro l i own v W hiN ⟨so, hS⟩ hrow hv
    obtain ⟨p, hp⟩ : ∃ p, x[i]? = some p := ⟨x[i], List.getElem?_eq_getElem hiN⟩
    obtain ⟨b, off, rfl, hb, hcx⟩ := HXC.out i p hp
    have hB := hS.below
    have c0 : W.cell? ⟨b, off + i * 5, none⟩ = some (.int .i64 p.k) := (hB.cell (p := ⟨b, off + i * 5, none⟩) hb).trans (by simpa using hcx 0 _ rfl)
    have c1 : W.cell? ⟨b, off + i * 5 + 1, none⟩ = some (.int .i64 p.n) := (hB.cell (p := ⟨b, off + i * 5 + 1, none⟩) hb).trans (by simpa using hcx 1 _ rfl)
    have c2 : W.cell? ⟨b, off + i * 5 + 2, none⟩ = some (.int .i64 p.t) := (hB.cell (p := ⟨b, off + i * 5 + 2, none⟩) hb).trans (by simpa using hcx 2 _ rfl)
    have c3 : W.cell? ⟨b, off + i * 5 + 3, none⟩ = some (.string p.s) := (hB.cell (p := ⟨b, off + i * 5 + 3, none⟩) hb).trans (by simpa using hcx 3 _ rfl)
    have c4 : W.cell? ⟨b, off + i * 5 + 4, none⟩ = some (.string p.f) := (hB.cell (p := ⟨b, off + i * 5 + 4, none⟩) hb).trans (by simpa using hcx 4 _ rfl)
    have hle := HFL.out i p hp
    have hge := hS.ge
    have hle2 := hS.le
    have hstep := foldGo_take hp
    have hstk : stackAt x (i + 1) = (stackAt x i).take ((stackAt x i).length - takesT p) ++ [((stackAt x i).drop ((stackAt x i).length - takesT p)).headD (i : Int)] := by rw [stackAt, hp]
    have hsl : (stackAt x (i + 1)).length = (stackAt x i).length - takesT p + 1 := by rw [hstk, List.length_append, List.length_take, List.length_singleton]; omega
    have hro := hS.row
    obtain ⟨out, hout⟩ : ∃ out, foldGo (x.take i) [] = out := ⟨_, rfl⟩
    rw [hout] at hge hle2 hstep hro
    obtain ⟨Ao, co, rfl⟩ := own_slice hro
    have HS := Lib.hid hS
    have HR := Lib.hid hro
    have HOW := Lib.hid hrow
    have hlen := foldStep_len p out (by omega)
    have HL := Lib.hid hlen
    have HST := Lib.hid hstep
    have HSL := Lib.hid hsl
    obtain ⟨n, hn⟩ : ∃ n, takesT p = n := ⟨_, rfl⟩
    have HN := Lib.hid hn
    have HT := Lib.hid (fun W => (by rw [← hn]; exact ftakes_c p W : Calls Tryz.prog 44 #[prtV p] W fun e w' => e = .returned (.int .i64 (n : Int)) ∧ Below W.heap.size W w'))
    have hno : n ≤ out.length := by omega
    obtain ⟨m, hm2⟩ : ∃ m, out.length = m + n := ⟨out.length - n, by omega⟩
    have HM2 := Lib.hid hm2
    have hm500 : out.length ≤ 500 := by omega
    have hlenz : (out.length : Int) - (n : Int) = (m : Int) := by omega
    have hm0 : (0 : Int) ≤ (m : Int) := Int.natCast_nonneg _
    have hmle : (m : Int) ≤ (out.length : Int) := by omega
    have hmN : m ≤ out.length := by omega
    have hltz : (i : Int) < (x.length : Int) := by omega
    have hk0 : (0 : Int) ≤ (i : Int) := Int.natCast_nonneg _
    obtain ⟨i0, hi1, hi2, hi3, hi4⟩ := info_prt.parts
    have hx0 := hS.b0.cell
    have ho0 := hS.b1.cell
    have hbo := hS.b1.lt
    unfold prtV at HT
    clear hS hro hrow hn hout hstep hstk hsl hlen hp hcx hle hm2 hv hB
    gi_wp2
    have u0 : ∀ j v, #[Value.int .i64 p.k, .int .i64 p.n, .int .i64 p.t, .string p.s, .string p.f][j]? = some v → (W.alloc (.cells #[.int .i64 p.k, .int .i64 p.n, .int .i64 p.t, .string p.s, .string p.f] 38)).cell? ⟨W.heap.size, j, none⟩ = some v := fun j v h => by rw [World.cell?_alloc_at _ _ _ _ rfl]; exact h
    have uo : (W.alloc (.cells #[.int .i64 p.k, .int .i64 p.n, .int .i64 p.t, .string p.s, .string p.f] 38)).cell? ⟨w.heap.size + 1, 0, none⟩ = some (.slice Ao out.length co) := ((below_alloc (Below.refl _ W)).cell (p := ⟨w.heap.size + 1, 0, none⟩) hbo).trans ho0
    refine region_in_held (S := fun W' => W'.cell? ⟨w.heap.size + 1, 0, none⟩ = some (.slice Ao out.length co) ∧ W'.cell? ⟨W.heap.size, 0, none⟩ = some (.int .i64 p.k) ∧ W'.cell? ⟨W.heap.size, 1, none⟩ = some (.int .i64 p.n) ∧ W'.cell? ⟨W.heap.size, 2, none⟩ = some (.int .i64 p.t) ∧ W'.cell? ⟨W.heap.size, 3, none⟩ = some (.string p.s) ∧ W'.cell? ⟨W.heap.size, 4, none⟩ = some (.string p.f)) (by kernel_rfl) (by kernel_rfl) (fun _ _ h => h) ⟨uo, u0 0 _ rfl, u0 1 _ rfl, u0 2 _ rfl, u0 3 _ rfl, u0 4 _ rfl⟩ (fun hHeld => ?_)
    (refine take_at (i := 0) (v := ?_) (some 19) rfl (by rfl) (by kernel_rfl) (by kernel_rfl) (by kernel_rfl) (fun _ _ _ h => h) (Or.inl ⟨by rfl, ?_⟩) (by assumption) ?_; rotate_left; (focus ((intro w hSw; (try dsimp only at hSw); go_simp); (try with_reducible rfl))); (simp only [Act.put, List.setIfInBounds_toArray, List.set_cons_zero, List.set_cons_succ]))
    (refine take_at (i := 1) (v := ?_) (some 20) rfl (by rfl) (by kernel_rfl) (by kernel_rfl) (by kernel_rfl) (fun _ _ _ h => h) (Or.inl ⟨by rfl, ?_⟩) (by assumption) ?_; rotate_left; (focus ((intro w hSw; (try dsimp only at hSw); go_simp); (try with_reducible rfl))); (simp only [Act.put, List.setIfInBounds_toArray, List.set_cons_zero, List.set_cons_succ]))
    (refine take_at (i := 2) (v := ?_) (some 21) rfl (by rfl) (by kernel_rfl) (by kernel_rfl) (by kernel_rfl) (fun _ _ _ h => h) (Or.inl ⟨by rfl, ?_⟩) (by assumption) ?_; rotate_left; (focus ((intro w hSw; (try dsimp only at hSw); go_simp); (try with_reducible rfl))); (simp only [Act.put, List.setIfInBounds_toArray, List.set_cons_zero, List.set_cons_succ]))
    (refine wpAnyH_ready (rs := [3]) (by kernel_rfl) (by simp) ?_; refine AllReadyH.cons (by rfl) (fun K hK => ?_) AllReadyH.nil)
    go_simp
    refine (HT.out _).mono ?_
    rintro e w2 ⟨rfl, hb2⟩
    have hb2' : Below W.heap.size W w2 := by (repeat' (first | (with_reducible exact Below.refl _ _) | (with_reducible refine below_alloc ?_) | (with_reducible refine below_drew ?_) | (with_reducible refine below_drewN ?_) | (with_reducible refine below_set (by first | (simp; done) | (simp; omega)) ?_) | (with_reducible refine below_call (by with_reducible assumption) ?_)))
    have hsz2 : W.heap.size < w2.heap.size := by have := hb2.size; simp at this; omega
    have u2 : ∀ j v, #[Value.int .i64 p.k, .int .i64 p.n, .int .i64 p.t, .string p.s, .string p.f][j]? = some v → w2.cell? ⟨W.heap.size, j, none⟩ = some v := fun j v h => (hb2.cell (p := ⟨W.heap.size, j, none⟩) (by simp)).trans (u0 j v h)
    have uo2 : w2.cell? ⟨w.heap.size + 1, 0, none⟩ = some (.slice Ao out.length co) := (hb2.cell (p := ⟨w.heap.size + 1, 0, none⟩) (by simp; omega)).trans uo
    refine hK.out _ _ ⟨uo2, u2 0 _ rfl, u2 1 _ rfl, u2 2 _ rfl, u2 3 _ rfl, u2 4 _ rfl⟩ (fun hHeld2 => ?_)
    clear hK K hHeld
    try simp only [Act.put, List.setIfInBounds_toArray, List.set_cons_zero, List.set_cons_succ]
    (refine take_at (i := 4) (v := ?_) (some 23) rfl (by rfl) (by kernel_rfl) (by kernel_rfl) (by kernel_rfl) (fun _ _ _ h => h) (Or.inl ⟨by rfl, ?_⟩) (by assumption) ?_; rotate_left; (focus ((intro w hSw; (try dsimp only at hSw); go_simp); (try with_reducible rfl))); (simp only [Act.put, List.setIfInBounds_toArray, List.set_cons_zero, List.set_cons_succ]))
    (refine take_at (i := 5) (v := ?_) (some 6) rfl (by rfl) (by kernel_rfl) (by kernel_rfl) (by kernel_rfl) (fun _ _ _ h => h) (Or.inl ⟨by rfl, ?_⟩) (by assumption) ?_; rotate_left; (focus ((intro w hSw; (try dsimp only at hSw); go_simp); (try with_reducible rfl))); (simp only [Act.put, List.setIfInBounds_toArray, List.set_cons_zero, List.set_cons_succ]))
    refine wpAnyH_done (by kernel_rfl) ?_ _
    clear hHeld2 HT u0 uo hb2 c0 c1 c2 c3 c4 hx0 ho0
    rcases own_form HR.out with ⟨e, hnil⟩ | ⟨g, cap, e, hcap, hmax, hgw⟩
    · injection e with e1 _ e3
      subst e1 e3 hnil
      have h00 := HM2.out
      have hn0 : n = 0 := by simp at h00; omega
      have hm0' : m = 0 := by simp at h00; omega
      subst hn0 hm0'
      clear h00 hlenz hm0 hmle
      simp only [Int.ofNat_zero]
      gi_wp2_with (gi_at_builtin; refine wpListIn_append_own _ rfl _ _ 23 rfl w.heap.size 38 i0 _ 5 56 Tryz.underlying23 hi1 hi2 hi3 hi4 rfl (by decide) (.slice none 0 0) 0 ([]) rfl (World.ownsRow_nil _ _ _ _) ⟨w2.heap.size, 0, none⟩ 1 1 [.int .i64 p.k, .int .i64 p.n, .int .i64 p.t, .string p.s, .string p.f] rfl rfl (fun j u hu => by rw [cell_add_new]; exact hu) (by simp [Value.oneCell']) (by unfold maxLen; omega) (by omega) (by have := HS.out.below.size; simp; omega) ?_; intro s5 w5 hown5 hgr5 _; obtain ⟨hbx5, hnext⟩ := HS.out.next (show Below W.heap.size W w2 by (repeat' (first | (with_reducible exact Below.refl _ _) | (with_reducible refine below_alloc ?_) | (with_reducible refine below_drew ?_) | (with_reducible refine below_drewN ?_) | (with_reducible refine below_set (by first | (simp; done) | (simp; omega)) ?_) | (with_reducible refine below_call (by with_reducible assumption) ?_)))) hgr5 hown5 HOW.out; have hc5 := hbx5.cell; have hf5 := hbx5.frozen; obtain ⟨g5, cap5, rfl⟩ := ownsRow_succ hown5)
      have HFS := Lib.hid (foldStep_0 (out := []) HN.out)
      exact hnext (by rw [HST.out, HFS.out]; simp) (by rw [HST.out, HFS.out, List.flatMap_append]; rfl) (by have h1 := HSL.out; have h2 := HN.out; have h3 : (stackAt x i).length ≤ 0 := hge; omega) (by simp)
    · injection e with e1 _ e3
      subst e1 e3
      have hcapz : (out.length : Int) ≤ (co : Int) := by omega
      have h00 : (0 : Int) ≤ (out.length : Int) := Int.natCast_nonneg _
      have hmcz : (m : Int) ≤ (co : Int) := by omega
      by_cases hn0 : n = 0
      · subst hn0
        have HFS := Lib.hid (foldStep_0 (out := out) HN.out)
        have hnlt : ¬ (m : Int) < (out.length : Int) := by omega
        by_cases hcm : co = m
        · have hmc : m = co := hcm.symm
          clear hcm
          subst hmc
          gi_wp2_with (gi_at_builtin; refine wpListIn_append_own _ rfl _ _ 23 rfl w.heap.size 38 i0 _ 5 56 Tryz.underlying23 hi1 hi2 hi3 hi4 rfl (by decide) (.slice (some ⟨g, 0, none⟩) out.length m) out.length (out.flatMap encPrt) rfl (own_below (own_below HR.out hb2') (by (repeat' (first | (with_reducible exact Below.refl _ _) | (with_reducible refine below_alloc ?_) | (with_reducible refine below_drew ?_) | (with_reducible refine below_drewN ?_) | (with_reducible refine below_set (by first | (simp; done) | (simp; omega)) ?_) | (with_reducible refine below_call (by with_reducible assumption) ?_))))) ⟨w2.heap.size, 0, none⟩ 1 1 [.int .i64 p.k, .int .i64 p.n, .int .i64 p.t, .string p.s, .string p.f] rfl rfl (fun j u hu => by rw [cell_add_new]; exact hu) (by simp [Value.oneCell']) (by unfold maxLen; omega) (by omega) (by have := HS.out.below.size; simp; omega) ?_; intro s5 w5 hown5 hgr5 _; obtain ⟨hbx5, hnext⟩ := HS.out.next (show Below W.heap.size W w2 by (repeat' (first | (with_reducible exact Below.refl _ _) | (with_reducible refine below_alloc ?_) | (with_reducible refine below_drew ?_) | (with_reducible refine below_drewN ?_) | (with_reducible refine below_set (by first | (simp; done) | (simp; omega)) ?_) | (with_reducible refine below_call (by with_reducible assumption) ?_)))) hgr5 hown5 HOW.out; have hc5 := hbx5.cell; have hf5 := hbx5.frozen; obtain ⟨g5, cap5, rfl⟩ := ownsRow_succ hown5)
          exact hnext (by rw [HST.out, HFS.out]; simp) (by rw [HST.out, HFS.out, List.flatMap_append]; rfl) (by have h1 := HSL.out; have h2 := HN.out; omega) (by omega)
        · gi_wp2_with (gi_at_builtin; refine wpListIn_append_own _ rfl _ _ 23 rfl w.heap.size 38 i0 _ 5 56 Tryz.underlying23 hi1 hi2 hi3 hi4 rfl (by decide) (.slice (some ⟨g, 0, none⟩) out.length co) out.length (out.flatMap encPrt) rfl (own_below (own_below HR.out hb2') (by (repeat' (first | (with_reducible exact Below.refl _ _) | (with_reducible refine below_alloc ?_) | (with_reducible refine below_drew ?_) | (with_reducible refine below_drewN ?_) | (with_reducible refine below_set (by first | (simp; done) | (simp; omega)) ?_) | (with_reducible refine below_call (by with_reducible assumption) ?_))))) ⟨w2.heap.size, 0, none⟩ 1 1 [.int .i64 p.k, .int .i64 p.n, .int .i64 p.t, .string p.s, .string p.f] rfl rfl (fun j u hu => by rw [cell_add_new]; exact hu) (by simp [Value.oneCell']) (by unfold maxLen; omega) (by omega) (by have := HS.out.below.size; simp; omega) ?_; intro s5 w5 hown5 hgr5 _; obtain ⟨hbx5, hnext⟩ := HS.out.next (show Below W.heap.size W w2 by (repeat' (first | (with_reducible exact Below.refl _ _) | (with_reducible refine below_alloc ?_) | (with_reducible refine below_drew ?_) | (with_reducible refine below_drewN ?_) | (with_reducible refine below_set (by first | (simp; done) | (simp; omega)) ?_) | (with_reducible refine below_call (by with_reducible assumption) ?_)))) hgr5 hown5 HOW.out; have hc5 := hbx5.cell; have hf5 := hbx5.frozen; obtain ⟨g5, cap5, rfl⟩ := ownsRow_succ hown5)
          exact hnext (by rw [HST.out, HFS.out]; simp) (by rw [HST.out, HFS.out, List.flatMap_append]; rfl) (by have h1 := HSL.out; have h2 := HN.out; omega) (by omega)
      · have hnlt : (m : Int) < (out.length : Int) := by omega
        have hcm : ¬ co = m := by omega
        have hcr : (Fence.wide.inRound l).fn 53 := trivial
        have hrr : (Fence.wide.inRound l).fn 55 := trivial
        have HDL := Lib.hid (show (out.drop m).length = n by rw [List.length_drop]; have := HM2.out; omega)
        have HTS := Lib.hid (show ∀ W', Below w2.heap.size w2 W' → Sl encPrt 5 W' (.slice (some ⟨g, m * 5, none⟩) (out.length - m) (co - m)) (out.drop m) from fun W' hW' => by
          have h := Sl.drop (Sl.own encPrt_len (own_below HR.out (below_call hW' hb2')) rfl) m hmN
          rw [Nat.zero_add] at h
          exact h)
        have HCF := Lib.hid (show ∀ W', Below w2.heap.size w2 W' → Calls Tryz.prog 53 #[.slice (some ⟨g, m * 5, none⟩) (out.length - m) (co - m), .func (.func 54) #[] #[]] W' fun e w' => e = .returned (.bool ((out.drop m).any fun q => q.k != 1)) ∧ Below W'.heap.size W' w' from
          fun W' hW' => containsFunc_prt (fun q => q.k != 1) 54 #[] (enters_of Tryz.func54 (by kernel_rfl) rfl) _ _ W' (fun W q _ _ => notNum_c q W) (HTS.out W' hW'))
        have HRK := Lib.hid (show ∀ W', Below w2.heap.size w2 W' → Calls Tryz.prog 55 #[prtV p, .slice (some ⟨g, m * 5, none⟩) (out.length - m) (co - m)] W' (FoldR W' (reckP p (out.drop m))) from fun W' hW' => freck_c p _ _ W' (HTS.out W' hW') (HDL.out.trans HN.out.symm))
        obtain ⟨bA, hbA⟩ : ∃ q, ((out.drop m).any fun q => q.k != 1) = q := ⟨_, rfl⟩
        rw [hbA] at HCF
        have HBA := Lib.hid hbA
        have hmo : out.length - takesT p = m := by have := HN.out; have := HM2.out; omega
        have HMO := Lib.hid hmo
        clear hbA hmo
        cases bA
        · obtain ⟨⟨⟨qk, qn, qt, qs, qf⟩, ok⟩, hq⟩ : ∃ q, reckP p (out.drop m) = q := ⟨_, rfl⟩
          have HQ := Lib.hid hq
          rw [hq] at HRK
          unfold FoldR prtV at HRK
          simp only at HRK
          clear hq
          cases ok
          · have HFS := Lib.hid (show foldStep p out = out ++ [p] by unfold foldStep; rw [HMO.out, HQ.out, if_neg (fun h => by simp at h)])
            gi_wp2_with (first | (gi_at_call 53; refine (CallsIn.inRound l (callsIn_wide.2 (HCF.out _ (by (repeat' (first | (with_reducible exact Below.refl _ _) | (with_reducible refine below_alloc ?_) | (with_reducible refine below_drew ?_) | (with_reducible refine below_drewN ?_) | (with_reducible refine below_set (by first | (simp; done) | (simp; omega)) ?_) | (with_reducible refine below_call (by with_reducible assumption) ?_))))))).mono ?_; rintro e w3 ⟨rfl, hb3⟩; have uo3 : w3.cell? ⟨w.heap.size + 1, 0, none⟩ = some (.slice (some ⟨g, 0, none⟩) out.length co) := (hb3.cell (p := ⟨w.heap.size + 1, 0, none⟩) (by simp; omega)).trans uo2; have k0 := (hb3.cell (p := ⟨W.heap.size, 0, none⟩) hsz2).trans (u2 0 _ rfl); have k1 := (hb3.cell (p := ⟨W.heap.size, 1, none⟩) hsz2).trans (u2 1 _ rfl); have k2 := (hb3.cell (p := ⟨W.heap.size, 2, none⟩) hsz2).trans (u2 2 _ rfl); have k3 := (hb3.cell (p := ⟨W.heap.size, 3, none⟩) hsz2).trans (u2 3 _ rfl); have k4 := (hb3.cell (p := ⟨W.heap.size, 4, none⟩) hsz2).trans (u2 4 _ rfl); have hsz3 := Nat.lt_of_lt_of_le hsz2 hb3.size) | (gi_at_call 55; refine (CallsIn.inRound l (callsIn_wide.2 (HRK.out _ (by (repeat' (first | (with_reducible exact Below.refl _ _) | (with_reducible refine below_alloc ?_) | (with_reducible refine below_drew ?_) | (with_reducible refine below_drewN ?_) | (with_reducible refine below_set (by first | (simp; done) | (simp; omega)) ?_) | (with_reducible refine below_call (by with_reducible assumption) ?_))))))).mono ?_; rintro e w4 ⟨rfl, hb4⟩; have uo4 := (hb4.cell (p := ⟨w.heap.size + 1, 0, none⟩) (by simp; omega)).trans uo3; have j0 := (hb4.cell (p := ⟨W.heap.size, 0, none⟩) hsz3).trans k0; have j1 := (hb4.cell (p := ⟨W.heap.size, 1, none⟩) hsz3).trans k1; have j2 := (hb4.cell (p := ⟨W.heap.size, 2, none⟩) hsz3).trans k2; have j3 := (hb4.cell (p := ⟨W.heap.size, 3, none⟩) hsz3).trans k3; have j4 := (hb4.cell (p := ⟨W.heap.size, 4, none⟩) hsz3).trans k4; have hsz4 := Nat.lt_of_lt_of_le hsz3 hb4.size; have hbo4 : w.heap.size + 1 < w4.heap.size := by omega) | (gi_at_builtin; refine wpListIn_append_own _ rfl _ _ 23 rfl w.heap.size 38 i0 _ 5 56 Tryz.underlying23 hi1 hi2 hi3 hi4 rfl (by decide) (.slice (some ⟨g, 0, none⟩) out.length co) out.length (out.flatMap encPrt) rfl (own_below (own_below HR.out hb2') (by (repeat' (first | (with_reducible exact Below.refl _ _) | (with_reducible refine below_alloc ?_) | (with_reducible refine below_drew ?_) | (with_reducible refine below_drewN ?_) | (with_reducible refine below_set (by first | (simp; done) | (simp; omega)) ?_) | (with_reducible refine below_call (by with_reducible assumption) ?_))))) ⟨w4.heap.size + 1, 0, none⟩ 1 1 [.int .i64 p.k, .int .i64 p.n, .int .i64 p.t, .string p.s, .string p.f] rfl rfl (fun j u hu => by have hh := cell_add_new (w4.alloc (.cells #[.int .i64 qk, .int .i64 qn, .int .i64 qt, .string qs, .string qf] 38)) [.int .i64 p.k, .int .i64 p.n, .int .i64 p.t, .string p.s, .string p.f] 38 j; rw [World.size_alloc] at hh; rw [hh]; exact hu) (by simp [Value.oneCell']) (by unfold maxLen; omega) (by omega) (by have := HS.out.below.size; simp; omega) ?_; intro s5 w5 hown5 hgr5 _; obtain ⟨hbx5, hnext⟩ := HS.out.next (show Below W.heap.size W (w4.alloc (.cells #[.int .i64 qk, .int .i64 qn, .int .i64 qt, .string qs, .string qf] 38)) by (repeat' (first | (with_reducible exact Below.refl _ _) | (with_reducible refine below_alloc ?_) | (with_reducible refine below_drew ?_) | (with_reducible refine below_drewN ?_) | (with_reducible refine below_set (by first | (simp; done) | (simp; omega)) ?_) | (with_reducible refine below_call (by with_reducible assumption) ?_)))) hgr5 hown5 HOW.out; have hc5 := hbx5.cell; have hf5 := hbx5.frozen; obtain ⟨g5, cap5, rfl⟩ := ownsRow_succ hown5))
            exact hnext (by rw [HST.out, HFS.out]; simp) (by rw [HST.out, HFS.out, List.flatMap_append]; rfl) (by have h1 := HSL.out; have h2 := HN.out; omega) (by omega)
          · have HFS := Lib.hid (show foldStep p out = out.take m ++ [⟨qk, qn, qt, qs, qf⟩] by
              have hall : (out.drop m).all (fun q => q.k == 1) = true := by
                rw [List.all_eq_true]
                intro q hq
                have h1 := HBA.out
                rw [List.any_eq_false] at h1
                simpa using h1 q hq
              unfold foldStep
              rw [HMO.out, HQ.out, if_pos ⟨by have := HN.out; omega, hall, rfl⟩])
            have HOM := Lib.hid (show w2.ownsRow w.heap.size 38 5 (.slice (some ⟨g, 0, none⟩) m co) m ((out.take m).flatMap encPrt) from own_takeL encPrt_len (own_below HR.out hb2') hmN)
            gi_wp2_with (first | (gi_at_call 53; refine (CallsIn.inRound l (callsIn_wide.2 (HCF.out _ (by (repeat' (first | (with_reducible exact Below.refl _ _) | (with_reducible refine below_alloc ?_) | (with_reducible refine below_drew ?_) | (with_reducible refine below_drewN ?_) | (with_reducible refine below_set (by first | (simp; done) | (simp; omega)) ?_) | (with_reducible refine below_call (by with_reducible assumption) ?_))))))).mono ?_; rintro e w3 ⟨rfl, hb3⟩; have uo3 : w3.cell? ⟨w.heap.size + 1, 0, none⟩ = some (.slice (some ⟨g, 0, none⟩) out.length co) := (hb3.cell (p := ⟨w.heap.size + 1, 0, none⟩) (by simp; omega)).trans uo2; have k0 := (hb3.cell (p := ⟨W.heap.size, 0, none⟩) hsz2).trans (u2 0 _ rfl); have k1 := (hb3.cell (p := ⟨W.heap.size, 1, none⟩) hsz2).trans (u2 1 _ rfl); have k2 := (hb3.cell (p := ⟨W.heap.size, 2, none⟩) hsz2).trans (u2 2 _ rfl); have k3 := (hb3.cell (p := ⟨W.heap.size, 3, none⟩) hsz2).trans (u2 3 _ rfl); have k4 := (hb3.cell (p := ⟨W.heap.size, 4, none⟩) hsz2).trans (u2 4 _ rfl); have hsz3 := Nat.lt_of_lt_of_le hsz2 hb3.size) | (gi_at_call 55; refine (CallsIn.inRound l (callsIn_wide.2 (HRK.out _ (by (repeat' (first | (with_reducible exact Below.refl _ _) | (with_reducible refine below_alloc ?_) | (with_reducible refine below_drew ?_) | (with_reducible refine below_drewN ?_) | (with_reducible refine below_set (by first | (simp; done) | (simp; omega)) ?_) | (with_reducible refine below_call (by with_reducible assumption) ?_))))))).mono ?_; rintro e w4 ⟨rfl, hb4⟩; have uo4 := (hb4.cell (p := ⟨w.heap.size + 1, 0, none⟩) (by simp; omega)).trans uo3; have j0 := (hb4.cell (p := ⟨W.heap.size, 0, none⟩) hsz3).trans k0; have j1 := (hb4.cell (p := ⟨W.heap.size, 1, none⟩) hsz3).trans k1; have j2 := (hb4.cell (p := ⟨W.heap.size, 2, none⟩) hsz3).trans k2; have j3 := (hb4.cell (p := ⟨W.heap.size, 3, none⟩) hsz3).trans k3; have j4 := (hb4.cell (p := ⟨W.heap.size, 4, none⟩) hsz3).trans k4; have hsz4 := Nat.lt_of_lt_of_le hsz3 hb4.size; have hbo4 : w.heap.size + 1 < w4.heap.size := by omega))
            have s : ∀ j v, [.int .i64 qk, .int .i64 qn, .int .i64 qt, .string qs, .string qf][j]? = some v → (w4.alloc (.cells #[.int .i64 qk, .int .i64 qn, .int .i64 qt, .string qs, .string qf] 38)).cell? ⟨w4.heap.size, j, none⟩ = some v := fun j v h => by rw [World.cell?_alloc_at _ _ _ _ rfl]; simpa using h
            have s0 := s 0 _ rfl
            have s1 := s 1 _ rfl
            have s2 := s 2 _ rfl
            have s3 := s 3 _ rfl
            have s4 := s 4 _ rfl
            have uo5 : (w4.alloc (.cells #[.int .i64 qk, .int .i64 qn, .int .i64 qt, .string qs, .string qf] 38)).cell? ⟨w.heap.size + 1, 0, none⟩ = some (.slice (some ⟨g, 0, none⟩) out.length co) := ((below_alloc (Below.refl _ w4)).cell (p := ⟨w.heap.size + 1, 0, none⟩) hbo4).trans uo4
            have hgw4 : g < w4.heap.size := by omega
            refine region_in_held (S := fun W' => W'.cell? ⟨w4.heap.size, 0, none⟩ = some (.int .i64 qk) ∧ W'.cell? ⟨w4.heap.size, 1, none⟩ = some (.int .i64 qn) ∧ W'.cell? ⟨w4.heap.size, 2, none⟩ = some (.int .i64 qt) ∧ W'.cell? ⟨w4.heap.size, 3, none⟩ = some (.string qs) ∧ W'.cell? ⟨w4.heap.size, 4, none⟩ = some (.string qf)) (by kernel_rfl) (by kernel_rfl) (fun _ _ h => h) ⟨s0, s1, s2, s3, s4⟩ (fun hHeld => ?_)
            (refine take_at (i := 1) (v := ?_) (some 50) rfl (by rfl) (by kernel_rfl) (by kernel_rfl) (by kernel_rfl) (fun _ _ _ h => h) (Or.inl ⟨by rfl, ?_⟩) (by assumption) ?_; rotate_left; (focus ((intro w hSw; (try dsimp only at hSw); go_simp); (try with_reducible rfl))); (simp only [Act.put, List.setIfInBounds_toArray, List.set_cons_zero, List.set_cons_succ]))
            (refine take_at (i := 3) (v := ?_) (some 52) rfl (by rfl) (by kernel_rfl) (by kernel_rfl) (by kernel_rfl) (fun _ _ _ h => h) (Or.inl ⟨by rfl, ?_⟩) (by assumption) ?_; rotate_left; (focus ((intro w hSw; (try dsimp only at hSw); go_simp); (try with_reducible rfl))); (simp only [Act.put, List.setIfInBounds_toArray, List.set_cons_zero, List.set_cons_succ]))
            refine wpAnyH_ready (rs := [0, 4]) (by kernel_rfl) (by simp) ?_
            refine AllReadyH.cons (by rfl) (fun K hK => ?_) (AllReadyH.cons (by rfl) (fun K hK => ?_) AllReadyH.nil)
            · go_simp
              refine hK.out _ _ ⟨s0, s1, s2, s3, s4⟩ (fun hH2 => ?_)
              clear hK K
              try simp only [Act.put, List.setIfInBounds_toArray, List.set_cons_zero, List.set_cons_succ]
              (refine take_at (i := 2) (v := ?_) (some 51) rfl (by rfl) (by kernel_rfl) (by kernel_rfl) (by kernel_rfl) (fun _ _ _ h => h) (Or.inl ⟨by rfl, ?_⟩) (by assumption) ?_; rotate_left; (focus ((intro w hSw; (try dsimp only at hSw); go_simp); (try with_reducible rfl))); (simp only [Act.put, List.setIfInBounds_toArray, List.set_cons_zero, List.set_cons_succ]))
              (refine wpAnyH_ready (rs := [4]) (by kernel_rfl) (by simp) ?_; refine AllReadyH.cons (by rfl) (fun K hK => ?_) AllReadyH.nil)
              go_simp
              refine hK.out _ _ ⟨(below_alloc (Below.refl _ (w4.alloc (.cells #[.int .i64 qk, .int .i64 qn, .int .i64 qt, .string qs, .string qf] 38)))).cell (p := ⟨w4.heap.size, 0, none⟩) (by simp) |>.trans s0, (below_alloc (Below.refl _ (w4.alloc (.cells #[.int .i64 qk, .int .i64 qn, .int .i64 qt, .string qs, .string qf] 38)))).cell (p := ⟨w4.heap.size, 1, none⟩) (by simp) |>.trans s1, (below_alloc (Below.refl _ (w4.alloc (.cells #[.int .i64 qk, .int .i64 qn, .int .i64 qt, .string qs, .string qf] 38)))).cell (p := ⟨w4.heap.size, 2, none⟩) (by simp) |>.trans s2, (below_alloc (Below.refl _ (w4.alloc (.cells #[.int .i64 qk, .int .i64 qn, .int .i64 qt, .string qs, .string qf] 38)))).cell (p := ⟨w4.heap.size, 3, none⟩) (by simp) |>.trans s3, (below_alloc (Below.refl _ (w4.alloc (.cells #[.int .i64 qk, .int .i64 qn, .int .i64 qt, .string qs, .string qf] 38)))).cell (p := ⟨w4.heap.size, 4, none⟩) (by simp) |>.trans s4⟩ (fun hH5 => ?_)
              clear hK K
              try simp only [Act.put, List.setIfInBounds_toArray, List.set_cons_zero, List.set_cons_succ]
              (refine wpAnyH_ready (rs := [5]) (by kernel_rfl) (by simp) ?_; refine AllReadyH.cons (by rfl) (fun K hK => ?_) AllReadyH.nil)
              refine step_append_lies _ rfl (.tmp 51) (.tmp 53) 23 rfl w.heap.size 38 i0 _ 5 56 Tryz.underlying23 hi1 hi2 hi3 hi4 rfl (by decide) (.slice (some ⟨g, 0, none⟩) m co) m ((out.take m).flatMap encPrt) (by rfl) (own_below HOM.out (by (repeat' (first | (with_reducible exact Below.refl _ _) | (with_reducible refine below_alloc ?_) | (with_reducible refine below_drew ?_) | (with_reducible refine below_drewN ?_) | (with_reducible refine below_set (by first | (simp; done) | (simp; omega)) ?_) | (with_reducible refine below_call (by with_reducible assumption) ?_))))) ⟨w4.heap.size + 1, 0, none⟩ 1 1 [.int .i64 qk, .int .i64 qn, .int .i64 qt, .string qs, .string qf] (by rfl) rfl (fun j u hu => by have hh := cell_add_new (w4.alloc (.cells #[.int .i64 qk, .int .i64 qn, .int .i64 qt, .string qs, .string qf] 38)).drew [.int .i64 qk, .int .i64 qn, .int .i64 qt, .string qs, .string qf] 38 j; rw [show (w4.alloc (.cells #[.int .i64 qk, .int .i64 qn, .int .i64 qt, .string qs, .string qf] 38)).drew.heap.size = w4.heap.size + 1 from World.size_alloc _ _] at hh; exact hh.trans hu) (by simp [Value.oneCell']) (by decide) (by unfold maxLen; omega) (by omega) (by have := HS.out.below.size; simp; omega) _ rfl ?_
              intro g5 cap5 w5 hown5 hgr5 hor5 hlt5
              obtain ⟨hbx5, hnext⟩ := HS.out.next (show Below W.heap.size W (w4.alloc (.cells #[.int .i64 qk, .int .i64 qn, .int .i64 qt, .string qs, .string qf] 38)).drew by (repeat' (first | (with_reducible exact Below.refl _ _) | (with_reducible refine below_alloc ?_) | (with_reducible refine below_drew ?_) | (with_reducible refine below_drewN ?_) | (with_reducible refine below_set (by first | (simp; done) | (simp; omega)) ?_) | (with_reducible refine below_call (by with_reducible assumption) ?_)))) hgr5 hown5 HOW.out
              have hc5 := hbx5.cell
              have hf5 := hbx5.frozen
              have q5 : ∀ j, w5.cell? ⟨w4.heap.size, j, none⟩ = (w4.alloc (.cells #[.int .i64 qk, .int .i64 qn, .int .i64 qt, .string qs, .string qf] 38)).cell? ⟨w4.heap.size, j, none⟩ := fun j => (World.cell?_of_block (hgr5.block w4.heap.size (by simp; omega) (fun e => by have e2 : w4.heap.size = g := (by injection e); omega))).trans (World.cell?_of_block (Below.heap_alloc _ _ _ (by simp)))
              refine hK.out _ _ ⟨(q5 0).trans s0, (q5 1).trans s1, (q5 2).trans s2, (q5 3).trans s3, (q5 4).trans s4⟩ (fun hH3 => ?_)
              clear hK K
              try simp only [Act.put, List.setIfInBounds_toArray, List.set_cons_zero, List.set_cons_succ]
              (refine wpAnyH_ready (rs := [6]) (by kernel_rfl) (by simp) ?_; refine AllReadyH.cons (by rfl) (fun K hK => ?_) AllReadyH.nil)
              go_simp
              have q6 : ∀ j v, (w5.setCell ⟨w.heap.size + 1, 0, none⟩ v).cell? ⟨w4.heap.size, j, none⟩ = w5.cell? ⟨w4.heap.size, j, none⟩ := fun j v => World.cell?_of_block (Below.heap_setCell _ _ _ _ (by simp; omega))
              refine hK.out _ _ ⟨(q6 0 _).trans ((q5 0).trans s0), (q6 1 _).trans ((q5 1).trans s1), (q6 2 _).trans ((q5 2).trans s2), (q6 3 _).trans ((q5 3).trans s3), (q6 4 _).trans ((q5 4).trans s4)⟩ (fun hH4 => ?_)
              clear hK K
              try simp only [Act.put, List.setIfInBounds_toArray, List.set_cons_zero, List.set_cons_succ]
              refine wpAnyH_done (by kernel_rfl) ?_ _
              gi_wp2
              exact hnext (by rw [HST.out, HFS.out]; simp; omega) (by rw [HST.out, HFS.out, List.flatMap_append]; rfl) (by have h1 := HSL.out; have h2 := HN.out; have := HM2.out; omega) (by omega)
            · have uo6 : ((w4.alloc (.cells #[.int .i64 qk, .int .i64 qn, .int .i64 qt, .string qs, .string qf] 38)).alloc (.cells #[.int .i64 qk, .int .i64 qn, .int .i64 qt, .string qs, .string qf] 38)).cell? ⟨w.heap.size + 1, 0, none⟩ = some (.slice (some ⟨g, 0, none⟩) out.length co) := ((below_alloc (Below.refl _ (w4.alloc (.cells #[.int .i64 qk, .int .i64 qn, .int .i64 qt, .string qs, .string qf] 38)))).cell (p := ⟨w.heap.size + 1, 0, none⟩) (by simp; omega)).trans uo5
              go_simp
              refine hK.out _ _ ⟨(below_alloc (Below.refl _ (w4.alloc (.cells #[.int .i64 qk, .int .i64 qn, .int .i64 qt, .string qs, .string qf] 38)))).cell (p := ⟨w4.heap.size, 0, none⟩) (by simp) |>.trans s0, (below_alloc (Below.refl _ (w4.alloc (.cells #[.int .i64 qk, .int .i64 qn, .int .i64 qt, .string qs, .string qf] 38)))).cell (p := ⟨w4.heap.size, 1, none⟩) (by simp) |>.trans s1, (below_alloc (Below.refl _ (w4.alloc (.cells #[.int .i64 qk, .int .i64 qn, .int .i64 qt, .string qs, .string qf] 38)))).cell (p := ⟨w4.heap.size, 2, none⟩) (by simp) |>.trans s2, (below_alloc (Below.refl _ (w4.alloc (.cells #[.int .i64 qk, .int .i64 qn, .int .i64 qt, .string qs, .string qf] 38)))).cell (p := ⟨w4.heap.size, 3, none⟩) (by simp) |>.trans s3, (below_alloc (Below.refl _ (w4.alloc (.cells #[.int .i64 qk, .int .i64 qn, .int .i64 qt, .string qs, .string qf] 38)))).cell (p := ⟨w4.heap.size, 4, none⟩) (by simp) |>.trans s4⟩ (fun hH2 => ?_)
              clear hK K
              try simp only [Act.put, List.setIfInBounds_toArray, List.set_cons_zero, List.set_cons_succ]
              (refine wpAnyH_ready (rs := [0]) (by kernel_rfl) (by simp) ?_; refine AllReadyH.cons (by rfl) (fun K hK => ?_) AllReadyH.nil)
              go_simp
              refine hK.out _ _ ⟨(below_alloc (Below.refl _ (w4.alloc (.cells #[.int .i64 qk, .int .i64 qn, .int .i64 qt, .string qs, .string qf] 38)))).cell (p := ⟨w4.heap.size, 0, none⟩) (by simp) |>.trans s0, (below_alloc (Below.refl _ (w4.alloc (.cells #[.int .i64 qk, .int .i64 qn, .int .i64 qt, .string qs, .string qf] 38)))).cell (p := ⟨w4.heap.size, 1, none⟩) (by simp) |>.trans s1, (below_alloc (Below.refl _ (w4.alloc (.cells #[.int .i64 qk, .int .i64 qn, .int .i64 qt, .string qs, .string qf] 38)))).cell (p := ⟨w4.heap.size, 2, none⟩) (by simp) |>.trans s2, (below_alloc (Below.refl _ (w4.alloc (.cells #[.int .i64 qk, .int .i64 qn, .int .i64 qt, .string qs, .string qf] 38)))).cell (p := ⟨w4.heap.size, 3, none⟩) (by simp) |>.trans s3, (below_alloc (Below.refl _ (w4.alloc (.cells #[.int .i64 qk, .int .i64 qn, .int .i64 qt, .string qs, .string qf] 38)))).cell (p := ⟨w4.heap.size, 4, none⟩) (by simp) |>.trans s4⟩ (fun hH5 => ?_)
              clear hK K
              try simp only [Act.put, List.setIfInBounds_toArray, List.set_cons_zero, List.set_cons_succ]
              (refine take_at (i := 2) (v := ?_) (some 51) rfl (by rfl) (by kernel_rfl) (by kernel_rfl) (by kernel_rfl) (fun _ _ _ h => h) (Or.inl ⟨by rfl, ?_⟩) (by assumption) ?_; rotate_left; (focus ((intro w hSw; (try dsimp only at hSw); go_simp); (try with_reducible rfl))); (simp only [Act.put, List.setIfInBounds_toArray, List.set_cons_zero, List.set_cons_succ]))
              (refine wpAnyH_ready (rs := [5]) (by kernel_rfl) (by simp) ?_; refine AllReadyH.cons (by rfl) (fun K hK => ?_) AllReadyH.nil)
              refine step_append_lies _ rfl (.tmp 51) (.tmp 53) 23 rfl w.heap.size 38 i0 _ 5 56 Tryz.underlying23 hi1 hi2 hi3 hi4 rfl (by decide) (.slice (some ⟨g, 0, none⟩) m co) m ((out.take m).flatMap encPrt) (by rfl) (own_below HOM.out (by (repeat' (first | (with_reducible exact Below.refl _ _) | (with_reducible refine below_alloc ?_) | (with_reducible refine below_drew ?_) | (with_reducible refine below_drewN ?_) | (with_reducible refine below_set (by first | (simp; done) | (simp; omega)) ?_) | (with_reducible refine below_call (by with_reducible assumption) ?_))))) ⟨w4.heap.size + 1, 0, none⟩ 1 1 [.int .i64 qk, .int .i64 qn, .int .i64 qt, .string qs, .string qf] (by rfl) rfl (fun j u hu => by have hh := cell_add_new (w4.alloc (.cells #[.int .i64 qk, .int .i64 qn, .int .i64 qt, .string qs, .string qf] 38)).drew [.int .i64 qk, .int .i64 qn, .int .i64 qt, .string qs, .string qf] 38 j; rw [show (w4.alloc (.cells #[.int .i64 qk, .int .i64 qn, .int .i64 qt, .string qs, .string qf] 38)).drew.heap.size = w4.heap.size + 1 from World.size_alloc _ _] at hh; exact hh.trans hu) (by simp [Value.oneCell']) (by decide) (by unfold maxLen; omega) (by omega) (by have := HS.out.below.size; simp; omega) _ rfl ?_
              intro g5 cap5 w5 hown5 hgr5 hor5 hlt5
              obtain ⟨hbx5, hnext⟩ := HS.out.next (show Below W.heap.size W (w4.alloc (.cells #[.int .i64 qk, .int .i64 qn, .int .i64 qt, .string qs, .string qf] 38)).drew by (repeat' (first | (with_reducible exact Below.refl _ _) | (with_reducible refine below_alloc ?_) | (with_reducible refine below_drew ?_) | (with_reducible refine below_drewN ?_) | (with_reducible refine below_set (by first | (simp; done) | (simp; omega)) ?_) | (with_reducible refine below_call (by with_reducible assumption) ?_)))) hgr5 hown5 HOW.out
              have hc5 := hbx5.cell
              have hf5 := hbx5.frozen
              have q5 : ∀ j, w5.cell? ⟨w4.heap.size, j, none⟩ = (w4.alloc (.cells #[.int .i64 qk, .int .i64 qn, .int .i64 qt, .string qs, .string qf] 38)).cell? ⟨w4.heap.size, j, none⟩ := fun j => (World.cell?_of_block (hgr5.block w4.heap.size (by simp; omega) (fun e => by have e2 : w4.heap.size = g := (by injection e); omega))).trans (World.cell?_of_block (Below.heap_alloc _ _ _ (by simp)))
              refine hK.out _ _ ⟨(q5 0).trans s0, (q5 1).trans s1, (q5 2).trans s2, (q5 3).trans s3, (q5 4).trans s4⟩ (fun hH3 => ?_)
              clear hK K
              try simp only [Act.put, List.setIfInBounds_toArray, List.set_cons_zero, List.set_cons_succ]
              (refine wpAnyH_ready (rs := [6]) (by kernel_rfl) (by simp) ?_; refine AllReadyH.cons (by rfl) (fun K hK => ?_) AllReadyH.nil)
              go_simp
              have q6 : ∀ j v, (w5.setCell ⟨w.heap.size + 1, 0, none⟩ v).cell? ⟨w4.heap.size, j, none⟩ = w5.cell? ⟨w4.heap.size, j, none⟩ := fun j v => World.cell?_of_block (Below.heap_setCell _ _ _ _ (by simp; omega))
              refine hK.out _ _ ⟨(q6 0 _).trans ((q5 0).trans s0), (q6 1 _).trans ((q5 1).trans s1), (q6 2 _).trans ((q5 2).trans s2), (q6 3 _).trans ((q5 3).trans s3), (q6 4 _).trans ((q5 4).trans s4)⟩ (fun hH4 => ?_)
              clear hK K
              try simp only [Act.put, List.setIfInBounds_toArray, List.set_cons_zero, List.set_cons_succ]
              refine wpAnyH_done (by kernel_rfl) ?_ _
              gi_wp2
              exact hnext (by rw [HST.out, HFS.out]; simp; omega) (by rw [HST.out, HFS.out, List.flatMap_append]; rfl) (by have h1 := HSL.out; have h2 := HN.out; have := HM2.out; omega) (by omega)
        · have HFS := Lib.hid (show foldStep p out = out ++ [p] by
            unfold foldStep
            rw [HMO.out, if_neg (fun h => ?_)]
            have h1 := HBA.out
            rw [List.any_eq_true] at h1
            obtain ⟨q, hq, hk⟩ := h1
            have h2 := List.all_eq_true.1 h.2.1 q hq
            simp at hk h2
            exact hk h2)
          gi_wp2_with (first | (gi_at_call 53; refine (CallsIn.inRound l (callsIn_wide.2 (HCF.out _ (by (repeat' (first | (with_reducible exact Below.refl _ _) | (with_reducible refine below_alloc ?_) | (with_reducible refine below_drew ?_) | (with_reducible refine below_drewN ?_) | (with_reducible refine below_set (by first | (simp; done) | (simp; omega)) ?_) | (with_reducible refine below_call (by with_reducible assumption) ?_))))))).mono ?_; rintro e w3 ⟨rfl, hb3⟩; have uo3 : w3.cell? ⟨w.heap.size + 1, 0, none⟩ = some (.slice (some ⟨g, 0, none⟩) out.length co) := (hb3.cell (p := ⟨w.heap.size + 1, 0, none⟩) (by simp; omega)).trans uo2; have k0 := (hb3.cell (p := ⟨W.heap.size, 0, none⟩) hsz2).trans (u2 0 _ rfl); have k1 := (hb3.cell (p := ⟨W.heap.size, 1, none⟩) hsz2).trans (u2 1 _ rfl); have k2 := (hb3.cell (p := ⟨W.heap.size, 2, none⟩) hsz2).trans (u2 2 _ rfl); have k3 := (hb3.cell (p := ⟨W.heap.size, 3, none⟩) hsz2).trans (u2 3 _ rfl); have k4 := (hb3.cell (p := ⟨W.heap.size, 4, none⟩) hsz2).trans (u2 4 _ rfl); have hsz3 := Nat.lt_of_lt_of_le hsz2 hb3.size) | (gi_at_builtin; refine wpListIn_append_own _ rfl _ _ 23 rfl w.heap.size 38 i0 _ 5 56 Tryz.underlying23 hi1 hi2 hi3 hi4 rfl (by decide) (.slice (some ⟨g, 0, none⟩) out.length co) out.length (out.flatMap encPrt) rfl (own_below (own_below HR.out hb2') (by (repeat' (first | (with_reducible exact Below.refl _ _) | (with_reducible refine below_alloc ?_) | (with_reducible refine below_drew ?_) | (with_reducible refine below_drewN ?_) | (with_reducible refine below_set (by first | (simp; done) | (simp; omega)) ?_) | (with_reducible refine below_call (by with_reducible assumption) ?_))))) ⟨w3.heap.size, 0, none⟩ 1 1 [.int .i64 p.k, .int .i64 p.n, .int .i64 p.t, .string p.s, .string p.f] rfl rfl (fun j u hu => by rw [cell_add_new]; exact hu) (by simp [Value.oneCell']) (by unfold maxLen; omega) (by omega) (by have := HS.out.below.size; simp; omega) ?_; intro s5 w5 hown5 hgr5 _; obtain ⟨hbx5, hnext⟩ := HS.out.next (show Below W.heap.size W w3 by (repeat' (first | (with_reducible exact Below.refl _ _) | (with_reducible refine below_alloc ?_) | (with_reducible refine below_drew ?_) | (with_reducible refine below_drewN ?_) | (with_reducible refine below_set (by first | (simp; done) | (simp; omega)) ?_) | (with_reducible refine below_call (by with_reducible assumption) ?_)))) hgr5 hown5 HOW.out; have hc5 := hbx5.cell; have hf5 := hbx5.frozen; obtain ⟨g5, cap5, rfl⟩ := ownsRow_succ hown5))
          exact hnext (by rw [HST.out, HFS.out]; simp) (by rw [HST.out, HFS.out, List.flatMap_append]; rfl) (by have h1 := HSL.out; have h2 := HN.out; omega) (by omega)
end Go.Proofs.YtenjkplijblcoaaGreatDoor
