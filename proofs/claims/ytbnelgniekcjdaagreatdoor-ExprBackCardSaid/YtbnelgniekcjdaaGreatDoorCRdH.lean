/- (*reader).primary: a value. -/
import Derived.Test.YtbnelgniekcjdaaGreatDoorCRdG
import Derived.Test.YtbnelgniekcjdaaGreatDoorShelfX
set_option linter.unusedSimpArgs false
set_option linter.unusedVariables false
namespace Go.Proofs.YtbnelgniekcjdaaGreatDoor
open Go.RowKit Cap
set_option maxRecDepth 100000

theorem bytesInj {a b : ByteArray} (h : a.data.toList = b.data.toList) : a = b := by
  cases a; cases b
  congr 1
  exact Array.toList_inj.1 h
/-- Which conversion a text is. -/
theorem conv_c (s : ByteArray) (W : World) (hG : GX W) :
    Calls Tryz.prog 75 #[.slice (some ⟨0, 0, none⟩) 5 5, .string s] W fun e w' => e = .returned (.int .i64 (convOf s)) ∧ w' = W := by
  have h := Any.slices_Index_string Tryz.idxstr 0 0 5 5 convTxt s W (by decide) (by decide) (fun j hj => by
    have hc := hG.conv j (convTxt.getD j ByteArray.empty) (by
      rw [List.getD_eq_getElem?_getD, List.getElem?_eq_getElem hj]
      rfl)
    rw [Nat.zero_add]
    exact hc)
  refine h.mono ?_
  rintro e w' ⟨rfl, rfl⟩
  refine ⟨ret_i ?_, rfl⟩
  show Lib.idxFromS convTxt s 0 = convOf s
  unfold convTxt convOf eqB
  simp only [Lib.idxFromS]
  have hq : ∀ z : ByteArray, (z = s) = ((s.toList == z.toList) = true) := fun z => by
    rw [beq_iff_eq]
    apply propext
    constructor
    · rintro rfl; rfl
    · intro h
      rw [ByteArray.toList_eq, ByteArray.toList_eq] at h
      exact (bytesInj h).symm
  simp only [hq]
  split
  · rfl
  · split
    · rfl
    · split
      · rfl
      · split <;> rfl
/-- Go on from a world of which this is known. -/
theorem wp_cut {P : Program} {c : Code} {Q : Exit → Act → World → Prop} {a : Act} {w : World} (R : World → Prop) (h : R w) (k : ∀ w', R w' → Code.wp P c Q a w') : Code.wp P c Q a w := k w h
theorem sets5 {w : World} {B : Nat} {T : TypeId} {u0 u1 u2 u3 u4 v0 v1 v2 v3 v4 : Value} (h : w.heap[B]? = some (.cells #[u0, u1, u2, u3, u4] T (0, 0))) :
    (((((w.setCell ⟨B, 0, none⟩ v0).setCell ⟨B, 1, none⟩ v1).setCell ⟨B, 2, none⟩ v2).setCell ⟨B, 3, none⟩ v3).setCell ⟨B, 4, none⟩ v4).heap[B]? = some (.cells #[v0, v1, v2, v3, v4] T (0, 0)) := by
  have h0 := heap_setCell_same w B 0 _ T v0 h
  have h1 := heap_setCell_same _ B 1 _ T v1 h0
  have h2 := heap_setCell_same _ B 2 _ T v2 h1
  have h3 := heap_setCell_same _ B 3 _ T v3 h2
  exact heap_setCell_same _ B 4 _ T v4 h3
/-- What a value's first token makes of it. -/
def primX (l : List Tok) (or : Option (Nat → PR)) (a : Nat) (t : Tok) : PR :=
  if t.k = 2 then .ok (a + 1) [numP t.n t.ty]
  else if t.k = 1 ∧ eqB t.s ⟨#[84, 82, 85, 69]⟩ = true then .ok (a + 1) [numP 1 1]
  else if t.k = 1 ∧ eqB t.s ⟨#[70, 65, 76, 83, 69]⟩ = true then .ok (a + 1) [numP 0 1]
  else if t.k = 1 ∧ 2 ≤ convOf t.s then (withinP l or ⟨#[40]⟩ ⟨#[41]⟩ (a + 1)).put (toP (convOf t.s))
  else if t.k = 1 ∧ isName t.s = true then nmdP l or t.s (a + 1)
  else withinP l or ⟨#[40]⟩ ⟨#[41]⟩ a
theorem primX_some {l : List Tok} {or : Option (Nat → PR)} {a : Nat} {t : Tok} (h : l[a]? = some t) : primP l or a = primX l or a t := by
  unfold primP
  rw [h]
  rfl
theorem primX_none {l : List Tok} {or : Option (Nat → PR)} {a : Nat} (h : l[a]? = none) : primP l or a = primX l or a ⟨0, ⟨#[]⟩, 0, 0, 0⟩ := by
  unfold primP
  rw [h]
  rfl
theorem or_good {l : List Tok} {w0 : World} {rb : Nat} {lv : Value} {d : Nat} {or : Option (Nat → PR)} (h : Dp l w0 rb lv d or) : ∀ f, or = some f → GoodP l f := fun f hf => by
  rcases h with ⟨_, rfl⟩ | ⟨_, f', rfl, hg, _⟩
  · cases hf
  · cases hf; exact hg
set_option maxHeartbeats 16000000 in
theorem prim_c (l : List Tok) (w0 W : World) (rb : Nat) (lv ov : Value) (a d : Nat) (o : List Prt) (hl : TokL w0 lv l) (hm : TokMax l.length) (h : Rd w0 rb lv a d ov o W) (ho : o.length ≤ a) (ha : a ≤ l.length) (hG : GX w0) (hts : ∀ t ∈ l, t.s.size ≤ 140737488351232)
    (or : Option (Nat → PR)) (hor : Dp l w0 rb lv d or) :
    Calls Tryz.prog 58 #[.pointer (some ⟨rb, 0, none⟩)] W (RdE w0 W rb lv d o (primP l or a)) := by
  have HH := Lib.hid h
  have hm' := hm
  unfold TokMax at hm'
  have hrlt := h.lt
  obtain ⟨⟨c0, c1, c2, c3⟩, hz⟩ := h.cells
  have hB := h.b0
  have HL := Lib.hid hl
  have ha0 : (0 : Int) ≤ (a : Int) := Int.natCast_nonneg _
  clear c2 c3 hz
  obtain ⟨A, c, rfl, hln, hmx, hcx⟩ := hl
  have HOR := Lib.hid hor
  have HG := Lib.hid hG
  obtain ⟨Z, hZ⟩ : ∃ Z, primP l or a = Z := ⟨_, rfl⟩
  rw [hZ]
  obtain ⟨x, hxx⟩ : ∃ x, (l[a]? = some x) ∨ (l[a]? = none ∧ x = ⟨0, ⟨#[]⟩, 0, 0, 0⟩) := by
    cases hx : l[a]? with
    | none => exact ⟨_, .inr ⟨rfl, rfl⟩⟩
    | some x => exact ⟨x, .inl rfl⟩
  have HZ := Lib.hid (show Z = primX l or a x by
    rw [← hZ]
    rcases hxx with h | ⟨h, rfl⟩
    · exact primX_some h
    · exact primX_none h)
  have HXL := Lib.hid (show x.k ≠ 0 → a < l.length from fun hk => by
    rcases hxx with h | ⟨h, rfl⟩
    · exact (List.getElem?_eq_some_iff.1 h).1
    · exact absurd rfl hk)
  have HXS := Lib.hid (show x.s.size ≤ 140737488351232 from by
    rcases hxx with h | ⟨h, rfl⟩
    · exact hts x (List.mem_of_getElem? h)
    · exact Nat.zero_le _)
  have HGX := Lib.hid (fun W' (hb : Below W.heap.size W W') => HG.out.below ((h.below hb).b0))
  clear hZ hG hts hor h
  go_enter Tryz.func58, Tryz.ntmps58
  go_upto_region 1 with fail
  rcases hxx with hx | ⟨hx, hx0⟩
  · have hlx := (List.getElem?_eq_some_iff.1 hx).1
    have hltz : (a : Int) < (l.length : Int) := by omega
    obtain ⟨b, off, rfl, hb, hc⟩ := hcx a x hx
    have e0 : W.cell? ⟨b, off + a * 5, none⟩ = some (.int .i64 x.k) := (hB.cell (p := ⟨b, off + a * 5, none⟩) hb).trans (by simpa using hc 0 _ rfl)
    have e1 : W.cell? ⟨b, off + a * 5 + 1, none⟩ = some (.string x.s) := (hB.cell (p := ⟨b, off + a * 5 + 1, none⟩) hb).trans (by simpa using hc 1 _ rfl)
    have e2 : W.cell? ⟨b, off + a * 5 + 2, none⟩ = some (.int .i64 x.n) := (hB.cell (p := ⟨b, off + a * 5 + 2, none⟩) hb).trans (by simpa using hc 2 _ rfl)
    have e3 : W.cell? ⟨b, off + a * 5 + 3, none⟩ = some (.int .i64 x.ty) := (hB.cell (p := ⟨b, off + a * 5 + 3, none⟩) hb).trans (by simpa using hc 3 _ rfl)
    have e4 : W.cell? ⟨b, off + a * 5 + 4, none⟩ = some (.int .i64 x.pos) := (hB.cell (p := ⟨b, off + a * 5 + 4, none⟩) hb).trans (by simpa using hc 4 _ rfl)
    have hbW : b < W.heap.size := Nat.lt_of_lt_of_le hb hB.size
    clear hcx hc hx
    go_quiet (fail)
    go_upto_region 2 with fail
    go_region_law (fail)
    all_goals clear e0 e1 e2 e3 e4
    all_goals go_upto_region 3 with fail
    all_goals refine wp_cut (fun W5 => Rd w0 rb (.slice (some ⟨b, off, none⟩) l.length c) a d ov o W5 ∧ St rb W W5 ∧ W5.heap[W.heap.size]? = some (.cells #[.int .i64 x.k, .string x.s, .int .i64 x.n, .int .i64 x.ty, .int .i64 x.pos] 38 (0, 0))) ⟨HH.out.below (by (repeat' (first | (with_reducible exact Below.refl _ _) | (with_reducible refine below_alloc ?_) | (with_reducible refine below_drew ?_) | (with_reducible refine below_drewN ?_) | (with_reducible refine below_set (by first | (simp; done) | (simp; omega)) ?_) | (with_reducible refine below_call (by with_reducible assumption) ?_)))), .call (show Below W.heap.size W _ by (repeat' (first | (with_reducible exact Below.refl _ _) | (with_reducible refine below_alloc ?_) | (with_reducible refine below_drew ?_) | (with_reducible refine below_drewN ?_) | (with_reducible refine below_set (by first | (simp; done) | (simp; omega)) ?_) | (with_reducible refine below_call (by with_reducible assumption) ?_)))) (St.refl _ _), sets5 (u0 := .int .i64 0) (u1 := .string ⟨#[]⟩) (u2 := .int .i64 0) (u3 := .int .i64 0) (u4 := .int .i64 0) (by first | exact heap_alloc_new _ _ | (rw [World.heap_drewN]; exact heap_alloc_new _ _))⟩ ?_
    all_goals
      rintro W5 ⟨h5, hs5, ht5⟩
      have H5 := Lib.hid h5
      have HS5 := Lib.hid hs5
      have HT5 := Lib.hid ht5
      have q1 := cell_of_row _ _ 1 _ _ _ ht5
      simp at q1
      clear h5 hs5 ht5 c0 c1
      go_quiet ((go_at_call 75; exact Calls.quiet_of_same (conv_c _ _ ((HG.out.below H5.out.b0).below (by (repeat' (first | (with_reducible exact Below.refl _ _) | (with_reducible refine below_alloc ?_) | (with_reducible refine below_drew ?_) | (with_reducible refine below_drewN ?_) | (with_reducible refine below_set (by first | (simp; done) | (simp; omega)) ?_) | (with_reducible refine below_call (by with_reducible assumption) ?_))))))))
      go_upto_region 5 with fail
      refine wp_cut (fun W6 => Rd w0 rb (.slice (some ⟨b, off, none⟩) l.length c) a d ov o W6 ∧ St rb W W6 ∧ W6.heap[W.heap.size]? = some (.cells #[.int .i64 x.k, .string x.s, .int .i64 x.n, .int .i64 x.ty, .int .i64 x.pos] 38 (0, 0))) ⟨H5.out.below (by (repeat' (first | (with_reducible exact Below.refl _ _) | (with_reducible refine below_alloc ?_) | (with_reducible refine below_drew ?_) | (with_reducible refine below_drewN ?_) | (with_reducible refine below_set (by first | (simp; done) | (simp; omega)) ?_) | (with_reducible refine below_call (by with_reducible assumption) ?_)))), .call (show Below W5.heap.size W5 _ by (repeat' (first | (with_reducible exact Below.refl _ _) | (with_reducible refine below_alloc ?_) | (with_reducible refine below_drew ?_) | (with_reducible refine below_drewN ?_) | (with_reducible refine below_set (by first | (simp; done) | (simp; omega)) ?_) | (with_reducible refine below_call (by with_reducible assumption) ?_)))) HS5.out, HT5.out⟩ ?_
      rintro W6 ⟨h6, hs6, ht6⟩
      have H6 := Lib.hid h6
      have HS6 := Lib.hid hs6
      have t0 := cell_of_row _ _ 0 _ _ _ ht6
      have t1 := cell_of_row _ _ 1 _ _ _ ht6
      have t2 := cell_of_row _ _ 2 _ _ _ ht6
      have t3 := cell_of_row _ _ 3 _ _ _ ht6
      simp at t0 t1 t2 t3
      obtain ⟨⟨k0, k1, k2, k3⟩, hzz⟩ := h6.cells
      have f1 := hzz 1
      have hne : ¬ W.heap.size = rb := by omega
      have h6lt := (Array.getElem?_eq_some_iff.1 ht6).1
      have HG6' := Lib.hid (HG.out.below h6.b0).g
      have H7 := Lib.hid h6.next
      have HS7 := Lib.hid (show St rb W (W6.setCell ⟨rb, 1, none⟩ (.int .i64 ((a : Int) + 1))) from .set hs6 _ _)
      have HPU := Lib.hid (fun (_ : a < l.length) W' (hb : Below (W6.setCell ⟨rb, 1, none⟩ (.int .i64 ((a : Int) + 1))).heap.size (W6.setCell ⟨rb, 1, none⟩ (.int .i64 ((a : Int) + 1))) W') p => put_c w0 W' rb (.slice (some ⟨b, off, none⟩) l.length c) ov (a + 1) d o (H7.out.below hb) (by unfold TokMax; omega) p)
      clear k0 k2 k3 hzz ht6 h6 hs6
      by_cases e2 : x.k = 2
      · have kz : (x.k == 2) = true := by simp [e2]
        have hlt := HXL.out (by omega)
        have ham : (a : Int) ≤ 2932031007402 := by omega
        have HR := Lib.hid (show Z = .ok (a + 1) [numP x.n x.ty] by rw [HZ.out]; unfold primX; rw [if_pos e2])
        clear e2
        go_wp2_with fail
        refine (HPU.out hlt _ (by (repeat' (first | (with_reducible exact Below.refl _ _) | (with_reducible refine below_alloc ?_) | (with_reducible refine below_drew ?_) | (with_reducible refine below_drewN ?_) | (with_reducible refine below_set (by first | (simp; done) | (simp; omega)) ?_) | (with_reducible refine below_call (by with_reducible assumption) ?_)))) (numP x.n x.ty)).mono ?_
        rintro e w8 ⟨rfl, hs8, ov8, h8⟩
        have H8 := Lib.hid h8
        have HS8 := Lib.hid (HS7.out.trans hs8)
        clear h8 hs8
        go_wp2
        rw [HR.out]
        exact ⟨rfl, _, results_none rfl _ _ _, .ok H8.out HS8.out⟩
      · have kz : (x.k == 2) = false := by simpa using e2
        by_cases e1 : x.k = 1
        · have kz1 : (x.k == 1) = true := by simp [e1]
          have hlt := HXL.out (by omega)
          have ham : (a : Int) ≤ 2932031007402 := by omega
          have HZ1 := Lib.hid (show Z = if eqB x.s ⟨#[84, 82, 85, 69]⟩ = true then .ok (a + 1) [numP 1 1] else if eqB x.s ⟨#[70, 65, 76, 83, 69]⟩ = true then .ok (a + 1) [numP 0 1] else if 2 ≤ convOf x.s then (withinP l or ⟨#[40]⟩ ⟨#[41]⟩ (a + 1)).put (toP (convOf x.s)) else if isName x.s = true then nmdP l or x.s (a + 1) else withinP l or ⟨#[40]⟩ ⟨#[41]⟩ a by
            rw [HZ.out]; unfold primX; rw [if_neg e2]; simp only [e1, true_and])
          clear e1 e2
          have QT := Lib.hid (show eqB x.s ⟨#[84, 82, 85, 69]⟩ = (x.s.toList == [84, 82, 85, 69]) by unfold eqB; rw [Lib.toList_data ⟨#[84, 82, 85, 69]⟩])
          have QF := Lib.hid (show eqB x.s ⟨#[70, 65, 76, 83, 69]⟩ = (x.s.toList == [70, 65, 76, 83, 69]) by unfold eqB; rw [Lib.toList_data ⟨#[70, 65, 76, 83, 69]⟩])
          cases hT : (x.s.toList == [84, 82, 85, 69]) with
          | true =>
            have HR := Lib.hid (show Z = .ok (a + 1) [numP 1 1] by rw [HZ1.out, QT.out, if_pos hT])
            have gT : x.s.toList = [84, 82, 85, 69] := by simpa using hT
            go_wp2_with fail
            refine (HPU.out hlt _ (by (repeat' (first | (with_reducible exact Below.refl _ _) | (with_reducible refine below_alloc ?_) | (with_reducible refine below_drew ?_) | (with_reducible refine below_drewN ?_) | (with_reducible refine below_set (by first | (simp; done) | (simp; omega)) ?_) | (with_reducible refine below_call (by with_reducible assumption) ?_)))) (numP 1 1)).mono ?_
            rintro e w8 ⟨rfl, hs8, ov8, h8⟩
            have H8 := Lib.hid h8
            have HS8 := Lib.hid (St.trans (show St rb W _ from .alloc HS7.out) hs8)
            clear h8 hs8
            go_wp2
            rw [HR.out]
            exact ⟨rfl, _, results_none rfl _ _ _, .ok H8.out HS8.out⟩
          | false =>
            have gT : ¬ x.s.toList = [84, 82, 85, 69] := by simpa using hT
            cases hF : (x.s.toList == [70, 65, 76, 83, 69]) with
            | true =>
              have HR := Lib.hid (show Z = .ok (a + 1) [numP 0 1] by rw [HZ1.out, QT.out, QF.out, if_neg (by rw [hT]; decide), if_pos hF])
              have gF : x.s.toList = [70, 65, 76, 83, 69] := by simpa using hF
              go_wp2_with fail
              refine (HPU.out hlt _ (by (repeat' (first | (with_reducible exact Below.refl _ _) | (with_reducible refine below_alloc ?_) | (with_reducible refine below_drew ?_) | (with_reducible refine below_drewN ?_) | (with_reducible refine below_set (by first | (simp; done) | (simp; omega)) ?_) | (with_reducible refine below_call (by with_reducible assumption) ?_)))) (numP 0 1)).mono ?_
              rintro e w8 ⟨rfl, hs8, ov8, h8⟩
              have H8 := Lib.hid h8
              have HS8 := Lib.hid (St.trans (show St rb W _ from .alloc HS7.out) hs8)
              clear h8 hs8
              go_wp2
              rw [HR.out]
              exact ⟨rfl, _, results_none rfl _ _ _, .ok H8.out HS8.out⟩
            | false =>
              have HZ2 := Lib.hid (show Z = if 2 ≤ convOf x.s then (withinP l or ⟨#[40]⟩ ⟨#[41]⟩ (a + 1)).put (toP (convOf x.s)) else if isName x.s = true then nmdP l or x.s (a + 1) else withinP l or ⟨#[40]⟩ ⟨#[41]⟩ a by
                rw [HZ1.out, QT.out, QF.out, if_neg (by rw [hT]; decide), if_neg (by rw [hF]; decide)])
              have gF : ¬ x.s.toList = [70, 65, 76, 83, 69] := by simpa using hF
              by_cases hcv : 2 ≤ convOf x.s
              · obtain ⟨q, hq⟩ : ∃ q, withinP l or ⟨#[40]⟩ ⟨#[41]⟩ (a + 1) = q := ⟨_, rfl⟩
                have HR := Lib.hid (show Z = q.put (toP (convOf x.s)) by rw [HZ2.out, if_pos hcv, hq])
                have HWI := Lib.hid (fun W' (hb : Below (W6.setCell ⟨rb, 1, none⟩ (.int .i64 ((a : Int) + 1))).heap.size (W6.setCell ⟨rb, 1, none⟩ (.int .i64 ((a : Int) + 1))) W') => within_c l w0 W' rb (.slice (some ⟨b, off, none⟩) l.length c) ov (a + 1) d o HL.out hm (H7.out.below hb) (by omega) (by omega) ⟨#[40]⟩ ⟨#[41]⟩ or HOR.out)
                have HGD := Lib.hid (fun b y (e : withinP l or ⟨#[40]⟩ ⟨#[41]⟩ (a + 1) = .ok b y) => within_good (l := l) (or := or) (or_good HOR.out) _ _ e)
                rw [hq] at HWI HGD
                clear hq HZ HZ1 HZ2
                go_wp2_with fail
                refine (HWI.out _ (by (repeat' (first | (with_reducible exact Below.refl _ _) | (with_reducible refine below_alloc ?_) | (with_reducible refine below_drew ?_) | (with_reducible refine below_drewN ?_) | (with_reducible refine below_set (by first | (simp; done) | (simp; omega)) ?_) | (with_reducible refine below_call (by with_reducible assumption) ?_))))).mono ?_
                rintro e w8 hE
                cases hE with
                | no hb hk =>
                  rw [HR.out]
                  exact ⟨rfl, .no hb (HS7.out.trans hk)⟩
                | @ok nb y w8 ov8 h8 hk =>
                  obtain ⟨g1, g2, g3⟩ := HGD.out _ _ rfl
                  have HPU8 := Lib.hid (put_c w0 w8 rb (.slice (some ⟨b, off, none⟩) l.length c) ov8 nb d _ h8 (by unfold TokMax; rw [List.length_append]; omega) (toP (convOf x.s)))
                  have HK := Lib.hid (St.trans HS7.out hk)
                  clear h8 hk
                  go_wp2_with fail
                  refine HPU8.out.mono ?_
                  rintro e w9 ⟨rfl, hs9, ov9, h9⟩
                  have H9 := Lib.hid h9
                  have HK9 := Lib.hid (HK.out.trans hs9)
                  clear h9 hs9
                  go_wp2
                  rw [HR.out]
                  exact ⟨rfl, _, results_none rfl _ _ _, .ok (by rw [← List.append_assoc]; exact H9.out) HK9.out⟩
              · have HZ3 := Lib.hid (show Z = if isName x.s = true then nmdP l or x.s (a + 1) else withinP l or ⟨#[40]⟩ ⟨#[41]⟩ a by rw [HZ2.out, if_neg hcv])
                have HNM := Lib.hid (name_c x.s W6 HG6'.out HXS.out)
                have hcvz : convOf x.s < 2 := by omega
                cases hN : isName x.s with
                | true =>
                  rw [hN] at HNM
                  have HR := Lib.hid (show Z = nmdP l or x.s (a + 1) by rw [HZ3.out, if_pos hN])
                  obtain ⟨q, hq⟩ : ∃ q, nmdP l or x.s (a + 1) = q := ⟨_, rfl⟩
                  have HNA := Lib.hid (fun W' (h' : Rd w0 rb (.slice (some ⟨b, off, none⟩) l.length c) (a + 1) d ov o W') => named_c l w0 W' rb (.slice (some ⟨b, off, none⟩) l.length c) ov (a + 1) d o HL.out hm h' (by omega) (by omega) x.s or HOR.out)
                  rw [hq] at HNA HR
                  clear hq hN HZ HZ1 HZ2 HZ3
                  go_upto_region 19 with (first | (go_at_call 43; refine HNM.out.mono ?_; rintro e w7 ⟨rfl, hb7⟩; have k7 := (hb7.cell (p := ⟨rb, 1, none⟩) H6.out.lt).trans k1; have g7 := frozen_of_row _ _ 1 _ _ ((hb7.block rb H6.out.lt).trans H6.out.at_); have t7 := (hb7.cell (p := ⟨W.heap.size, 1, none⟩) h6lt).trans t1))
                  have H8 := Lib.hid (H6.out.below hb7).next
                  have HS8 := Lib.hid (show St rb W (w7.setCell ⟨rb, 1, none⟩ (.int .i64 ((a : Int) + 1))) from .set (.call hb7 HS6.out) _ _)
                  have t8 : (w7.setCell ⟨rb, 1, none⟩ (.int .i64 ((a : Int) + 1))).cell? ⟨W.heap.size, 1, none⟩ = some (.string x.s) := (World.cell?_setCell_other _ _ _ _ (by intro e; injection e; omega)).trans t7
                  go_wp2_with fail
                  refine (HNA.out _ H8.out).mono ?_
                  rintro e w8 hE
                  cases hE with
                  | no hb hk =>
                    rw [HR.out]
                    exact ⟨rfl, .no hb (HS8.out.trans hk)⟩
                  | @ok nb y w8 ov8 h8 hk =>
                    have H9 := Lib.hid h8
                    have HK9 := Lib.hid (HS8.out.trans hk)
                    clear h8 hk
                    go_wp2
                    rw [HR.out]
                    exact ⟨rfl, _, results_none rfl _ _ _, .ok H9.out HK9.out⟩
                | false =>
                  rw [hN] at HNM
                  have HR := Lib.hid (show Z = withinP l or ⟨#[40]⟩ ⟨#[41]⟩ a by rw [HZ3.out, hN, if_neg (by decide)])
                  obtain ⟨q, hq⟩ : ∃ q, withinP l or ⟨#[40]⟩ ⟨#[41]⟩ a = q := ⟨_, rfl⟩
                  have HWI := Lib.hid (fun W' (hb : Below W6.heap.size W6 W') => within_c l w0 W' rb (.slice (some ⟨b, off, none⟩) l.length c) ov a d o HL.out hm (H6.out.below hb) ho ha ⟨#[40]⟩ ⟨#[41]⟩ or HOR.out)
                  rw [hq] at HWI HR
                  clear hq hN HZ HZ1 HZ2 HZ3
                  go_upto_region 4 with (first | (go_at_call 43; refine HNM.out.mono ?_; rintro e w7 ⟨rfl, hb7⟩))
                  go_wp2_with fail
                  refine (HWI.out _ (by (repeat' (first | (with_reducible exact Below.refl _ _) | (with_reducible refine below_alloc ?_) | (with_reducible refine below_drew ?_) | (with_reducible refine below_drewN ?_) | (with_reducible refine below_set (by first | (simp; done) | (simp; omega)) ?_) | (with_reducible refine below_call (by with_reducible assumption) ?_))))).mono ?_
                  rintro e w8 hE
                  have hE' := RdE.pre (.call (show Below W6.heap.size W6 w7 by (repeat' (first | (with_reducible exact Below.refl _ _) | (with_reducible refine below_alloc ?_) | (with_reducible refine below_drew ?_) | (with_reducible refine below_drewN ?_) | (with_reducible refine below_set (by first | (simp; done) | (simp; omega)) ?_) | (with_reducible refine below_call (by with_reducible assumption) ?_)))) HS6.out) hE
                  clear hE
                  cases hE' with
                  | no hb hk =>
                    rw [HR.out]
                    exact ⟨rfl, .no hb hk⟩
                  | @ok nb y w8 ov8 h8 hk =>
                    have H9 := Lib.hid h8
                    have HK9 := Lib.hid hk
                    clear h8 hk
                    go_wp2
                    rw [HR.out]
                    exact ⟨rfl, _, results_none rfl _ _ _, .ok H9.out HK9.out⟩
        · have kz1 : (x.k == 1) = false := by simpa using e1
          have HR := Lib.hid (show Z = withinP l or ⟨#[40]⟩ ⟨#[41]⟩ a by rw [HZ.out]; unfold primX; rw [if_neg e2]; simp only [e1, false_and, if_false])
          obtain ⟨q, hq⟩ : ∃ q, withinP l or ⟨#[40]⟩ ⟨#[41]⟩ a = q := ⟨_, rfl⟩
          have HWI := Lib.hid (within_c l w0 W6 rb (.slice (some ⟨b, off, none⟩) l.length c) ov a d o HL.out hm H6.out ho ha ⟨#[40]⟩ ⟨#[41]⟩ or HOR.out)
          rw [hq] at HWI HR
          clear hq HZ e1 e2
          go_wp2_with fail
          refine HWI.out.mono ?_
          rintro e w8 hE
          cases hE with
          | no hb hk =>
            rw [HR.out]
            exact ⟨rfl, .no hb (HS6.out.trans hk)⟩
          | @ok nb y w8 ov8 h8 hk =>
            have H9 := Lib.hid h8
            have HK9 := Lib.hid (HS6.out.trans hk)
            clear h8 hk
            go_wp2
            rw [HR.out]
            exact ⟨rfl, _, results_none rfl _ _ _, .ok H9.out HK9.out⟩
  · have hge : l.length ≤ a := by rw [List.getElem?_eq_none_iff] at hx; exact hx
    have hltz : ¬ (a : Int) < (l.length : Int) := by omega
    have HX0 := Lib.hid hx0
    clear hcx hx hx0
    go_quiet (fail)
    go_upto_region 3 with fail
    all_goals refine wp_cut (fun W5 => Rd w0 rb (.slice A l.length c) a d ov o W5 ∧ St rb W W5 ∧ W5.heap[W.heap.size]? = some (.cells #[.int .i64 x.k, .string x.s, .int .i64 x.n, .int .i64 x.ty, .int .i64 x.pos] 38 (0, 0))) ⟨HH.out.below (by (repeat' (first | (with_reducible exact Below.refl _ _) | (with_reducible refine below_alloc ?_) | (with_reducible refine below_drew ?_) | (with_reducible refine below_drewN ?_) | (with_reducible refine below_set (by first | (simp; done) | (simp; omega)) ?_) | (with_reducible refine below_call (by with_reducible assumption) ?_)))), .call (show Below W.heap.size W _ by (repeat' (first | (with_reducible exact Below.refl _ _) | (with_reducible refine below_alloc ?_) | (with_reducible refine below_drew ?_) | (with_reducible refine below_drewN ?_) | (with_reducible refine below_set (by first | (simp; done) | (simp; omega)) ?_) | (with_reducible refine below_call (by with_reducible assumption) ?_)))) (St.refl _ _), (by rw [HX0.out]; exact heap_alloc_new _ _)⟩ ?_
    all_goals
      rintro W5 ⟨h5, hs5, ht5⟩
      have H5 := Lib.hid h5
      have HS5 := Lib.hid hs5
      have HT5 := Lib.hid ht5
      have q1 := cell_of_row _ _ 1 _ _ _ ht5
      simp at q1
      clear h5 hs5 ht5 c0 c1
      go_quiet ((go_at_call 75; exact Calls.quiet_of_same (conv_c _ _ ((HG.out.below H5.out.b0).below (by (repeat' (first | (with_reducible exact Below.refl _ _) | (with_reducible refine below_alloc ?_) | (with_reducible refine below_drew ?_) | (with_reducible refine below_drewN ?_) | (with_reducible refine below_set (by first | (simp; done) | (simp; omega)) ?_) | (with_reducible refine below_call (by with_reducible assumption) ?_))))))))
      go_upto_region 5 with fail
      refine wp_cut (fun W6 => Rd w0 rb (.slice A l.length c) a d ov o W6 ∧ St rb W W6 ∧ W6.heap[W.heap.size]? = some (.cells #[.int .i64 x.k, .string x.s, .int .i64 x.n, .int .i64 x.ty, .int .i64 x.pos] 38 (0, 0))) ⟨H5.out.below (by (repeat' (first | (with_reducible exact Below.refl _ _) | (with_reducible refine below_alloc ?_) | (with_reducible refine below_drew ?_) | (with_reducible refine below_drewN ?_) | (with_reducible refine below_set (by first | (simp; done) | (simp; omega)) ?_) | (with_reducible refine below_call (by with_reducible assumption) ?_)))), .call (show Below W5.heap.size W5 _ by (repeat' (first | (with_reducible exact Below.refl _ _) | (with_reducible refine below_alloc ?_) | (with_reducible refine below_drew ?_) | (with_reducible refine below_drewN ?_) | (with_reducible refine below_set (by first | (simp; done) | (simp; omega)) ?_) | (with_reducible refine below_call (by with_reducible assumption) ?_)))) HS5.out, HT5.out⟩ ?_
      rintro W6 ⟨h6, hs6, ht6⟩
      have H6 := Lib.hid h6
      have HS6 := Lib.hid hs6
      have t0 := cell_of_row _ _ 0 _ _ _ ht6
      have t1 := cell_of_row _ _ 1 _ _ _ ht6
      have t2 := cell_of_row _ _ 2 _ _ _ ht6
      have t3 := cell_of_row _ _ 3 _ _ _ ht6
      simp at t0 t1 t2 t3
      obtain ⟨⟨k0, k1, k2, k3⟩, hzz⟩ := h6.cells
      have f1 := hzz 1
      have hne : ¬ W.heap.size = rb := by omega
      have h6lt := (Array.getElem?_eq_some_iff.1 ht6).1
      have HG6' := Lib.hid (HG.out.below h6.b0).g
      have H7 := Lib.hid h6.next
      have HS7 := Lib.hid (show St rb W (W6.setCell ⟨rb, 1, none⟩ (.int .i64 ((a : Int) + 1))) from .set hs6 _ _)
      have HPU := Lib.hid (fun (_ : a < l.length) W' (hb : Below (W6.setCell ⟨rb, 1, none⟩ (.int .i64 ((a : Int) + 1))).heap.size (W6.setCell ⟨rb, 1, none⟩ (.int .i64 ((a : Int) + 1))) W') p => put_c w0 W' rb (.slice A l.length c) ov (a + 1) d o (H7.out.below hb) (by unfold TokMax; omega) p)
      clear k0 k2 k3 hzz ht6 h6 hs6
      have e2 : ¬ x.k = 2 := by rw [HX0.out]; decide
      have e1 : ¬ x.k = 1 := by rw [HX0.out]; decide
      have kz : (x.k == 2) = false := by simpa using e2
      have kz1 : (x.k == 1) = false := by simpa using e1
      have HR := Lib.hid (show Z = withinP l or ⟨#[40]⟩ ⟨#[41]⟩ a by rw [HZ.out]; unfold primX; rw [if_neg e2]; simp only [e1, false_and, if_false])
      obtain ⟨q, hq⟩ : ∃ q, withinP l or ⟨#[40]⟩ ⟨#[41]⟩ a = q := ⟨_, rfl⟩
      have HWI := Lib.hid (within_c l w0 W6 rb (.slice A l.length c) ov a d o HL.out hm H6.out ho ha ⟨#[40]⟩ ⟨#[41]⟩ or HOR.out)
      rw [hq] at HWI HR
      clear hq HZ e1 e2
      go_wp2_with fail
      refine HWI.out.mono ?_
      rintro e w8 hE
      cases hE with
      | no hb hk =>
        rw [HR.out]
        exact ⟨rfl, .no hb (HS6.out.trans hk)⟩
      | @ok nb y w8 ov8 h8 hk =>
        have H9 := Lib.hid h8
        have HK9 := Lib.hid (HS6.out.trans hk)
        clear h8 hk
        go_wp2
        rw [HR.out]
        exact ⟨rfl, _, results_none rfl _ _ _, .ok H9.out HK9.out⟩
end Go.Proofs.YtbnelgniekcjdaaGreatDoor
