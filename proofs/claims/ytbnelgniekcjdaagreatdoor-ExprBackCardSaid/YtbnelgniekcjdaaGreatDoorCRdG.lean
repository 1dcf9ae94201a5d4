/- (*reader).named: what stands behind a name. -/
import Derived.Test.YtbnelgniekcjdaaGreatDoorCRdF
set_option linter.unusedSimpArgs false
set_option linter.unusedVariables false
namespace Go.Proofs.YtbnelgniekcjdaaGreatDoor
open Go.RowKit Cap
set_option maxRecDepth 100000

set_option maxHeartbeats 4000000 in
theorem named_c (l : List Tok) (w0 W : World) (rb : Nat) (lv ov : Value) (a d : Nat) (o : List Prt) (hl : TokL w0 lv l) (hm : TokMax l.length) (h : Rd w0 rb lv a d ov o W) (ho : o.length + 1 ≤ a) (ha : a ≤ l.length)
    (s : ByteArray) (or : Option (Nat → PR)) (hor : Dp l w0 rb lv d or) :
    Calls Tryz.prog 84 #[.pointer (some ⟨rb, 0, none⟩), .string s] W (RdE w0 W rb lv d o (nmdP l or s a)) := by
  have H1 := Lib.hid (fun W' (hb : Below W.heap.size W W') => is_c l w0 W' rb lv ov a d o hl (h.below hb) ha 3 ⟨#[91]⟩)
  have H2 := Lib.hid (fun W' (hb : Below W.heap.size W W') => is_c l w0 W' rb lv ov a d o hl (h.below hb) ha 3 ⟨#[46]⟩)
  have HH := Lib.hid h
  have hm' := hm
  unfold TokMax at hm'
  cases h1 : isTok l a 3 ⟨#[91]⟩ with
  | true =>
    have HWI := Lib.hid (fun W' (hb : Below W.heap.size W W') => within_c l w0 W' rb lv ov a d o hl hm (h.below hb) (by omega) ha ⟨#[91]⟩ ⟨#[93]⟩ or hor)
    obtain ⟨q, hq⟩ : ∃ q, withinP l or ⟨#[91]⟩ ⟨#[93]⟩ a = q := ⟨_, rfl⟩
    have HGD := Lib.hid (fun b y (e : withinP l or ⟨#[91]⟩ ⟨#[93]⟩ a = .ok b y) => within_good (l := l) (or := or) (fun f hf => by
      rcases hor with ⟨_, rfl⟩ | ⟨_, f', rfl, hg, _⟩
      · cases hf
      · cases hf; exact hg) _ _ e)
    rw [hq] at HWI HGD
    rw [show nmdP l or s a = q.put (indexP s) by unfold nmdP; rw [h1, if_pos rfl, hq]]
    rw [h1] at H1
    clear h h1 hq hor hl H2
    go_enter Tryz.func84, Tryz.ntmps84
    go_wp2_with (first | (go_at_call 57; refine (H1.out _ (by (repeat' (first | (with_reducible exact Below.refl _ _) | (with_reducible refine below_alloc ?_) | (with_reducible refine below_drew ?_) | (with_reducible refine below_drewN ?_) | (with_reducible refine below_set (by first | (simp; done) | (simp; omega)) ?_) | (with_reducible refine below_call (by with_reducible assumption) ?_))))).mono ?_; rintro e w1 ⟨rfl, hb1⟩))
    refine (HWI.out _ hb1).mono ?_
    rintro e w2 hE
    cases hE with
    | no hb hk => exact ⟨rfl, .no hb (.trans (.call hb1 (St.refl _ _)) hk)⟩
    | @ok c y w2 ov2 h2 hk =>
      obtain ⟨g1, g2, g3⟩ := HGD.out _ _ rfl
      have HPU := Lib.hid (put_c w0 w2 rb lv ov2 c d _ h2 (by unfold TokMax; rw [List.length_append]; omega) (indexP s))
      have HK := Lib.hid (St.trans (.call hb1 (St.refl _ _)) hk)
      clear h2 hk
      go_wp2_with fail
      refine HPU.out.mono ?_
      rintro e w3 ⟨rfl, hs3, ov3, h3⟩
      have H3 := Lib.hid h3
      have HK3 := Lib.hid (HK.out.trans hs3)
      clear h3 hs3
      go_wp2
      exact ⟨rfl, _, results_none rfl _ _ _, .ok (by rw [← List.append_assoc]; exact H3.out) HK3.out⟩
  | false =>
    rw [h1] at H1
    cases h2 : isTok l a 3 ⟨#[46]⟩ with
    | false =>
      rw [h2] at H2
      rw [show nmdP l or s a = .ok a [varP s] by unfold nmdP; rw [h1, h2]; rfl]
      have HPU := Lib.hid (fun W' (hb : Below W.heap.size W W') => put_c w0 W' rb lv ov a d o (h.below hb) (by unfold TokMax; omega) (varP s))
      clear h h1 h2 hor hl
      go_enter Tryz.func84, Tryz.ntmps84
      go_wp2_with (first
        | (go_at_call 57; refine (H1.out _ (by (repeat' (first | (with_reducible exact Below.refl _ _) | (with_reducible refine below_alloc ?_) | (with_reducible refine below_drew ?_) | (with_reducible refine below_drewN ?_) | (with_reducible refine below_set (by first | (simp; done) | (simp; omega)) ?_) | (with_reducible refine below_call (by with_reducible assumption) ?_))))).mono ?_; rintro e w1 ⟨rfl, hb1⟩; clear H1)
        | (go_at_call 57; refine (H2.out _ (by (repeat' (first | (with_reducible exact Below.refl _ _) | (with_reducible refine below_alloc ?_) | (with_reducible refine below_drew ?_) | (with_reducible refine below_drewN ?_) | (with_reducible refine below_set (by first | (simp; done) | (simp; omega)) ?_) | (with_reducible refine below_call (by with_reducible assumption) ?_))))).mono ?_; rintro e w2 ⟨rfl, hb2⟩))
      refine (HPU.out _ (by (repeat' (first | (with_reducible exact Below.refl _ _) | (with_reducible refine below_alloc ?_) | (with_reducible refine below_drew ?_) | (with_reducible refine below_drewN ?_) | (with_reducible refine below_set (by first | (simp; done) | (simp; omega)) ?_) | (with_reducible refine below_call (by with_reducible assumption) ?_))))).mono ?_
      rintro e w3 ⟨rfl, hs3, ov3, h3⟩
      have H3 := Lib.hid h3
      have HK3 := Lib.hid (show St rb W w3 from St.trans (.call (show Below W.heap.size W w2 by (repeat' (first | (with_reducible exact Below.refl _ _) | (with_reducible refine below_alloc ?_) | (with_reducible refine below_drew ?_) | (with_reducible refine below_drewN ?_) | (with_reducible refine below_set (by first | (simp; done) | (simp; omega)) ?_) | (with_reducible refine below_call (by with_reducible assumption) ?_)))) (St.refl _ _)) hs3)
      clear h3 hs3
      go_wp2
      exact ⟨rfl, _, results_none rfl _ _ _, .ok H3.out HK3.out⟩
    | true =>
      rw [h2] at H2
      have hlt := isTok_lt h2
      have ham : (a : Int) ≤ 2932031007402 := by omega
      have HL := Lib.hid hl
      obtain ⟨Z, hZ⟩ : ∃ Z, nmdP l or s a = Z := ⟨_, rfl⟩
      have HZ := Lib.hid (show Z = (match l[a + 1]? with | some t => if t.k = 1 then PR.ok (a + 2) [fieldP s t.s] else .no (a + 1) 60 | none => .no (a + 1) 60) by rw [← hZ]; unfold nmdP; rw [h1, h2]; rfl)
      rw [hZ]
      have HC := Lib.hid (fun W' (hb : Below W.heap.size W W') => (h.below hb).cells)
      clear h h1 h2 hor hl hZ
      go_enter Tryz.func84, Tryz.ntmps84
      go_upto_region 6 with (first
        | (go_at_call 57; refine (H1.out _ (by (repeat' (first | (with_reducible exact Below.refl _ _) | (with_reducible refine below_alloc ?_) | (with_reducible refine below_drew ?_) | (with_reducible refine below_drewN ?_) | (with_reducible refine below_set (by first | (simp; done) | (simp; omega)) ?_) | (with_reducible refine below_call (by with_reducible assumption) ?_))))).mono ?_; rintro e w1 ⟨rfl, hb1⟩; clear H1)
        | (go_at_call 57; refine (H2.out _ (by (repeat' (first | (with_reducible exact Below.refl _ _) | (with_reducible refine below_alloc ?_) | (with_reducible refine below_drew ?_) | (with_reducible refine below_drewN ?_) | (with_reducible refine below_set (by first | (simp; done) | (simp; omega)) ?_) | (with_reducible refine below_call (by with_reducible assumption) ?_))))).mono ?_; rintro e w2 ⟨rfl, hb2⟩; obtain ⟨⟨c0, c1, c2, c3⟩, hz⟩ := HC.out w2 (by (repeat' (first | (with_reducible exact Below.refl _ _) | (with_reducible refine below_alloc ?_) | (with_reducible refine below_drew ?_) | (with_reducible refine below_drewN ?_) | (with_reducible refine below_set (by first | (simp; done) | (simp; omega)) ?_) | (with_reducible refine below_call (by with_reducible assumption) ?_)))); have f1 := hz 1; clear c0 c2 c3 hz))
      have hbw : Below W.heap.size W w2 := by (repeat' (first | (with_reducible exact Below.refl _ _) | (with_reducible refine below_alloc ?_) | (with_reducible refine below_drew ?_) | (with_reducible refine below_drewN ?_) | (with_reducible refine below_set (by first | (simp; done) | (simp; omega)) ?_) | (with_reducible refine below_call (by with_reducible assumption) ?_)))
      have hR5 := (HH.out.below hbw).next
      have hS5 : St rb W (w2.setCell ⟨rb, 1, none⟩ (.int .i64 ((a : Int) + 1))) := .set (.call hbw (St.refl _ _)) _ _
      generalize hw5 : w2.setCell ⟨rb, 1, none⟩ (.int .i64 ((a : Int) + 1)) = w5 at hR5 hS5 ⊢
      clear hw5 c1 f1
      have HF := Lib.hid (fun W' (hb : Below w5.heap.size w5 W') => fail_c w0 W' rb lv ov (a + 1) d o (hR5.below hb) 60)
      have HPU := Lib.hid (fun W' (hb : Below w5.heap.size w5 W') p => put_c w0 W' rb lv ov (a + 1) d o (hR5.below hb) (by unfold TokMax; omega) p)
      have HR5 := Lib.hid hR5
      have HS5 := Lib.hid hS5
      obtain ⟨⟨c0, c1, c2, c3⟩, hz⟩ := hR5.cells
      have c1' : w5.cell? ⟨rb, 1, none⟩ = some (.int .i64 ((a : Int) + 1)) := c1
      obtain ⟨A, c, rfl, hln, hmx, hcx⟩ := HL.out
      have hB5 := hR5.b0
      clear c1 c2 c3 hz hR5 hS5 HC
      cases hx : l[a + 1]? with
      | none =>
        have hge : l.length ≤ a + 1 := by rw [List.getElem?_eq_none_iff] at hx; exact hx
        have hgez : (l.length : Int) ≤ (a : Int) + 1 := by omega
        have HZ2 := Lib.hid (show Z = .no (a + 1) 60 by rw [HZ.out, hx])
        clear hx hcx
        go_quiet (fail)
        go_wp2_with (first | (go_at_call 85; refine (HF.out _ (by (repeat' (first | (with_reducible exact Below.refl _ _) | (with_reducible refine below_alloc ?_) | (with_reducible refine below_drew ?_) | (with_reducible refine below_drewN ?_) | (with_reducible refine below_set (by first | (simp; done) | (simp; omega)) ?_) | (with_reducible refine below_call (by with_reducible assumption) ?_))))).mono ?_; rintro e w6 ⟨rfl, hb6⟩))
        rw [HZ2.out]
        exact ⟨rfl, .no (HR5.out.below (by (repeat' (first | (with_reducible exact Below.refl _ _) | (with_reducible refine below_alloc ?_) | (with_reducible refine below_drew ?_) | (with_reducible refine below_drewN ?_) | (with_reducible refine below_set (by first | (simp; done) | (simp; omega)) ?_) | (with_reducible refine below_call (by with_reducible assumption) ?_))))).b0 (.call (show Below w5.heap.size w5 w6 by (repeat' (first | (with_reducible exact Below.refl _ _) | (with_reducible refine below_alloc ?_) | (with_reducible refine below_drew ?_) | (with_reducible refine below_drewN ?_) | (with_reducible refine below_set (by first | (simp; done) | (simp; omega)) ?_) | (with_reducible refine below_call (by with_reducible assumption) ?_)))) HS5.out)⟩
      | some x =>
        have hlx := (List.getElem?_eq_some_iff.1 hx).1
        have hgez : ¬ (l.length : Int) ≤ (a : Int) + 1 := by omega
        have hltz : (a : Int) + 1 < (l.length : Int) := by omega
        obtain ⟨b, off, rfl, hb, hc⟩ := hcx (a + 1) x hx
        have e0 : w5.cell? ⟨b, off + (a + 1) * 5, none⟩ = some (.int .i64 x.k) := (hB5.cell (p := ⟨b, off + (a + 1) * 5, none⟩) hb).trans (by simpa using hc 0 _ rfl)
        have e1 : w5.cell? ⟨b, off + (a + 1) * 5 + 1, none⟩ = some (.string x.s) := (hB5.cell (p := ⟨b, off + (a + 1) * 5 + 1, none⟩) hb).trans (by simpa using hc 1 _ rfl)
        have e1' : w0.cell? ⟨b, off + (a + 1) * 5 + 1, none⟩ = some (.string x.s) := by simpa using hc 1 _ rfl
        by_cases hk : x.k = 1
        · have HZ2 := Lib.hid (show Z = .ok (a + 2) [fieldP s x.s] by rw [HZ.out, hx]; simp only [hk, if_true])
          have hkz : (x.k != 1) = false := by simp [hk]
          have ha10 : (0 : Int) ≤ (a : Int) + 1 := by omega
          clear hx hcx hc hk
          go_quiet (fail)
          go_upto_region 8 with fail
          have HK := Lib.hid (show ∀ W', Below w5.heap.size w5 W' → (W'.cell? ⟨rb, 0, none⟩ = some (.slice (some ⟨b, off, none⟩) l.length c) ∧ W'.cell? ⟨rb, 1, none⟩ = some (.int .i64 ((a : Int) + 1)) ∧ W'.cell? ⟨b, off + (a + 1) * 5 + 1, none⟩ = some (.string x.s)) from fun W' hW =>
            ⟨(hW.cell (p := ⟨rb, 0, none⟩) HR5.out.lt).trans c0, (hW.cell (p := ⟨rb, 1, none⟩) HR5.out.lt).trans c1', (hW.cell (p := ⟨b, off + (a + 1) * 5 + 1, none⟩) (Nat.lt_of_lt_of_le hb hB5.size)).trans e1⟩)
          have HK2 := Lib.hid (show ∀ W' ov' o', Rd w0 rb (.slice (some ⟨b, off, none⟩) l.length c) (a + 1) d ov' o' W' → (W'.cell? ⟨rb, 0, none⟩ = some (.slice (some ⟨b, off, none⟩) l.length c) ∧ W'.cell? ⟨rb, 1, none⟩ = some (.int .i64 ((a : Int) + 1)) ∧ W'.cell? ⟨b, off + (a + 1) * 5 + 1, none⟩ = some (.string x.s)) from fun W' ov' o' hW =>
            ⟨hW.cells.1.1, hW.cells.1.2.1, (hW.b0.cell (p := ⟨b, off + (a + 1) * 5 + 1, none⟩) hb).trans e1'⟩)
          go_region_held3 (fun W' => W'.cell? ⟨rb, 0, none⟩ = some (.slice (some ⟨b, off, none⟩) l.length c) ∧ W'.cell? ⟨rb, 1, none⟩ = some (.int .i64 ((a : Int) + 1)) ∧ W'.cell? ⟨b, off + (a + 1) * 5 + 1, none⟩ = some (.string x.s)) (first | exact HK2.out _ _ _ (by assumption) | exact HK.out _ (by (repeat' (first | (with_reducible exact Below.refl _ _) | (with_reducible refine below_alloc ?_) | (with_reducible refine below_drew ?_) | (with_reducible refine below_drewN ?_) | (with_reducible refine below_set (by first | (simp; done) | (simp; omega)) ?_) | (with_reducible refine below_call (by with_reducible assumption) ?_))))) (first | (go_at_call 34; refine (HPU.out _ (by (repeat' (first | (with_reducible exact Below.refl _ _) | (with_reducible refine below_alloc ?_) | (with_reducible refine below_drew ?_) | (with_reducible refine below_drewN ?_) | (with_reducible refine below_set (by first | (simp; done) | (simp; omega)) ?_) | (with_reducible refine below_call (by with_reducible assumption) ?_)))) (fieldP s x.s)).mono ?_; rintro e w6 ⟨rfl, hs6, ov6, h6⟩))
          all_goals
            have H6 := Lib.hid h6
            have H7 := Lib.hid (show St rb W w6 from .trans (.call (show Below w5.heap.size w5 _ by (repeat' (first | (with_reducible exact Below.refl _ _) | (with_reducible refine below_alloc ?_) | (with_reducible refine below_drew ?_) | (with_reducible refine below_drewN ?_) | (with_reducible refine below_set (by first | (simp; done) | (simp; omega)) ?_) | (with_reducible refine below_call (by with_reducible assumption) ?_)))) HS5.out) hs6)
            obtain ⟨⟨k0, k1, k2, k3⟩, hz6⟩ := h6.cells
            have f1 := hz6 1
            have k1' : w6.cell? ⟨rb, 1, none⟩ = some (.int .i64 ((a : Int) + 1)) := k1
            clear h6 hs6 k0 k1 k2 k3 hz6
            go_wp2
            rw [HZ2.out]
            exact ⟨rfl, _, results_none rfl _ _ _, .ok H6.out.next (.set H7.out _ _)⟩
        · have HZ2 := Lib.hid (show Z = .no (a + 1) 60 by rw [HZ.out, hx]; simp only [hk, if_false])
          have hkz : (x.k != 1) = true := by simpa using hk
          clear hx hcx hc hk
          go_quiet (fail)
          go_wp2_with (first | (go_at_call 85; refine (HF.out _ (by (repeat' (first | (with_reducible exact Below.refl _ _) | (with_reducible refine below_alloc ?_) | (with_reducible refine below_drew ?_) | (with_reducible refine below_drewN ?_) | (with_reducible refine below_set (by first | (simp; done) | (simp; omega)) ?_) | (with_reducible refine below_call (by with_reducible assumption) ?_))))).mono ?_; rintro e w6 ⟨rfl, hb6⟩))
          rw [HZ2.out]
          exact ⟨rfl, .no (HR5.out.below (by (repeat' (first | (with_reducible exact Below.refl _ _) | (with_reducible refine below_alloc ?_) | (with_reducible refine below_drew ?_) | (with_reducible refine below_drewN ?_) | (with_reducible refine below_set (by first | (simp; done) | (simp; omega)) ?_) | (with_reducible refine below_call (by with_reducible assumption) ?_))))).b0 (.call (show Below w5.heap.size w5 w6 by (repeat' (first | (with_reducible exact Below.refl _ _) | (with_reducible refine below_alloc ?_) | (with_reducible refine below_drew ?_) | (with_reducible refine below_drewN ?_) | (with_reducible refine below_set (by first | (simp; done) | (simp; omega)) ?_) | (with_reducible refine below_call (by with_reducible assumption) ?_)))) HS5.out)⟩
end Go.Proofs.YtbnelgniekcjdaaGreatDoor
