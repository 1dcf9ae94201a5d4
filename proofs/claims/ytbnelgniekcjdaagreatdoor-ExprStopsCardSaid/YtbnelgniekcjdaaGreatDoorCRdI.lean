/- (*reader).unary: a value with NOT or - ahead; the whole reader, at any depth. -/
import Derived.Test.YtbnelgniekcjdaaGreatDoorCRdH
set_option linter.unusedSimpArgs false
set_option linter.unusedVariables false
namespace Go.Proofs.YtbnelgniekcjdaaGreatDoor
open Go.RowKit Cap
set_option maxRecDepth 100000

/-- What is read one deeper, or why not. -/
def unNext (un : Option (Nat → PR)) (a : Nat) : PR := match un with
  | none => PR.no a 2
  | some f => f (a + 1)
/-- unary, at a depth, reads so. -/
def UnAt (l : List Tok) (w0 : World) (rb : Nat) (lv : Value) (d : Nat) (f : Nat → PR) : Prop :=
  ∀ W a ov o, Rd w0 rb lv a d ov o W → o.length ≤ a → a ≤ l.length → Calls Tryz.prog 31 #[.pointer (some ⟨rb, 0, none⟩)] W (RdE w0 W rb lv d o (f a))
/-- What unary reads one deeper, if that may be. -/
def Du (l : List Tok) (w0 : World) (rb : Nat) (lv : Value) (d : Nat) (un : Option (Nat → PR)) : Prop :=
  (d = 200 ∧ un = none) ∨ (d < 200 ∧ ∃ f, un = some f ∧ GoodP l f ∧ UnAt l w0 rb lv (d + 1) f)
set_option maxHeartbeats 4000000 in
theorem unary1_c (l : List Tok) (w0 W : World) (rb : Nat) (lv ov : Value) (a d : Nat) (o : List Prt) (hm : TokMax l.length) (h : Rd w0 rb lv a d ov o W) (ho : o.length ≤ a) (ha : a < l.length)
    (br : Nat) (f : Nat → PR) (hun : UnAt l w0 rb lv d f)
    (hbr : W.heap[br]? = some (.cells #[.pointer (some ⟨rb, 0, none⟩)] 55 (0, 0))) :
    Calls Tryz.prog 60 #[.pointer (some ⟨br, 0, none⟩)] W (RdE w0 W rb lv d o (f (a + 1))) := by
  have hR := h.at_
  have kbr := Lib.hid (show ∀ W', St rb W W' → W'.cell? ⟨br, 0, none⟩ = some (.pointer (some ⟨rb, 0, none⟩)) from fun W' hs => by rw [cell_of_row _ _ _ _ _ _ (hs.box hbr hR (by decide) (by decide))]; rfl)
  have i0 := kbr.out W (St.refl _ _)
  obtain ⟨⟨c0, c1, c2, c3⟩, hz⟩ := h.cells
  have f1 := hz 1
  have hN := h.next
  have hS : St rb W (W.setCell ⟨rb, 1, none⟩ (.int .i64 ((a : Int) + 1))) := .set (St.refl _ _) _ _
  have HS := Lib.hid hS
  have i1 := kbr.out _ hS
  obtain ⟨q, hq⟩ : ∃ q, f (a + 1) = q := ⟨_, rfl⟩
  have HC := Lib.hid (hun _ (a + 1) ov o hN (by omega) (by omega))
  rw [hq] at HC ⊢
  have ham : (a : Int) ≤ 2932031007402 := by unfold TokMax at hm; omega
  clear hq hN hS c0 c2 c3 hz h hR hbr hun
  go_enter Tryz.func60, Tryz.ntmps60
  go_wp2_with fail
  refine HC.out.mono ?_
  rintro e w1 hE
  cases hE with
  | no hb hk => exact ⟨rfl, .no hb (HS.out.trans hk)⟩
  | @ok b y w1 ov1 h1 hk =>
    have H1 := Lib.hid h1
    have HK := Lib.hid (HS.out.trans hk)
    clear h1 hk i1
    go_wp2
    exact ⟨rfl, _, results_none rfl _ _ _, .ok H1.out HK.out⟩
set_option maxHeartbeats 8000000 in
theorem unary_c (l : List Tok) (w0 W : World) (rb : Nat) (lv ov : Value) (a d : Nat) (o : List Prt) (hl : TokL w0 lv l) (hm : TokMax l.length) (h : Rd w0 rb lv a d ov o W) (ho : o.length ≤ a) (ha : a ≤ l.length) (hG : GX w0) (hts : ∀ t ∈ l, t.s.size ≤ 140737488351232)
    (un or : Option (Nat → PR)) (hun : Du l w0 rb lv d un) (hor : Dp l w0 rb lv d or) :
    Calls Tryz.prog 31 #[.pointer (some ⟨rb, 0, none⟩)] W (RdE w0 W rb lv d o (unaryP l un or a)) := by
  have hmf : ∀ (fn : Fn) (first cap : Array Value) (w : World), (Instr.makeFunc fn first cap).run Tryz.prog w = .ok (.func fn first cap) w := fun _ _ _ _ => rfl
  have H1 := Lib.hid (fun W' (hb : Below W.heap.size W W') => is_c l w0 W' rb lv ov a d o hl (h.below hb) ha 1 ⟨#[78, 79, 84]⟩)
  have H2 := Lib.hid (fun W' (hb : Below W.heap.size W W') => is_c l w0 W' rb lv ov a d o hl (h.below hb) ha 3 ⟨#[45]⟩)
  have HH := Lib.hid h
  have hlt := h.lt
  have hm' := hm
  unfold TokMax at hm'
  have hb2 : Below W.heap.size W (W.alloc (.cells #[.pointer (some ⟨rb, 0, none⟩)] 55)) := by (repeat' (first | (with_reducible exact Below.refl _ _) | (with_reducible refine below_alloc ?_) | (with_reducible refine below_drew ?_) | (with_reducible refine below_drewN ?_) | (with_reducible refine below_set (by first | (simp; done) | (simp; omega)) ?_) | (with_reducible refine below_call (by with_reducible assumption) ?_)))
  have x1 : (W.alloc (.cells #[.pointer (some ⟨rb, 0, none⟩)] 55)).heap[W.heap.size]? = some (.cells #[.pointer (some ⟨rb, 0, none⟩)] 55 (0, 0)) := heap_alloc_new _ _
  have HB2 := Lib.hid hb2
  have HX1 := Lib.hid x1
  have HDP : ∀ (hat : a < l.length) w1, Below (W.alloc (.cells #[.pointer (some ⟨rb, 0, none⟩)] 55)).heap.size (W.alloc (.cells #[.pointer (some ⟨rb, 0, none⟩)] 55)) w1 →
      Calls Tryz.prog 59 #[.pointer (some ⟨rb, 0, none⟩), .func (.func 60) #[] #[.pointer (some ⟨W.heap.size, 0, none⟩)]] w1 (RdE w0 w1 rb lv d o (unNext un a)) := by
    intro hat w1 hb1
    have hr1 := (h.below hb2).below hb1
    have y1 := (hb1.block _ (Array.getElem?_eq_some_iff.1 x1).1).trans x1
    rcases hun with ⟨rfl, rfl⟩ | ⟨hd, f, rfl, hgood, hat2⟩
    · have hz := deeper_c w0 w1 rb lv ov a 200 o hr1 ho 60 #[] #[.pointer (some ⟨W.heap.size, 0, none⟩)] (fun _ => .no a 2) (Nat.le_refl _) (fun h => by omega)
      rw [if_neg (by omega)] at hz
      exact hz
    · have hz := deeper_c w0 w1 rb lv ov a d o hr1 ho 60 #[] #[.pointer (some ⟨W.heap.size, 0, none⟩)] (fun a => f (a + 1)) (by omega)
        (fun _ => ⟨enters_of Tryz.func60 (by kernel_rfl) rfl, fun W' ov' o' hst hrd ho' =>
          unary1_c l w0 W' rb lv ov' a (d + 1) o' hm hrd ho' hat W.heap.size f hat2 (hst.box y1 hr1.at_ (by decide) (by decide))⟩)
      rw [if_pos hd] at hz
      exact hz
  have HGD := Lib.hid (show ∀ f, un = some f → GoodP l f from fun f hf => by
    rcases hun with ⟨_, rfl⟩ | ⟨_, f', rfl, hg, _⟩
    · cases hf
    · cases hf; exact hg)
  have HPR := Lib.hid (fun W' (hb : Below W.heap.size W W') => prim_c l w0 W' rb lv ov a d o hl hm (h.below hb) ho ha hG hts or hor)
  cases h1 : isTok l a 1 ⟨#[78, 79, 84]⟩ with
  | true =>
    rw [h1] at H1
    have hat := isTok_lt h1
    obtain ⟨q, hq⟩ : ∃ q, (unNext un a) = q := ⟨_, rfl⟩
    have HZ := Lib.hid (show unaryP l un or a = q.put (opP 16) by
      rw [← hq]; unfold unaryP; rw [h1, if_pos rfl]; cases un <;> rfl)
    have HQ := Lib.hid (show ∀ b y, q = .ok b y → b ≤ l.length ∧ y.length + 1 ≤ b - a from fun b y e => by
      rw [← hq] at e
      cases un with
      | none => cases e
      | some f => obtain ⟨g1, g2, g3⟩ := HGD.out f rfl _ _ _ e; exact ⟨g2, by omega⟩)
    have HDQ := Lib.hid (HDP hat)
    rw [hq] at HDQ
    rw [HZ.out]
    clear h h1 hq hor hun hl HPR HDP x1 hb2 HZ HGD hG hts
    go_enter Tryz.func31, Tryz.ntmps31
    go_wp2_with (first | (go_at_call 57; refine (H1.out _ (by (repeat' (first | (with_reducible exact Below.refl _ _) | (with_reducible refine below_alloc ?_) | (with_reducible refine below_drew ?_) | (with_reducible refine below_drewN ?_) | (with_reducible refine below_set (by first | (simp; done) | (simp; omega)) ?_) | (with_reducible refine below_call (by with_reducible assumption) ?_))))).mono ?_; rintro e w1 ⟨rfl, hb1⟩; have z1 := (cell_of_row _ _ 0 _ _ _ ((hb1.block _ (Array.getElem?_eq_some_iff.1 HX1.out).1).trans HX1.out)); simp at z1))
    refine (HDQ.out _ hb1).mono ?_
    rintro e w3 hE
    have hbw : Below W.heap.size W w1 := below_call hb1 HB2.out
    have hxw := (hb1.block _ (Array.getElem?_eq_some_iff.1 HX1.out).1).trans HX1.out
    cases hE with
    | no hb hk => exact ⟨rfl, .no hb (.trans (.call hbw (St.refl _ _)) hk)⟩
    | @ok b y w3 ov3 h3 hk =>
      obtain ⟨g1, g2⟩ := HQ.out _ _ rfl
      have HPU := Lib.hid (put_c w0 w3 rb lv ov3 b d _ h3 (by unfold TokMax; rw [List.length_append]; omega) (opP 16))
      have HK := Lib.hid (show St rb W w3 from .trans (.call hbw (St.refl _ _)) hk)
      have z3 := (cell_of_row _ _ 0 _ _ _ (hk.keeps _ _ hxw (by omega) (fun cs fr e => by injection e with e1 e2; exact absurd e2 (by decide))))
      simp at z3
      clear h3 hk
      go_wp2_with fail
      refine HPU.out.mono ?_
      rintro e w4 ⟨rfl, hs4, ov4, h4⟩
      have H4 := Lib.hid h4
      have HK4 := Lib.hid (HK.out.trans hs4)
      clear h4 hs4
      go_wp2
      exact ⟨rfl, _, results_none rfl _ _ _, .ok (by rw [← List.append_assoc]; exact H4.out) HK4.out⟩
  | false =>
    rw [h1] at H1
    cases h2 : isTok l a 3 ⟨#[45]⟩ with
    | true =>
      rw [h2] at H2
      have hat := isTok_lt h2
      obtain ⟨q, hq⟩ : ∃ q, (unNext un a) = q := ⟨_, rfl⟩
      have HZ := Lib.hid (show unaryP l un or a = q.put (opP 15) by
        rw [← hq]; unfold unaryP; rw [h1, if_neg (by decide), h2, if_pos rfl]; cases un <;> rfl)
      have HQ := Lib.hid (show ∀ b y, q = .ok b y → b ≤ l.length ∧ y.length + 1 ≤ b - a from fun b y e => by
        rw [← hq] at e
        cases un with
        | none => cases e
        | some f => obtain ⟨g1, g2, g3⟩ := HGD.out f rfl _ _ _ e; exact ⟨g2, by omega⟩)
      have HDQ := Lib.hid (HDP hat)
      rw [hq] at HDQ
      rw [HZ.out]
      clear h h1 h2 hq hor hun hl HPR HDP x1 hb2 HZ HGD hG hts
      go_enter Tryz.func31, Tryz.ntmps31
      go_wp2_with (first
        | (go_at_call_of 57 (Value.int .i64 1); refine (H1.out _ (by (repeat' (first | (with_reducible exact Below.refl _ _) | (with_reducible refine below_alloc ?_) | (with_reducible refine below_drew ?_) | (with_reducible refine below_drewN ?_) | (with_reducible refine below_set (by first | (simp; done) | (simp; omega)) ?_) | (with_reducible refine below_call (by with_reducible assumption) ?_))))).mono ?_; rintro e w1 ⟨rfl, hb1⟩; have z1 := (cell_of_row _ _ 0 _ _ _ ((hb1.block _ (Array.getElem?_eq_some_iff.1 HX1.out).1).trans HX1.out)); simp at z1)
        | (go_at_call_of 57 (Value.int .i64 3); refine (H2.out _ (by (repeat' (first | (with_reducible exact Below.refl _ _) | (with_reducible refine below_alloc ?_) | (with_reducible refine below_drew ?_) | (with_reducible refine below_drewN ?_) | (with_reducible refine below_set (by first | (simp; done) | (simp; omega)) ?_) | (with_reducible refine below_call (by with_reducible assumption) ?_))))).mono ?_; rintro e w2 ⟨rfl, hb2⟩; have z2 := (hb2.cell (p := ⟨W.heap.size, 0, none⟩) (World.block_lt_of_cell? _ _ z1)).trans z1))
      refine (HDQ.out _ (below_call hb2 hb1)).mono ?_
      rintro e w3 hE
      have hbw : Below W.heap.size W w2 := below_call hb2 (below_call hb1 HB2.out)
      have hxw := ((below_call hb2 hb1).block _ (Array.getElem?_eq_some_iff.1 HX1.out).1).trans HX1.out
      cases hE with
      | no hb hk => exact ⟨rfl, .no hb (.trans (.call hbw (St.refl _ _)) hk)⟩
      | @ok b y w3 ov3 h3 hk =>
        obtain ⟨g1, g2⟩ := HQ.out _ _ rfl
        have HPU := Lib.hid (put_c w0 w3 rb lv ov3 b d _ h3 (by unfold TokMax; rw [List.length_append]; omega) (opP 15))
        have HK := Lib.hid (show St rb W w3 from .trans (.call hbw (St.refl _ _)) hk)
        have z3 := (cell_of_row _ _ 0 _ _ _ (hk.keeps _ _ hxw (by omega) (fun cs fr e => by injection e with e1 e2; exact absurd e2 (by decide))))
        simp at z3
        clear h3 hk
        go_wp2_with fail
        refine HPU.out.mono ?_
        rintro e w4 ⟨rfl, hs4, ov4, h4⟩
        have H4 := Lib.hid h4
        have HK4 := Lib.hid (HK.out.trans hs4)
        clear h4 hs4
        go_wp2
        exact ⟨rfl, _, results_none rfl _ _ _, .ok (by rw [← List.append_assoc]; exact H4.out) HK4.out⟩
    | false =>
      rw [h2] at H2
      obtain ⟨q, hq⟩ : ∃ q, primP l or a = q := ⟨_, rfl⟩
      have HZ := Lib.hid (show unaryP l un or a = q by rw [← hq]; unfold unaryP; rw [h1, h2]; rfl)
      rw [hq] at HPR
      rw [HZ.out]
      clear h h1 h2 hq hor hun hl HDP x1 hb2 HZ HGD hG hts
      go_enter Tryz.func31, Tryz.ntmps31
      go_wp2_with (first
        | (go_at_call_of 57 (Value.int .i64 1); refine (H1.out _ (by (repeat' (first | (with_reducible exact Below.refl _ _) | (with_reducible refine below_alloc ?_) | (with_reducible refine below_drew ?_) | (with_reducible refine below_drewN ?_) | (with_reducible refine below_set (by first | (simp; done) | (simp; omega)) ?_) | (with_reducible refine below_call (by with_reducible assumption) ?_))))).mono ?_; rintro e w1 ⟨rfl, hb1⟩; have z1 := (cell_of_row _ _ 0 _ _ _ ((hb1.block _ (Array.getElem?_eq_some_iff.1 HX1.out).1).trans HX1.out)); simp at z1)
        | (go_at_call_of 57 (Value.int .i64 3); refine (H2.out _ (by (repeat' (first | (with_reducible exact Below.refl _ _) | (with_reducible refine below_alloc ?_) | (with_reducible refine below_drew ?_) | (with_reducible refine below_drewN ?_) | (with_reducible refine below_set (by first | (simp; done) | (simp; omega)) ?_) | (with_reducible refine below_call (by with_reducible assumption) ?_))))).mono ?_; rintro e w2 ⟨rfl, hb2⟩; have z2 := (hb2.cell (p := ⟨W.heap.size, 0, none⟩) (World.block_lt_of_cell? _ _ z1)).trans z1))
      have hb3 : Below W.heap.size W w2 := below_call hb2 (below_call hb1 HB2.out)
      refine (HPR.out _ hb3).mono ?_
      rintro e w3 hE
      have hE' := RdE.pre (.call hb3 (St.refl _ _)) hE
      clear hE
      cases hE' with
      | no hb hk => exact ⟨rfl, .no hb hk⟩
      | ok h3 hk =>
        have H3 := Lib.hid h3
        have HK := Lib.hid hk
        clear h3 hk
        go_wp2
        exact ⟨rfl, _, results_none rfl _ _ _, .ok H3.out HK.out⟩
/-- The reader, at each depth. -/
theorem reads_c (l : List Tok) (w0 : World) (rb : Nat) (lv : Value) (hl : TokL w0 lv l) (hm : TokMax l.length) (hG : GX w0) (hts : ∀ t ∈ l, t.s.size ≤ 140737488351232) :
    ∀ k, k ≤ 200 → UnAt l w0 rb lv (200 - k) (unP l k) ∧ OrAt l w0 rb lv (200 - k) (orP l (unP l k)) := by
  have step : ∀ k, k ≤ 200 → UnAt l w0 rb lv (200 - k) (unP l k) → OrAt l w0 rb lv (200 - k) (orP l (unP l k)) := fun k _ hu W a ov o h ho ha =>
    or_c l w0 W rb lv ov a (200 - k) o hl hm h ho ha hG (unP l k) (un_good l k) ⟨enters_of Tryz.func31 (by kernel_rfl) rfl, fun W' a' ov' o' _ h' ho' ha' => hu W' a' ov' o' h' ho' ha'⟩
  intro k
  induction k with
  | zero =>
    intro hk
    have hu : UnAt l w0 rb lv (200 - 0) (unP l 0) := fun W a ov o h ho ha => unary_c l w0 W rb lv ov a 200 o hl hm h ho ha hG hts none none (.inl ⟨rfl, rfl⟩) (.inl ⟨rfl, rfl⟩)
    exact ⟨hu, step 0 hk hu⟩
  | succ k ih =>
    intro hk
    obtain ⟨iu, io⟩ := ih (by omega)
    rw [show 200 - k = 200 - (k + 1) + 1 by omega] at iu io
    have hu : UnAt l w0 rb lv (200 - (k + 1)) (unP l (k + 1)) := fun W a ov o h ho ha => unary_c l w0 W rb lv ov a (200 - (k + 1)) o hl hm h ho ha hG hts (some (unP l k)) (some (orP l (unP l k)))
      (.inr ⟨by omega, _, rfl, un_good l k, iu⟩) (.inr ⟨by omega, _, rfl, orP_good (un_good l k), io⟩)
    exact ⟨hu, step (k + 1) hk hu⟩
theorem or_all (l : List Tok) (w0 : World) (rb : Nat) (lv : Value) (hl : TokL w0 lv l) (hm : TokMax l.length) (hG : GX w0) (hts : ∀ t ∈ l, t.s.size ≤ 140737488351232) : OrAt l w0 rb lv 0 (orP l (unP l 200)) :=
  (reads_c l w0 rb lv hl hm hG hts 200 (Nat.le_refl _)).2
end Go.Proofs.YtbnelgniekcjdaaGreatDoor
