/- (*reader).unary: a value with NOT or - ahead; the whole reader, at any depth. -/
import Derived.Test.YtbnelgniekcjdaaGreatDoorCRdH
import Derived.Recover
import Derived.Test.YtbnelgniekcjdaaGreatDoorCFDepth
set_option linter.unusedSimpArgs false
set_option linter.unusedVariables false
namespace Go.Proofs.YtbnelgniekcjdaaGreatDoor
open Go.RowKit Cap
set_option maxRecDepth 100000

/-- What is read one deeper, or why not. -/
def unNext (un : Option (Nat → PR)) (a : Nat) : PR := match un with
  | none => PR.no a 2
  | some f => f (a + 1)
/-- unary, at a depth, reads so. -/
def UnAt (l : List Tok) (w0 : World) (rb : Nat) (lv : Value) (d : Nat) (f : Nat → PR) : Prop :=
  ∀ W a ov o, Rd w0 rb lv a d ov o W → o.length ≤ a → a ≤ l.length → Calls Tryz.prog 31 #[.pointer (some ⟨rb, 0, none⟩)] W (RdE w0 W rb lv d o (f a))
/-- What unary reads one deeper, if that may be. -/
def Du (l : List Tok) (w0 : World) (rb : Nat) (lv : Value) (d : Nat) (un : Option (Nat → PR)) : Prop :=
  (d = 200 ∧ un = none) ∨ (d < 200 ∧ ∃ f, un = some f ∧ GoodP l f ∧ UnAt l w0 rb lv (d + 1) f)
set_option maxHeartbeats 4000000 in
theorem unary1_c (l : List Tok) (w0 W : World) (rb : Nat) (lv ov : Value) (a d : Nat) (o : List Prt) (hm : TokMax l.length) (h : Rd w0 rb lv a d ov o W) (ho : o.length ≤ a) (ha : a < l.length)
    (br : Nat) (f : Nat → PR) (hun : UnAt l w0 rb lv d f)
    (hbr : W.heap[br]? = some (.cells #[.pointer (some ⟨rb, 0, none⟩)] 55 (0, 0))) :
    Calls Tryz.prog 60 #[.pointer (some ⟨br, 0, none⟩)] W (RdE w0 W rb lv d o (f (a + 1))) := by
  have hR := h.at_
  have kbr := Lib.hid (show ∀ W', St rb W W' → W'.cell? ⟨br, 0, none⟩ = some (.pointer (some ⟨rb, 0, none⟩)) from fun W' hs => by rw [cell_of_row _ _ _ _ _ _ (hs.box hbr hR (by decide) (by decide))]; rfl)
  have i0 := kbr.out W (St.refl _ _)
  obtain ⟨⟨c0, c1, c2, c3⟩, hz⟩ := h.cells
  have f1 := hz 1
  have hN := h.next
  have hS : St rb W (W.setCell ⟨rb, 1, none⟩ (.int .i64 ((a : Int) + 1))) := .set (St.refl _ _) _ _
  have HS := Lib.hid hS
  have i1 := kbr.out _ hS
  obtain ⟨q, hq⟩ : ∃ q, f (a + 1) = q := ⟨_, rfl⟩
  have HC := Lib.hid (hun _ (a + 1) ov o hN (by omega) (by omega))
  rw [hq] at HC ⊢
  have ham : (a : Int) ≤ 2932031007402 := by unfold TokMax at hm; omega
  clear hq hN hS c0 c2 c3 hz h hR hbr hun
  go_enter Tryz.func60, Tryz.ntmps60
  go_wp2_with fail
  refine HC.out.mono ?_
  rintro e w1 hE
  cases hE with
  | no hb hk => exact ⟨rfl, .no hb (HS.out.trans hk)⟩
  | @ok b y w1 ov1 h1 hk =>
    have H1 := Lib.hid h1
    have HK := Lib.hid (HS.out.trans hk)
    clear h1 hk i1
    go_wp2
    exact ⟨rfl, _, results_none rfl _ _ _, .ok H1.out HK.out⟩
set_option maxHeartbeats 8000000 in
theorem unary_c (l : List Tok) (w0 W : World) (rb : Nat) (lv ov : Value) (a d : Nat) (o : List Prt) (hl : TokL w0 lv l) (hm : TokMax l.length) (h : Rd w0 rb lv a d ov o W) (ho : o.length ≤ a) (ha : a ≤ l.length) (hG : GX w0) (hts : ∀ t ∈ l, t.s.size ≤ 140737488351232)
    (un or : Option (Nat → PR)) (hun : Du l w0 rb lv d un) (hor : Dp l w0 rb lv d or) :
    Calls Tryz.prog 31 #[.pointer (some ⟨rb, 0, none⟩)] W (RdE w0 W rb lv d o (unaryP l un or a)) := by
  have hmf : ∀ (fn : Fn) (first cap : Array Value) (w : World), (Instr.makeFunc fn first cap).run Tryz.prog w = .ok (.func fn first cap) w := fun _ _ _ _ => rfl
  have H1 := Lib.hid (fun W' (hb : Below W.heap.size W W') => is_c l w0 W' rb lv ov a d o hl (h.below hb) ha 1 ⟨#[78, 79, 84]⟩)
  have H2 := Lib.hid (fun W' (hb : Below W.heap.size W W') => is_c l w0 W' rb lv ov a d o hl (h.below hb) ha 3 ⟨#[45]⟩)
  have HH := Lib.hid h
  have hlt := h.lt
  have hm' := hm
  unfold TokMax at hm'
  have hb2 : Below W.heap.size W (W.alloc (.cells #[.pointer (some ⟨rb, 0, none⟩)] 55)) := by (repeat' (first | (with_reducible exact Below.refl _ _) | (with_reducible refine below_alloc ?_) | (with_reducible refine below_drew ?_) | (with_reducible refine below_drewN ?_) | (with_reducible refine below_set (by first | (simp; done) | (simp; omega)) ?_) | (with_reducible refine below_call (by with_reducible assumption) ?_)))
  have x1 : (W.alloc (.cells #[.pointer (some ⟨rb, 0, none⟩)] 55)).heap[W.heap.size]? = some (.cells #[.pointer (some ⟨rb, 0, none⟩)] 55 (0, 0)) := heap_alloc_new _ _
  have HB2 := Lib.hid hb2
  have HX1 := Lib.hid x1
  have HDP : ∀ (hat : a < l.length) w1, Below (W.alloc (.cells #[.pointer (some ⟨rb, 0, none⟩)] 55)).heap.size (W.alloc (.cells #[.pointer (some ⟨rb, 0, none⟩)] 55)) w1 →
      Calls Tryz.prog 59 #[.pointer (some ⟨rb, 0, none⟩), .func (.func 60) #[] #[.pointer (some ⟨W.heap.size, 0, none⟩)]] w1 (RdE w0 w1 rb lv d o (unNext un a)) := by
    intro hat w1 hb1
    have hr1 := (h.below hb2).below hb1
    have y1 := (hb1.block _ (Array.getElem?_eq_some_iff.1 x1).1).trans x1
    rcases hun with ⟨rfl, rfl⟩ | ⟨hd, f, rfl, hgood, hat2⟩
    · have hz := deeper_c w0 w1 rb lv ov a 200 o hr1 ho 60 #[] #[.pointer (some ⟨W.heap.size, 0, none⟩)] (fun _ => .no a 2) (Nat.le_refl _) (fun h => by omega)
      rw [if_neg (by omega)] at hz
      exact hz
    · have hz := deeper_c w0 w1 rb lv ov a d o hr1 ho 60 #[] #[.pointer (some ⟨W.heap.size, 0, none⟩)] (fun a => f (a + 1)) (by omega)
        (fun _ => ⟨enters_of Tryz.func60 (by kernel_rfl) rfl, fun W' ov' o' hst hrd ho' =>
          unary1_c l w0 W' rb lv ov' a (d + 1) o' hm hrd ho' hat W.heap.size f hat2 (hst.box y1 hr1.at_ (by decide) (by decide))⟩)
      rw [if_pos hd] at hz
      exact hz
  have HGD := Lib.hid (show ∀ f, un = some f → GoodP l f from fun f hf => by
    rcases hun with ⟨_, rfl⟩ | ⟨_, f', rfl, hg, _⟩
    · cases hf
    · cases hf; exact hg)
  have HPR := Lib.hid (fun W' (hb : Below W.heap.size W W') => prim_c l w0 W' rb lv ov a d o hl hm (h.below hb) ho ha hG hts or hor)
  cases h1 : isTok l a 1 ⟨#[78, 79, 84]⟩ with
  | true =>
    rw [h1] at H1
    have hat := isTok_lt h1
    obtain ⟨q, hq⟩ : ∃ q, (unNext un a) = q := ⟨_, rfl⟩
    have HZ := Lib.hid (show unaryP l un or a = q.put (opP 16) by
      rw [← hq]; unfold unaryP; rw [h1, if_pos rfl]; cases un <;> rfl)
    have HQ := Lib.hid (show ∀ b y, q = .ok b y → b ≤ l.length ∧ y.length + 1 ≤ b - a from fun b y e => by
      rw [← hq] at e
      cases un with
      | none => cases e
      | some f => obtain ⟨g1, g2, g3⟩ := HGD.out f rfl _ _ _ e; exact ⟨g2, by omega⟩)
    have HDQ := Lib.hid (HDP hat)
    rw [hq] at HDQ
    rw [HZ.out]
    clear h h1 hq hor hun hl HPR HDP x1 hb2 HZ HGD hG hts
    go_enter Tryz.func31, Tryz.ntmps31
    go_wp2_with (first | (go_at_call 57; refine (H1.out _ (by (repeat' (first | (with_reducible exact Below.refl _ _) | (with_reducible refine below_alloc ?_) | (with_reducible refine below_drew ?_) | (with_reducible refine below_drewN ?_) | (with_reducible refine below_set (by first | (simp; done) | (simp; omega)) ?_) | (with_reducible refine below_call (by with_reducible assumption) ?_))))).mono ?_; rintro e w1 ⟨rfl, hb1⟩; have z1 := (cell_of_row _ _ 0 _ _ _ ((hb1.block _ (Array.getElem?_eq_some_iff.1 HX1.out).1).trans HX1.out)); simp at z1))
    refine (HDQ.out _ hb1).mono ?_
    rintro e w3 hE
    have hbw : Below W.heap.size W w1 := below_call hb1 HB2.out
    have hxw := (hb1.block _ (Array.getElem?_eq_some_iff.1 HX1.out).1).trans HX1.out
    cases hE with
    | no hb hk => exact ⟨rfl, .no hb (.trans (.call hbw (St.refl _ _)) hk)⟩
    | @ok b y w3 ov3 h3 hk =>
      obtain ⟨g1, g2⟩ := HQ.out _ _ rfl
      have HPU := Lib.hid (put_c w0 w3 rb lv ov3 b d _ h3 (by unfold TokMax; rw [List.length_append]; omega) (opP 16))
      have HK := Lib.hid (show St rb W w3 from .trans (.call hbw (St.refl _ _)) hk)
      have z3 := (cell_of_row _ _ 0 _ _ _ (hk.keeps _ _ hxw (by omega) (fun cs fr e => by injection e with e1 e2; exact absurd e2 (by decide))))
      simp at z3
      clear h3 hk
      go_wp2_with fail
      refine HPU.out.mono ?_
      rintro e w4 ⟨rfl, hs4, ov4, h4⟩
      have H4 := Lib.hid h4
      have HK4 := Lib.hid (HK.out.trans hs4)
      clear h4 hs4
      go_wp2
      exact ⟨rfl, _, results_none rfl _ _ _, .ok (by rw [← List.append_assoc]; exact H4.out) HK4.out⟩
  | false =>
    rw [h1] at H1
    cases h2 : isTok l a 3 ⟨#[45]⟩ with
    | true =>
      rw [h2] at H2
      have hat := isTok_lt h2
      obtain ⟨q, hq⟩ : ∃ q, (unNext un a) = q := ⟨_, rfl⟩
      have HZ := Lib.hid (show unaryP l un or a = q.put (opP 15) by
        rw [← hq]; unfold unaryP; rw [h1, if_neg (by decide), h2, if_pos rfl]; cases un <;> rfl)
      have HQ := Lib.hid (show ∀ b y, q = .ok b y → b ≤ l.length ∧ y.length + 1 ≤ b - a from fun b y e => by
        rw [← hq] at e
        cases un with
        | none => cases e
        | some f => obtain ⟨g1, g2, g3⟩ := HGD.out f rfl _ _ _ e; exact ⟨g2, by omega⟩)
      have HDQ := Lib.hid (HDP hat)
      rw [hq] at HDQ
      rw [HZ.out]
      clear h h1 h2 hq hor hun hl HPR HDP x1 hb2 HZ HGD hG hts
      go_enter Tryz.func31, Tryz.ntmps31
      go_wp2_with (first
        | (go_at_call_of 57 (Value.int .i64 1); refine (H1.out _ (by (repeat' (first | (with_reducible exact Below.refl _ _) | (with_reducible refine below_alloc ?_) | (with_reducible refine below_drew ?_) | (with_reducible refine below_drewN ?_) | (with_reducible refine below_set (by first | (simp; done) | (simp; omega)) ?_) | (with_reducible refine below_call (by with_reducible assumption) ?_))))).mono ?_; rintro e w1 ⟨rfl, hb1⟩; have z1 := (cell_of_row _ _ 0 _ _ _ ((hb1.block _ (Array.getElem?_eq_some_iff.1 HX1.out).1).trans HX1.out)); simp at z1)
        | (go_at_call_of 57 (Value.int .i64 3); refine (H2.out _ (by (repeat' (first | (with_reducible exact Below.refl _ _) | (with_reducible refine below_alloc ?_) | (with_reducible refine below_drew ?_) | (with_reducible refine below_drewN ?_) | (with_reducible refine below_set (by first | (simp; done) | (simp; omega)) ?_) | (with_reducible refine below_call (by with_reducible assumption) ?_))))).mono ?_; rintro e w2 ⟨rfl, hb2⟩; have z2 := (hb2.cell (p := ⟨W.heap.size, 0, none⟩) (World.block_lt_of_cell? _ _ z1)).trans z1))
      refine (HDQ.out _ (below_call hb2 hb1)).mono ?_
      rintro e w3 hE
      have hbw : Below W.heap.size W w2 := below_call hb2 (below_call hb1 HB2.out)
      have hxw := ((below_call hb2 hb1).block _ (Array.getElem?_eq_some_iff.1 HX1.out).1).trans HX1.out
      cases hE with
      | no hb hk => exact ⟨rfl, .no hb (.trans (.call hbw (St.refl _ _)) hk)⟩
      | @ok b y w3 ov3 h3 hk =>
        obtain ⟨g1, g2⟩ := HQ.out _ _ rfl
        have HPU := Lib.hid (put_c w0 w3 rb lv ov3 b d _ h3 (by unfold TokMax; rw [List.length_append]; omega) (opP 15))
        have HK := Lib.hid (show St rb W w3 from .trans (.call hbw (St.refl _ _)) hk)
        have z3 := (cell_of_row _ _ 0 _ _ _ (hk.keeps _ _ hxw (by omega) (fun cs fr e => by injection e with e1 e2; exact absurd e2 (by decide))))
        simp at z3
        clear h3 hk
        go_wp2_with fail
        refine HPU.out.mono ?_
        rintro e w4 ⟨rfl, hs4, ov4, h4⟩
        have H4 := Lib.hid h4
        have HK4 := Lib.hid (HK.out.trans hs4)
        clear h4 hs4
        go_wp2
        exact ⟨rfl, _, results_none rfl _ _ _, .ok (by rw [← List.append_assoc]; exact H4.out) HK4.out⟩
    | false =>
      rw [h2] at H2
      obtain ⟨q, hq⟩ : ∃ q, primP l or a = q := ⟨_, rfl⟩
      have HZ := Lib.hid (show unaryP l un or a = q by rw [← hq]; unfold unaryP; rw [h1, h2]; rfl)
      rw [hq] at HPR
      rw [HZ.out]
      clear h h1 h2 hq hor hun hl HDP x1 hb2 HZ HGD hG hts
      go_enter Tryz.func31, Tryz.ntmps31
      go_wp2_with (first
        | (go_at_call_of 57 (Value.int .i64 1); refine (H1.out _ (by (repeat' (first | (with_reducible exact Below.refl _ _) | (with_reducible refine below_alloc ?_) | (with_reducible refine below_drew ?_) | (with_reducible refine below_drewN ?_) | (with_reducible refine below_set (by first | (simp; done) | (simp; omega)) ?_) | (with_reducible refine below_call (by with_reducible assumption) ?_))))).mono ?_; rintro e w1 ⟨rfl, hb1⟩; have z1 := (cell_of_row _ _ 0 _ _ _ ((hb1.block _ (Array.getElem?_eq_some_iff.1 HX1.out).1).trans HX1.out)); simp at z1)
        | (go_at_call_of 57 (Value.int .i64 3); refine (H2.out _ (by (repeat' (first | (with_reducible exact Below.refl _ _) | (with_reducible refine below_alloc ?_) | (with_reducible refine below_drew ?_) | (with_reducible refine below_drewN ?_) | (with_reducible refine below_set (by first | (simp; done) | (simp; omega)) ?_) | (with_reducible refine below_call (by with_reducible assumption) ?_))))).mono ?_; rintro e w2 ⟨rfl, hb2⟩; have z2 := (hb2.cell (p := ⟨W.heap.size, 0, none⟩) (World.block_lt_of_cell? _ _ z1)).trans z1))
      have hb3 : Below W.heap.size W w2 := below_call hb2 (below_call hb1 HB2.out)
      refine (HPR.out _ hb3).mono ?_
      rintro e w3 hE
      have hE' := RdE.pre (.call hb3 (St.refl _ _)) hE
      clear hE
      cases hE' with
      | no hb hk => exact ⟨rfl, .no hb hk⟩
      | ok h3 hk =>
        have H3 := Lib.hid h3
        have HK := Lib.hid hk
        clear h3 hk
        go_wp2
        exact ⟨rfl, _, results_none rfl _ _ _, .ok H3.out HK.out⟩
/-- The reader, at each depth. -/
theorem reads_c (l : List Tok) (w0 : World) (rb : Nat) (lv : Value) (hl : TokL w0 lv l) (hm : TokMax l.length) (hG : GX w0) (hts : ∀ t ∈ l, t.s.size ≤ 140737488351232) :
    ∀ k, k ≤ 200 → UnAt l w0 rb lv (200 - k) (unP l k) ∧ OrAt l w0 rb lv (200 - k) (orP l (unP l k)) := by
  have step : ∀ k, k ≤ 200 → UnAt l w0 rb lv (200 - k) (unP l k) → OrAt l w0 rb lv (200 - k) (orP l (unP l k)) := fun k _ hu W a ov o h ho ha =>
    or_c l w0 W rb lv ov a (200 - k) o hl hm h ho ha hG (unP l k) (un_good l k) ⟨enters_of Tryz.func31 (by kernel_rfl) rfl, fun W' a' ov' o' _ h' ho' ha' => hu W' a' ov' o' h' ho' ha'⟩
  intro k
  induction k with
  | zero =>
    intro hk
    have hu : UnAt l w0 rb lv (200 - 0) (unP l 0) := fun W a ov o h ho ha => unary_c l w0 W rb lv ov a 200 o hl hm h ho ha hG hts none none (.inl ⟨rfl, rfl⟩) (.inl ⟨rfl, rfl⟩)
    exact ⟨hu, step 0 hk hu⟩
  | succ k ih =>
    intro hk
    obtain ⟨iu, io⟩ := ih (by omega)
    rw [show 200 - k = 200 - (k + 1) + 1 by omega] at iu io
    have hu : UnAt l w0 rb lv (200 - (k + 1)) (unP l (k + 1)) := fun W a ov o h ho ha => unary_c l w0 W rb lv ov a (200 - (k + 1)) o hl hm h ho ha hG hts (some (unP l k)) (some (orP l (unP l k)))
      (.inr ⟨by omega, _, rfl, un_good l k, iu⟩) (.inr ⟨by omega, _, rfl, orP_good (un_good l k), io⟩)
    exact ⟨hu, step (k + 1) hk hu⟩
theorem or_all (l : List Tok) (w0 : World) (rb : Nat) (lv : Value) (hl : TokL w0 lv l) (hm : TokMax l.length) (hG : GX w0) (hts : ∀ t ∈ l, t.s.size ≤ 140737488351232) : OrAt l w0 rb lv 0 (orP l (unP l 200)) :=
  (reads_c l w0 rb lv hl hm hG hts 200 (Nat.le_refl _)).2
end Go.Proofs.YtbnelgniekcjdaaGreatDoor

/- expr.Parse: what its deferred function does. -/
namespace Go.Proofs.YtbnelgniekcjdaaGreatDoor
open Go.RowKit Cap
set_option maxRecDepth 100000

/-- A region's operations, of a deferred call, as a list. -/
def wpListS (P : Program) (ops : Array Oper) (Q : Exit → Act → List Frame → World → Prop) : List Oper → Act → List Frame → World → Prop
  | [], a, cs, w => Q .normal a cs w
  | o :: rest, a, cs, w =>
      if Region.wanted o (yielded ops a.tmps) then
        match (execOp a.eval o).run P w with
        | .ok .recover w' =>
          match recoverD cs with
          | some (v, cs') => wpListS P ops Q rest (a.put o.dst v) cs' w'
          | none => wpListS P ops Q rest (a.put o.dst .nilIface) cs w'
        | r => o.upon P a (fun a' w' => wpListS P ops Q rest a' cs w') (fun e a' w' => Q e a' cs w') r
      else wpListS P ops Q rest (a.put o.dst undef) cs w
section
variable {P : Program} {ops : Array Oper} {Q : Exit → Act → List Frame → World → Prop} {o : Oper} {rest : List Oper} {a : Act} {cs : List Frame} {w w' : World}
theorem wpOpsS_list (l : List Oper) : ∀ k, (∀ j, l[j]? = ops[k + j]?) → wpOpsS P ops Q (List.range' k l.length) = wpListS P ops Q l := by
  induction l with
  | nil => intro k _; funext a cs w; simp [wpOpsS, wpListS]
  | cons o l ih =>
    intro k h
    funext a cs w
    have h0 : ops[k]? = some o := by simpa using (h 0).symm
    have ih' := ih (k + 1) (fun j => by rw [show k + 1 + j = k + (j + 1) by omega]; simpa using h (j + 1))
    rw [List.length_cons, List.range'_succ, wpOpsS, wpListS, h0]
    simp only [ih']
    rfl
theorem wpS_region_list {id : Nat} {L : List Oper} (h : wpListS P L.toArray Q L a cs w) : (Code.region id L.toArray false).wpS P Q a cs w := by
  apply wpS_region
  have e := wpOpsS_list (P := P) (ops := L.toArray) (Q := Q) L 0 (fun j => by simp)
  rw [← List.range_eq_range'] at e
  show wpOpsS P L.toArray Q (List.range L.length) a cs w
  rw [e]
  exact h
theorem listS_value {v : Value} (hg : o.guard = none) (hr : (execOp a.eval o).run P w = .ok (.value v) w') (h : wpListS P ops Q rest (a.put o.dst v) cs w') : wpListS P ops Q (o :: rest) a cs w := by
  unfold wpListS
  rw [if_pos (by simp [Region.wanted, hg]), hr]
  exact h
theorem listS_skip (hg : o.guard = none) (hr : (execOp a.eval o).run P w = .ok .skip w') (h : wpListS P ops Q rest (a.put o.dst undef) cs w') : wpListS P ops Q (o :: rest) a cs w := by
  unfold wpListS
  rw [if_pos (by simp [Region.wanted, hg]), hr]
  exact h
theorem listS_none (hg : o.guard = none) (hr : (execOp a.eval o).run P w = .ok .recover w') (hc : recoverD cs = none) (h : wpListS P ops Q rest (a.put o.dst .nilIface) cs w') : wpListS P ops Q (o :: rest) a cs w := by
  unfold wpListS
  rw [if_pos (by simp [Region.wanted, hg]), hr]
  simp only [hc]
  exact h
theorem listS_some {v : Value} {cs' : List Frame} (hg : o.guard = none) (hr : (execOp a.eval o).run P w = .ok .recover w') (hc : recoverD cs = some (v, cs')) (h : wpListS P ops Q rest (a.put o.dst v) cs' w') : wpListS P ops Q (o :: rest) a cs w := by
  unfold wpListS
  rw [if_pos (by simp [Region.wanted, hg]), hr]
  simp only [hc]
  exact h
theorem listS_of {Q' : Exit → Act → World → Prop} (hq : ∀ e a w, Q' e a w → Q e a cs w) (hn : ∀ a w, ¬ Q' .outgrown a w) : ∀ (l : List Oper) (a : Act) (w : World), wpList P ops Q' l a w → wpListS P ops Q l a cs w := by
  have hl : ¬ LetsOut Q' := fun ⟨a, w, h⟩ => hn a w h
  intro l
  induction l with
  | nil => intro a w h; exact hq _ _ _ h
  | cons o l ih =>
    intro a w h
    rw [wpList] at h
    rw [wpListS]
    by_cases hw : Region.wanted o (yielded ops a.tmps) = true
    · rw [if_pos hw] at h ⊢
      rcases h with h | ⟨_, h⟩
      · unfold Oper.wp at h
        generalize hr : (execOp a.eval o).run P w = r at h ⊢
        cases r with
        | ok x w' =>
          cases x with
          | recover => exact h.elim
          | value v => exact ih _ _ h
          | skip => exact ih _ _ h
          | defer d => exact ih _ _ h
          | enter f args =>
            refine Calls.mono h fun e w'' hR => ?_
            cases e with
            | returned v => exact ih _ _ hR
            | panicked c => exact hq _ _ _ hR
            | outgrown => exact absurd hR hl
          | row r args => exact Rows.mono h fun v w'' hR => ih _ _ hR
          | _ => exact h.elim
        | halt x w' =>
          cases x with
          | panic v => exact hq _ _ _ h
          | _ => exact h.elim
      · exact absurd h hl
    · rw [if_neg hw] at h ⊢
      exact ih _ _ h
/-- A region that begins with 'recover', and what is behind it. -/
theorem wpS_recover_seq {id : Nat} {L : List Oper} {y : Code} {v : Value} {cs' : List Frame} (hg : o.guard = none) (hr : (execOp a.eval o).run P w = .ok .recover w)
    (hc : recoverD cs = some (v, cs') ∨ (recoverD cs = none ∧ v = .nilIface ∧ cs' = cs)) (hn : ∀ a w, ¬ Q .outgrown a cs' w)
    (h : wpList P (o :: L).toArray (Exit.then (y.wp P (fun e a w => Q e a cs' w)) (fun e a w => Q e a cs' w)) L (a.put o.dst v) w) :
    (Code.seq (.region id (o :: L).toArray false) y).wpS P Q a cs w := by
  apply wpS_seq
  apply wpS_region_list
  have h' : wpListS P (o :: L).toArray (Exit.thenS (y.wpS P Q) Q) L (a.put o.dst v) cs' w := by
    apply listS_of (Q' := Exit.then (y.wp P (fun e a w => Q e a cs' w)) (fun e a w => Q e a cs' w)) (Q := Exit.thenS (y.wpS P Q) Q)
    · intro e a w h
      cases e with
      | normal => exact wpS_of_wp h
      | _ => exact h
    · exact hn
    · exact h
  rcases hc with hc | ⟨hc, rfl, rfl⟩
  · exact listS_some hg hr hc h'
  · exact listS_none hg hr hc h'
end
/-- The three results' cells, as they lie. -/
structure Res3 (p : Nat) (x n f c : Value) (w : World) : Prop where
  a : w.heap[p]? = some (.cells #[x] 26 (0, 0))
  b : w.heap[p + 1]? = some (.cells #[n] 3 (0, 0))
  c : w.heap[p + 1 + 1]? = some (.cells #[f, c] 34 (0, 0))
theorem Res3.below {p : Nat} {x n f c : Value} {w w' : World} (h : Res3 p x n f c w) (hb : Below w.heap.size w w') : Res3 p x n f c w' :=
  ⟨(hb.block _ (Array.getElem?_eq_some_iff.1 h.a).1).trans h.a, (hb.block _ (Array.getElem?_eq_some_iff.1 h.b).1).trans h.b, (hb.block _ (Array.getElem?_eq_some_iff.1 h.c).1).trans h.c⟩
theorem Res3.sets {p : Nat} {x n f c : Value} {w : World} (h : Res3 p x n f c w) (v m a b : Value) :
    Res3 p v m a b ((((w.setCell ⟨p, 0, none⟩ v).setCell ⟨p + 1, 0, none⟩ m).setCell ⟨p + 1 + 1, 0, none⟩ a).setCell ⟨p + 1 + 1, 1, none⟩ b) := by
  have o : ∀ (w : World) (q j : Nat) (u : Value) (k : Nat), k ≠ q → (w.setCell ⟨q, j, none⟩ u).heap[k]? = w.heap[k]? := fun w q j u k hk => heap_setCell_other w ⟨q, j, none⟩ k u hk
  refine ⟨?_, ?_, ?_⟩
  · rw [o _ _ _ _ _ (by omega), o _ _ _ _ _ (by omega), o _ _ _ _ _ (by omega)]
    exact heap_setCell_same w p 0 _ _ v h.a
  · rw [o _ _ _ _ _ (by omega), o _ _ _ _ _ (by omega)]
    exact heap_setCell_same _ (p + 1) 0 _ _ m ((o _ _ _ _ _ (by omega)).trans h.b)
  · exact heap_setCell_same _ (p + 1 + 1) 1 _ _ b (heap_setCell_same _ (p + 1 + 1) 0 _ _ a ((o _ _ _ _ _ (by omega)).trans ((o _ _ _ _ _ (by omega)).trans h.c)))
theorem below_weak {B B' : Nat} {a b : World} (h : Below B' a b) (hB : B ≤ B') : Below B a b := ⟨h.os, h.tape, h.output, h.size, fun i hi => h.block i (Nat.lt_of_lt_of_le hi hB)⟩
theorem sets4_below (p : Nat) (w : World) (v m a b : Value) : Below p w ((((w.setCell ⟨p, 0, none⟩ v).setCell ⟨p + 1, 0, none⟩ m).setCell ⟨p + 1 + 1, 0, none⟩ a).setCell ⟨p + 1 + 1, 1, none⟩ b) :=
  ((((Below.refl p w).setCell (show p ≤ p by omega) v).setCell (show p ≤ p + 1 by omega) m).setCell (show p ≤ p + 1 + 1 by omega) a).setCell (show p ≤ p + 1 + 1 by omega) b
set_option maxHeartbeats 4000000 in
theorem catch_idle (p : Nat) (w : World) :
    CallsD Tryz.prog 16 #[.pointer (some ⟨p, 0, none⟩), .pointer (some ⟨p + 1, 0, none⟩), .pointer (some ⟨p + 1 + 1, 0, none⟩)] .returning w fun e u' w' =>
      e = .returned (.tuple #[]) ∧ u' = .returning ∧ Below w.heap.size w w' := by
  have hta : ∀ w : World, (Instr.typeAssert .nilIface 20 53 true).run Tryz.prog w = .ok (.tuple #[.agg #[.int .i64 0, .int .i64 0], .bool false]) w := fun _ => by kernel_rfl
  refine callsD_of_wpS Tryz.func16 rfl fun c₀ cs hu => ?_
  apply wpS_recover_seq (v := .nilIface) (cs' := c₀ :: cs)
  · rfl
  · kernel_rfl
  · exact .inr ⟨by simp only [recoverD, hu], rfl, rfl⟩
  · rintro a w ⟨u', h, _⟩
    cases h
  simp only [Tryz.ntmps16, List.size_toArray, List.length_cons, List.length_nil, Nat.reduceAdd, Nat.reduceSub, Array.replicate_succ, Array.replicate_zero, List.push_toArray, List.append_toArray, List.nil_append, List.cons_append]
  simp only [Act.put, List.setIfInBounds_toArray, List.set_cons_zero, List.set_cons_succ]
  go_wp2
  exact ⟨rfl, .returning, by cases c₀; cases hu; rfl, .tuple #[], results_none rfl _ _ _, rfl, rfl, by (repeat' (first | (with_reducible exact Below.refl _ _) | (with_reducible refine below_alloc ?_) | (with_reducible refine below_drew ?_) | (with_reducible refine below_drewN ?_) | (with_reducible refine below_set (by first | (simp; done) | (simp; omega)) ?_) | (with_reducible refine below_call (by with_reducible assumption) ?_)))⟩
set_option maxHeartbeats 4000000 in
theorem catch_pan (p : Nat) (w : World) (a n : Int) (x y f c : Value) (h : Res3 p x y f c w) :
    CallsD Tryz.prog 16 #[.pointer (some ⟨p, 0, none⟩), .pointer (some ⟨p + 1, 0, none⟩), .pointer (some ⟨p + 1 + 1, 0, none⟩)] (.panicking [{ v := .iface 53 (.agg #[.int .i64 a, .int .i64 n]), recovered := false }]) w fun e u' w' =>
      e = .returned (.tuple #[]) ∧ u' = .panicking [{ v := .iface 53 (.agg #[.int .i64 a, .int .i64 n]), recovered := true }] ∧ Below p w w' ∧ Res3 p (.slice none 0 0) (.int .i64 0) (.int .i64 a) (.int .i64 n) w' := by
  have hta : ∀ w : World, (Instr.typeAssert (.iface 53 (.agg #[.int .i64 a, .int .i64 n])) 20 53 true).run Tryz.prog w = .ok (.tuple #[.agg #[.int .i64 a, .int .i64 n], .bool true]) w := fun _ => by kernel_rfl
  refine callsD_of_wpS Tryz.func16 rfl fun c₀ cs hu => ?_
  apply wpS_recover_seq (v := .iface 53 (.agg #[.int .i64 a, .int .i64 n])) (cs' := { c₀ with mode := .panicking [{ v := .iface 53 (.agg #[.int .i64 a, .int .i64 n]), recovered := true }] } :: cs)
  · rfl
  · kernel_rfl
  · exact .inl (by simp only [recoverD, hu])
  · rintro a w ⟨u', h, _⟩
    cases h
  have ha := h.a
  have hb := h.b
  have hc := h.c
  have c0 := cell_of_row _ _ 0 _ _ _ ha
  have c1 := cell_of_row _ _ 0 _ _ _ hb
  have c2 := cell_of_row _ _ 0 _ _ _ hc
  have c3 := cell_of_row _ _ 1 _ _ _ hc
  have f0 := frozen_of_row _ _ 0 _ _ ha
  have f1 := frozen_of_row _ _ 0 _ _ hb
  have f2 := frozen_of_row _ _ 0 _ _ hc
  have f3 := frozen_of_row _ _ 1 _ _ hc
  simp at c0 c1 c2 c3
  have hlt := (Array.getElem?_eq_some_iff.1 hc).1
  have hlt0 : p < w.heap.size := by omega
  have hlt1 : p + 1 < w.heap.size := by omega
  simp only [Tryz.ntmps16, List.size_toArray, List.length_cons, List.length_nil, Nat.reduceAdd, Nat.reduceSub, Array.replicate_succ, Array.replicate_zero, List.push_toArray, List.append_toArray, List.nil_append, List.cons_append]
  simp only [Act.put, List.setIfInBounds_toArray, List.set_cons_zero, List.set_cons_succ]
  go_upto_region 2 with fail
  go_region_law (fail)
  all_goals
    go_wp2
    exact ⟨rfl, _, rfl, .tuple #[], results_none rfl _ _ _, rfl, rfl, (sets4_below p w _ _ _ _).trans (below_weak (by (repeat' (first | (with_reducible exact Below.refl _ _) | (with_reducible refine below_alloc ?_) | (with_reducible refine below_drew ?_) | (with_reducible refine below_drewN ?_) | (with_reducible refine below_set (by first | (simp; done) | (simp; omega)) ?_) | (with_reducible refine below_call (by with_reducible assumption) ?_)))) (by simp; omega)), (h.sets _ _ _ _).below (by (repeat' (first | (with_reducible exact Below.refl _ _) | (with_reducible refine below_alloc ?_) | (with_reducible refine below_drew ?_) | (with_reducible refine below_drewN ?_) | (with_reducible refine below_set (by first | (simp; done) | (simp; omega)) ?_) | (with_reducible refine below_call (by with_reducible assumption) ?_))))⟩
end Go.Proofs.YtbnelgniekcjdaaGreatDoor

/- expr.Parse: what it answers. -/
namespace Go.Proofs.YtbnelgniekcjdaaGreatDoor
open Go.RowKit Cap
set_option maxRecDepth 100000

/-- What becomes of what was read. -/
def readOf (a : Nat) (q : PR) : Cap.Read := match q with
  | .no b e => .no b e
  | .ok b y => if 500 < y.length ∨ 24 < depthL y then .no a 2 else .ok y b
theorem parse_of (l : List Tok) (a : Nat) (ha : a ≤ l.length) : parseP l (a : Int) = readOf a (orP l (unP l 200) a) := by
  unfold parseP readOf
  rw [if_neg (by omega), Int.toNat_natCast]
  cases orP l (unP l 200) a <;> rfl
/-- What Parse answers. -/
inductive ParE (w : World) : Cap.Read → Ending → World → Prop
  | ok {x : List Prt} {n : Int} {v : Value} {w' : World} (h : w'.ownsRow w.heap.size 44 5 v x.length (x.flatMap encPrt)) (hb : Below w.heap.size w w') : ParE w (.ok x n) (.returned (.tuple #[v, .int .i64 n, .agg #[.int .i64 0, .int .i64 0]])) w'
  | no {b e : Int} {w' : World} (hb : Below w.heap.size w w') : ParE w (.no b e) (.returned (.tuple #[.slice none 0 0, .int .i64 0, .agg #[.int .i64 b, .int .i64 e]])) w'
theorem own_weak {w : World} {base base' : Nat} {e : TypeId} {k : Nat} {v : Value} {n : Nat} {xs : List Value} (h : w.ownsRow base e k v n xs) (hb : base' ≤ base) : w.ownsRow base' e k v n xs := by
  refine ⟨h.1, ?_⟩
  rcases h.2 with h | ⟨g, cap, cur, rfl, hg, rest⟩
  · exact .inl h
  · exact .inr ⟨g, cap, cur, rfl, Nat.le_trans hb hg, rest⟩
theorem results_cells3 {fn : Func} {p q r : Tmp} {tp tq tr : TypeId} (h : fn.results = #[.cell p tp, .cell q tq, .cell r tr]) (tmps : Array Value) (P : Program) (w : World) :
    (results fn tmps).run P w =
      ((asAddr (tmps.getD p undef)).run P w).andThen fun a w₁ => ((loadVar tp a).run P w₁).andThen fun v w₂ => ((asAddr (tmps.getD q undef)).run P w₂).andThen fun b w₃ => ((loadVar tq b).run P w₃).andThen fun u w₄ =>
        ((asAddr (tmps.getD r undef)).run P w₄).andThen fun d w₅ => ((loadVar tr d).run P w₅).andThen fun x w₆ => .ok (.tuple #[v, u, x]) w₆ := by
  simp only [results, h]
  simp [Sem.run_bind, Result.andThen]
theorem res3_run (tmps : Array Value) (W : World) (p : Nat) {x n f c : Value} (h : Res3 p x n f c W) (h4 : tmps.getD 4 undef = .pointer (some ⟨p, 0, none⟩)) (h5 : tmps.getD 5 undef = .pointer (some ⟨p + 1, 0, none⟩)) (h6 : tmps.getD 6 undef = .pointer (some ⟨p + 1 + 1, 0, none⟩)) :
    (results Tryz.f10 tmps).run Tryz.prog W = .ok (.tuple #[x, n, .agg #[f, c]]) W := by
  rw [results_cells3 (p := 4) (q := 5) (r := 6) (tp := 26) (tq := 3) (tr := 34) rfl, h4, h5, h6]
  have c0 := cell_of_row _ _ 0 _ _ _ h.a
  have c1 := cell_of_row _ _ 0 _ _ _ h.b
  have c2 := cell_of_row _ _ 0 _ _ _ h.c
  have c3 := cell_of_row _ _ 1 _ _ _ h.c
  simp at c0 c1 c2 c3
  go_simp
theorem Res3.laid (W : World) (x n f c : Value) : Res3 W.heap.size x n f c (((W.alloc (.cells #[x] 26)).alloc (.cells #[n] 3)).alloc (.cells #[f, c] 34)) := by
  refine ⟨?_, ?_, ?_⟩
  · exact hpA (hpA (heap_alloc_new _ _))
  · have h := heap_alloc_new (W.alloc (.cells #[x] 26)) (.cells #[n] 3)
    rw [World.size_alloc] at h
    exact hpA h
  · have h := heap_alloc_new ((W.alloc (.cells #[x] 26)).alloc (.cells #[n] 3)) (.cells #[f, c] 34)
    rw [World.size_alloc, World.size_alloc] at h
    exact h
theorem own_sets4 {w : World} {base : Nat} {e : TypeId} {k : Nat} {u : Value} {n : Nat} {xs : List Value} (h : w.ownsRow base e k u n xs) {p : Nat} (hp : p + 1 + 1 < base) (v m a b : Value) :
    ((((w.setCell ⟨p, 0, none⟩ v).setCell ⟨p + 1, 0, none⟩ m).setCell ⟨p + 1 + 1, 0, none⟩ a).setCell ⟨p + 1 + 1, 1, none⟩ b).ownsRow base e k u n xs :=
  own_keep h fun g hg => by
    have hge := (own_lt h g hg).1
    have o : ∀ (w : World) (q j : Nat) (u : Value), g ≠ q → (w.setCell ⟨q, j, none⟩ u).heap[g]? = w.heap[g]? := fun w q j u hk => heap_setCell_other w ⟨q, j, none⟩ g u hk
    rw [o _ _ _ _ (by omega), o _ _ _ _ (by omega), o _ _ _ _ (by omega), o _ _ _ _ (by omega)]
/-- Only what ends as it should. -/
def OnlyN (Q : Exit → Act → World → Prop) : Exit → Act → World → Prop
  | .normal, a, w => Q .normal a w
  | _, _, _ => False
theorem wp_onlyN {P : Program} {Q : Exit → Act → World → Prop} {c : Code} {a : Act} {w : World} (h : c.wp P (OnlyN Q) a w) : c.wp P Q a w := wp_mono h fun e a w h => by cases e <;> first | exact h | exact h.elim
set_option maxHeartbeats 4000000 in
theorem parse_c (l : List Tok) (w : World) (lv : Value) (at_ : Int) (hl : TokL w lv l) (hm : TokMax l.length) (hG : GX w) (hts : ∀ t ∈ l, t.s.size ≤ 140737488351232) :
    Calls Tryz.prog 10 #[lv, .int .i64 at_] w (ParE w (parseP l at_)) := by
  have hmf : ∀ (fn : Fn) (first cap : Array Value) (w : World), (Instr.makeFunc fn first cap).run Tryz.prog w = .ok (.func fn first cap) w := fun _ _ _ _ => rfl
  obtain ⟨A, c, rfl, hln, hmx, hcx⟩ := hl
  have HL := Lib.hid (show TokL w (.slice A l.length c) l from ⟨A, c, rfl, hln, hmx, hcx⟩)
  by_cases h0 : at_ < 0
  · rw [show parseP l at_ = .no 0 1 by unfold parseP; rw [if_pos (.inl h0)]]
    clear hcx
    go_enter_defers Tryz.func10, Tryz.ntmps10
    go_wp2
    exact ⟨_, res3_run _ _ w.heap.size (Res3.laid w _ _ _ _) rfl rfl rfl, .no (by (repeat' (first | (with_reducible exact Below.refl _ _) | (with_reducible refine below_alloc ?_) | (with_reducible refine below_drew ?_) | (with_reducible refine below_drewN ?_) | (with_reducible refine below_set (by first | (simp; done) | (simp; omega)) ?_) | (with_reducible refine below_call (by with_reducible assumption) ?_))))⟩
  · by_cases h1 : (l.length : Int) < at_
    · rw [show parseP l at_ = .no 0 1 by unfold parseP; rw [if_pos (.inr h1)]]
      clear hcx
      go_enter_defers Tryz.func10, Tryz.ntmps10
      go_wp2
      exact ⟨_, res3_run _ _ w.heap.size (Res3.laid w _ _ _ _) rfl rfl rfl, .no (by (repeat' (first | (with_reducible exact Below.refl _ _) | (with_reducible refine below_alloc ?_) | (with_reducible refine below_drew ?_) | (with_reducible refine below_drewN ?_) | (with_reducible refine below_set (by first | (simp; done) | (simp; omega)) ?_) | (with_reducible refine below_call (by with_reducible assumption) ?_))))⟩
    · obtain ⟨a, rfl⟩ : ∃ a : Nat, at_ = a := ⟨at_.toNat, by omega⟩
      have ha : a ≤ l.length := by omega
      obtain ⟨W0, hW0⟩ : ∃ W0, W0 = ((w.alloc (.cells #[.slice none 0 0] 26)).alloc (.cells #[.int .i64 0] 3)).alloc (.cells #[.int .i64 0, .int .i64 0] 34) := ⟨_, rfl⟩
      have hb0 : Below w.heap.size w W0 := by rw [hW0]; (repeat' (first | (with_reducible exact Below.refl _ _) | (with_reducible refine below_alloc ?_) | (with_reducible refine below_drew ?_) | (with_reducible refine below_drewN ?_) | (with_reducible refine below_set (by first | (simp; done) | (simp; omega)) ?_) | (with_reducible refine below_call (by with_reducible assumption) ?_)))
      have hs0 : W0.heap.size = w.heap.size + 1 + 1 + 1 := by rw [hW0]; simp
      have hr0 : Res3 w.heap.size (.slice none 0 0) (.int .i64 0) (.int .i64 0) (.int .i64 0) W0 := by rw [hW0]; exact Res3.laid w _ _ _ _
      have hl0 : TokL W0 (.slice A l.length c) l := HL.out.below hb0
      have hRd : Rd W0 (w.heap.size + 1 + 1 + 1) (.slice A l.length c) a 0 (.slice none 0 0) [] (W0.alloc (.cells #[.slice A l.length c, .int .i64 a, .int .i64 0, .slice none 0 0] 57)) :=
        ⟨by (repeat' (first | (with_reducible exact Below.refl _ _) | (with_reducible refine below_alloc ?_) | (with_reducible refine below_drew ?_) | (with_reducible refine below_drewN ?_) | (with_reducible refine below_set (by first | (simp; done) | (simp; omega)) ?_) | (with_reducible refine below_call (by with_reducible assumption) ?_))), by omega, by rw [← hs0]; exact heap_alloc_new _ _, World.ownsRow_nil _ _ _ _⟩
      obtain ⟨q, hq⟩ : ∃ q, orP l (unP l 200) a = q := ⟨_, rfl⟩
      have HZ := Lib.hid (show parseP l (a : Int) = readOf a q by rw [parse_of l a ha, hq])
      have HOR := Lib.hid (or_all l W0 (w.heap.size + 1 + 1 + 1) (.slice A l.length c) hl0 hm (hG.below hb0) hts _ a _ [] hRd (Nat.zero_le _) ha)
      rw [hq] at HOR
      have HGD := Lib.hid (show ∀ b y, q = .ok b y → b ≤ l.length ∧ y.length ≤ l.length from fun b y e => by
        obtain ⟨g1, g2, g3⟩ := orP_good (un_good l 200) _ _ _ (hq.trans e)
        exact ⟨g2, by omega⟩)
      have HB0 := Lib.hid hb0
      have HR0 := Lib.hid hr0
      have HS0 := Lib.hid hs0
      rw [hW0] at HOR
      rw [← hW0] at HOR
      generalize hPZ : parseP l (a : Int) = PZ at HZ ⊢
      have ham : (a : Int) ≤ 2932031007402 := by unfold TokMax at hm; omega
      clear hPZ hq hcx hl0 hRd hr0 hb0 hs0 HL hG hts h0 h1
      subst hW0
      go_enter_defers Tryz.func10, Tryz.ntmps10
      go_upto_region 5 with fail
      go_wp2_with fail
      refine HOR.out.mono ?_
      rintro e w1 hE
      cases hE with
      | @no b e w1 hb1 hk =>
        have hbw := below_weak hb1 (show w.heap.size ≤ _ by have := HS0.out; omega)
        have hb2 := HB0.out.trans hbw
        have hr1 := HR0.out.below hb1
        refine leaves_cons (f := 16) (args := #[.pointer (some ⟨w.heap.size, 0, none⟩), .pointer (some ⟨w.heap.size + 1, 0, none⟩), .pointer (some ⟨w.heap.size + 1 + 1, 0, none⟩)]) (by simp) (by simp [go_sem]) ?_
        refine (catch_pan w.heap.size w1 b e _ _ _ _ hr1).mono ?_
        rintro e' u' w2 ⟨rfl, rfl, hb3, hr3⟩
        rw [HZ.out]
        exact ⟨_, res3_run _ _ w.heap.size hr3 rfl rfl rfl, .no (hb2.trans hb3)⟩
      | @ok b y w1 ov1 h1 hk =>
        have hbw := below_weak h1.b0 (show w.heap.size ≤ _ by have := HS0.out; omega)
        have hb2 := Lib.hid (HB0.out.trans hbw)
        have hr1 := Lib.hid (HR0.out.below h1.b0)
        obtain ⟨⟨k0, k1, k2, k3⟩, hzz⟩ := h1.cells
        have h1o := h1.own
        rw [List.nil_append] at h1o
        obtain ⟨A1, c1, rfl⟩ := own_slice h1o
        have HO1 := Lib.hid h1o
        have HY := Lib.hid (Sl.own encPrt_len h1o rfl)
        obtain ⟨g1, g2⟩ := HGD.out _ _ rfl
        have H1 := Lib.hid h1
        have hlt1 := h1.lt
        obtain ⟨yl, hyl⟩ : ∃ n, y.length = n := ⟨_, rfl⟩
        have hyl0 : (0 : Int) ≤ (yl : Int) := Int.natCast_nonneg _
        rw [hyl] at k3
        have HYL := Lib.hid hyl
        clear k0 k2 hzz h1 h1o hbw hk hyl
        have s0 := cell_of_row _ _ 0 _ _ _ hr1.out.a
        have s1 := cell_of_row _ _ 0 _ _ _ hr1.out.b
        have s2 := cell_of_row _ _ 0 _ _ _ hr1.out.c
        have s3 := cell_of_row _ _ 1 _ _ _ hr1.out.c
        have t0 := frozen_of_row _ _ 0 _ _ hr1.out.a
        have t1 := frozen_of_row _ _ 0 _ _ hr1.out.b
        have t2 := frozen_of_row _ _ 0 _ _ hr1.out.c
        have t3 := frozen_of_row _ _ 1 _ _ hr1.out.c
        simp at s0 s1 s2 s3
        by_cases h5 : 500 < yl
        · have h5z : (500 : Int) < (yl : Int) := by omega
          have HR := Lib.hid (show PZ = .no a 2 by rw [HZ.out]; unfold readOf; simp only; rw [if_pos (.inl (by rw [HYL.out]; exact h5))])
          go_wp2_with fail
          refine leaves_cons (f := 16) (args := #[.pointer (some ⟨w.heap.size, 0, none⟩), .pointer (some ⟨w.heap.size + 1, 0, none⟩), .pointer (some ⟨w.heap.size + 1 + 1, 0, none⟩)]) (by simp) (by simp [go_sem]) ?_
          refine (catch_idle w.heap.size _).mono ?_
          rintro e' u' w2 ⟨rfl, rfl, hb3⟩
          rw [HR.out]
          exact ⟨_, res3_run _ _ w.heap.size ((hr1.out.sets _ _ _ _).below hb3) rfl rfl rfl, .no ((hb2.out.trans (sets4_below _ _ _ _ _ _)).trans (below_weak hb3 (by have := hb2.out.size; simp; omega)))⟩
        · have h5z : ¬ (500 : Int) < (yl : Int) := by omega
          have HDC := Lib.hid (depth_c y _ w1 HY.out (by have := HYL.out; omega))
          rw [HYL.out] at HDC
          by_cases h24 : 24 < depthL y
          · have h24z : (24 : Int) < (depthL y : Int) := by omega
            have HR := Lib.hid (show PZ = .no a 2 by rw [HZ.out]; unfold readOf; simp only; rw [if_pos (.inr h24)])
            go_upto_region 7 with (go_at_call 18; refine HDC.out.mono ?_; rintro e w2 ⟨rfl, hb2'⟩)
            have hr2 := hr1.out.below hb2'
            have hbb := hb2.out.trans (below_weak hb2' (by have := hb2.out.size; omega))
            have hR2 := Lib.hid hr2
            have hBB := Lib.hid hbb
            clear s0 s1 s2 s3 t0 t1 t2 t3
            have s0 := cell_of_row _ _ 0 _ _ _ hr2.a
            have s1 := cell_of_row _ _ 0 _ _ _ hr2.b
            have s2 := cell_of_row _ _ 0 _ _ _ hr2.c
            have s3 := cell_of_row _ _ 1 _ _ _ hr2.c
            have t0 := frozen_of_row _ _ 0 _ _ hr2.a
            have t1 := frozen_of_row _ _ 0 _ _ hr2.b
            have t2 := frozen_of_row _ _ 0 _ _ hr2.c
            have t3 := frozen_of_row _ _ 1 _ _ hr2.c
            simp at s0 s1 s2 s3
            clear hr2 hbb
            go_wp2_with fail
            refine leaves_cons (f := 16) (args := #[.pointer (some ⟨w.heap.size, 0, none⟩), .pointer (some ⟨w.heap.size + 1, 0, none⟩), .pointer (some ⟨w.heap.size + 1 + 1, 0, none⟩)]) (by simp) (by simp [go_sem]) ?_
            refine (catch_idle w.heap.size _).mono ?_
            rintro e' u' w3 ⟨rfl, rfl, hb3⟩
            rw [HR.out]
            exact ⟨_, res3_run _ _ w.heap.size ((hR2.out.sets _ _ _ _).below hb3) rfl rfl rfl, .no ((hBB.out.trans (sets4_below _ _ _ _ _ _)).trans (below_weak hb3 (by have := hBB.out.size; simp; omega)))⟩
          · have h24z : ¬ (24 : Int) < (depthL y : Int) := by omega
            have HR := Lib.hid (show PZ = .ok y b by rw [HZ.out]; unfold readOf; simp only; rw [if_neg (by rw [HYL.out]; omega)])
            go_upto_region 8 with (go_at_call 18; refine HDC.out.mono ?_; rintro e w2 ⟨rfl, hb2'⟩)
            have hr2 := hr1.out.below hb2'
            have hbb := hb2.out.trans (below_weak hb2' (by have := hb2.out.size; omega))
            have hR2 := Lib.hid hr2
            have hBB := Lib.hid hbb
            have H2 := Lib.hid (H1.out.below hb2')
            clear s0 s1 s2 s3 t0 t1 t2 t3 k1 k3
            have s0 := cell_of_row _ _ 0 _ _ _ hr2.a
            have s1 := cell_of_row _ _ 0 _ _ _ hr2.b
            have s2 := cell_of_row _ _ 0 _ _ _ hr2.c
            have s3 := cell_of_row _ _ 1 _ _ _ hr2.c
            have t0 := frozen_of_row _ _ 0 _ _ hr2.a
            have t1 := frozen_of_row _ _ 0 _ _ hr2.b
            have t2 := frozen_of_row _ _ 0 _ _ hr2.c
            have t3 := frozen_of_row _ _ 1 _ _ hr2.c
            simp at s0 s1 s2 s3
            obtain ⟨⟨k0, k1, k2, k3⟩, hzz⟩ := H2.out.cells
            rw [HYL.out] at k3
            have r1 := H2.out.lt
            clear hr2 hbb k0 k2 hzz
            apply wp_onlyN
            go_region_law (fail)
            all_goals
              simp only [OnlyN]
              go_wp2_with fail
              refine leaves_cons (f := 16) (args := #[.pointer (some ⟨w.heap.size, 0, none⟩), .pointer (some ⟨w.heap.size + 1, 0, none⟩), .pointer (some ⟨w.heap.size + 1 + 1, 0, none⟩)]) (by simp) (by simp [go_sem]) ?_
              refine (catch_idle w.heap.size _).mono ?_
              rintro e' u' w3 ⟨rfl, rfl, hb3⟩
              rw [HR.out]
              have hd : ∀ W : World, Below W.heap.size W W.drew := fun W => below_drew (Below.refl _ _)
              have hsz := HS0.out
              have ho := own_below (own_below (own_sets4 (own_below HO1.out hb2') (p := w.heap.size) (by omega) (.slice A1 yl c1) (.int .i64 b) (.int .i64 0) (.int .i64 0)) (hd _)) hb3
              rw [HYL.out] at ho
              exact ⟨_, res3_run _ _ w.heap.size (((hR2.out.sets _ _ _ _).below (hd _)).below hb3) rfl rfl rfl, .ok (by rw [HYL.out]; exact own_weak ho (by omega)) (((hBB.out.trans (sets4_below _ _ _ _ _ _)).trans (below_weak (hd _) (by have := hBB.out.size; simp; omega))).trans (below_weak hb3 (by have := hBB.out.size; simp; omega)))⟩
end Go.Proofs.YtbnelgniekcjdaaGreatDoor
