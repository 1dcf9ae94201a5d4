/- (*reader).within: an expression between two signs. -/
import Derived.Test.YtbnelgniekcjdaaGreatDoorCRdE
set_option linter.unusedSimpArgs false
set_option linter.unusedVariables false
namespace Go.Proofs.YtbnelgniekcjdaaGreatDoor
open Go.RowKit Cap
set_option maxRecDepth 100000

/-- or, at a depth, reads so. -/
def OrAt (l : List Tok) (w0 : World) (rb : Nat) (lv : Value) (d : Nat) (f : Nat → PR) : Prop :=
  ∀ W a ov o, Rd w0 rb lv a d ov o W → o.length ≤ a → a ≤ l.length → Calls Tryz.prog 17 #[.pointer (some ⟨rb, 0, none⟩)] W (RdE w0 W rb lv d o (f a))
/-- What is read one deeper, if that may be. -/
def Dp (l : List Tok) (w0 : World) (rb : Nat) (lv : Value) (d : Nat) (or : Option (Nat → PR)) : Prop :=
  (d = 200 ∧ or = none) ∨ (d < 200 ∧ ∃ f, or = some f ∧ GoodP l f ∧ OrAt l w0 rb lv (d + 1) f)
set_option maxHeartbeats 4000000 in
theorem within1_c (l : List Tok) (w0 W : World) (rb : Nat) (lv ov : Value) (a d : Nat) (o : List Prt) (hl : TokL w0 lv l) (hm : TokMax l.length) (h : Rd w0 rb lv a d ov o W) (ho : o.length ≤ a) (ha : a < l.length)
    (br bt : Nat) (tt : ByteArray) (f : Nat → PR) (hf : GoodP l f) (hor : OrAt l w0 rb lv d f)
    (hbr : W.heap[br]? = some (.cells #[.pointer (some ⟨rb, 0, none⟩)] 55 (0, 0))) (hbt : W.heap[bt]? = some (.cells #[.string tt] 9 (0, 0))) :
    Calls Tryz.prog 112 #[.pointer (some ⟨br, 0, none⟩), .pointer (some ⟨bt, 0, none⟩)] W (RdE w0 W rb lv d o ((f (a + 1)).then (needP l tt))) := by
  have hR := h.at_
  have kbr := Lib.hid (show ∀ W', St rb W W' → W'.cell? ⟨br, 0, none⟩ = some (.pointer (some ⟨rb, 0, none⟩)) from fun W' hs => by rw [cell_of_row _ _ _ _ _ _ (hs.box hbr hR (by decide) (by decide))]; rfl)
  have kbt := Lib.hid (show ∀ W', St rb W W' → W'.cell? ⟨bt, 0, none⟩ = some (.string tt) from fun W' hs => by rw [cell_of_row _ _ _ _ _ _ (hs.box hbt hR (by decide) (by decide))]; rfl)
  have i0 := kbr.out W (St.refl _ _)
  have j0 := kbt.out W (St.refl _ _)
  obtain ⟨⟨c0, c1, c2, c3⟩, hz⟩ := h.cells
  have f1 := hz 1
  have hN := h.next
  have hS : St rb W (W.setCell ⟨rb, 1, none⟩ (.int .i64 ((a : Int) + 1))) := .set (St.refl _ _) _ _
  have HS := Lib.hid hS
  have i1 := kbr.out _ hS
  obtain ⟨q, hq⟩ : ∃ q, f (a + 1) = q := ⟨_, rfl⟩
  have HC := Lib.hid (hor _ (a + 1) ov o hN (by omega) (by omega))
  have HQ := Lib.hid hq
  have HF := Lib.hid hf
  have HL := Lib.hid hl
  rw [hq] at HC ⊢
  obtain ⟨Z, hZ⟩ : ∃ Z, q.then (needP l tt) = Z := ⟨_, rfl⟩
  have HZ := Lib.hid hZ.symm
  rw [hZ]
  have ham : (a : Int) ≤ 2932031007402 := by unfold TokMax at hm; omega
  clear hZ hq hN hS c0 c2 c3 hz h hR hbr hbt hf hl hor
  go_enter Tryz.func112, Tryz.ntmps112
  go_wp2_with fail
  refine HC.out.mono ?_
  rintro e w1 hE
  cases hE with
  | no hb hk =>
    rw [HZ.out]
    exact ⟨rfl, .no hb (HS.out.trans hk)⟩
  | @ok b y w1 ov1 h1 hk =>
    obtain ⟨g1, g2, g3⟩ := HF.out _ _ _ HQ.out
    have HK := Lib.hid (HS.out.trans hk)
    have i2 := kbr.out _ HK.out
    have j2 := kbt.out _ HK.out
    have HND := Lib.hid (need_c l w0 w1 rb lv ov1 b d _ HL.out h1 g2 hm tt)
    have HW := Lib.hid (show Z = (PR.ok b y).then (needP l tt) from HZ.out)
    clear h1 hk i1
    go_wp2_with fail
    obtain ⟨q2, hq2⟩ : ∃ q2, needP l tt b = q2 := ⟨_, rfl⟩
    rw [hq2] at HND
    have HQ2 := Lib.hid hq2
    clear hq2
    refine HND.out.mono ?_
    rintro e w2 hE
    cases hE with
    | no hb hk =>
      rw [HW.out]
      unfold PR.then
      simp only [HQ2.out]
      exact ⟨rfl, .no hb (HK.out.trans hk)⟩
    | @ok c z w2 ov2 h2 hk =>
      have H2 := Lib.hid h2
      have HK2 := Lib.hid (HK.out.trans hk)
      have HW2 := Lib.hid (show Z = .ok c (y ++ z) by rw [HW.out]; unfold PR.then; simp only [HQ2.out])
      clear h2 hk
      go_wp2
      rw [HW2.out]
      exact ⟨rfl, _, results_none rfl _ _ _, .ok (by rw [← List.append_assoc]; exact H2.out) HK2.out⟩
set_option maxHeartbeats 4000000 in
theorem within_c (l : List Tok) (w0 W : World) (rb : Nat) (lv ov : Value) (a d : Nat) (o : List Prt) (hl : TokL w0 lv l) (hm : TokMax l.length) (h : Rd w0 rb lv a d ov o W) (ho : o.length ≤ a) (ha : a ≤ l.length)
    (from_ tt : ByteArray) (or : Option (Nat → PR)) (hor : Dp l w0 rb lv d or) :
    Calls Tryz.prog 83 #[.pointer (some ⟨rb, 0, none⟩), .string from_, .string tt] W (RdE w0 W rb lv d o (withinP l or from_ tt a)) := by
  have hmf : ∀ (fn : Fn) (first cap : Array Value) (w : World), (Instr.makeFunc fn first cap).run Tryz.prog w = .ok (.func fn first cap) w := fun _ _ _ _ => rfl
  have HI := Lib.hid (fun W' (hb : Below W.heap.size W W') => is_c l w0 W' rb lv ov a d o hl (h.below hb) ha 3 from_)
  have HF := Lib.hid (fun W' (hb : Below W.heap.size W W') => fail_c w0 W' rb lv ov a d o (h.below hb) 60)
  have HH := Lib.hid h
  have hlt := h.lt
  cases ht : isTok l a 3 from_ with
  | false =>
    rw [ht] at HI
    rw [show withinP l or from_ tt a = .no a 60 by unfold withinP; rw [ht]; rfl]
    clear h ht hor
    go_enter Tryz.func83, Tryz.ntmps83
    go_wp2_with (first | (go_at_call 57; refine (HI.out _ (by (repeat' (first | (with_reducible exact Below.refl _ _) | (with_reducible refine below_alloc ?_) | (with_reducible refine below_drew ?_) | (with_reducible refine below_drewN ?_) | (with_reducible refine below_set (by first | (simp; done) | (simp; omega)) ?_) | (with_reducible refine below_call (by with_reducible assumption) ?_))))).mono ?_; rintro e w1 ⟨rfl, hb1⟩; obtain ⟨hc1, hf1⟩ := bcell hb1; have hz1 := hb1.size; (try simp at hz1); (try have hw01 : w.heap.size < w1.heap.size := by omega); (try have hw11 : w.heap.size + 1 < w1.heap.size := by omega); (try have hw21 : w.heap.size + 1 + 1 < w1.heap.size := by omega)) | (go_at_call 85; refine (HF.out _ (by (repeat' (first | (with_reducible exact Below.refl _ _) | (with_reducible refine below_alloc ?_) | (with_reducible refine below_drew ?_) | (with_reducible refine below_drewN ?_) | (with_reducible refine below_set (by first | (simp; done) | (simp; omega)) ?_) | (with_reducible refine below_call (by with_reducible assumption) ?_))))).mono ?_; rintro e w2 ⟨rfl, hb2⟩))
    have hbw : Below W.heap.size W w2 := by (repeat' (first | (with_reducible exact Below.refl _ _) | (with_reducible refine below_alloc ?_) | (with_reducible refine below_drew ?_) | (with_reducible refine below_drewN ?_) | (with_reducible refine below_set (by first | (simp; done) | (simp; omega)) ?_) | (with_reducible refine below_call (by with_reducible assumption) ?_)))
    exact ⟨rfl, .no (HH.out.below hbw).b0 (.call hbw (St.refl _ _))⟩
  | true =>
    rw [ht] at HI
    have hlt2 := isTok_lt ht
    have hb2 : Below W.heap.size W ((W.alloc (.cells #[.pointer (some ⟨rb, 0, none⟩)] 55)).alloc (.cells #[.string tt] 9)) := by (repeat' (first | (with_reducible exact Below.refl _ _) | (with_reducible refine below_alloc ?_) | (with_reducible refine below_drew ?_) | (with_reducible refine below_drewN ?_) | (with_reducible refine below_set (by first | (simp; done) | (simp; omega)) ?_) | (with_reducible refine below_call (by with_reducible assumption) ?_)))
    have x1 : ((W.alloc (.cells #[.pointer (some ⟨rb, 0, none⟩)] 55)).alloc (.cells #[.string tt] 9)).heap[W.heap.size]? = some (.cells #[.pointer (some ⟨rb, 0, none⟩)] 55 (0, 0)) := hpA (heap_alloc_new _ _)
    have x2 : ((W.alloc (.cells #[.pointer (some ⟨rb, 0, none⟩)] 55)).alloc (.cells #[.string tt] 9)).heap[W.heap.size + 1]? = some (.cells #[.string tt] 9 (0, 0)) := by
      have h := heap_alloc_new (W.alloc (.cells #[.pointer (some ⟨rb, 0, none⟩)] 55)) (.cells #[.string tt] 9)
      rwa [World.size_alloc] at h
    have HB2 := Lib.hid hb2
    have HX1 := Lib.hid x1
    have HDP : (∀ w1, Below ((W.alloc (.cells #[.pointer (some ⟨rb, 0, none⟩)] 55)).alloc (.cells #[.string tt] 9)).heap.size ((W.alloc (.cells #[.pointer (some ⟨rb, 0, none⟩)] 55)).alloc (.cells #[.string tt] 9)) w1 →
        Calls Tryz.prog 59 #[.pointer (some ⟨rb, 0, none⟩), .func (.func 112) #[] #[.pointer (some ⟨W.heap.size, 0, none⟩), .pointer (some ⟨W.heap.size + 1, 0, none⟩)]] w1 (RdE w0 w1 rb lv d o (withinP l or from_ tt a))) := by
      intro w1 hb1
      have hr1 := (h.below hb2).below hb1
      have y1 := (hb1.block _ (Array.getElem?_eq_some_iff.1 x1).1).trans x1
      have y2 := (hb1.block _ (Array.getElem?_eq_some_iff.1 x2).1).trans x2
      rcases hor with ⟨rfl, rfl⟩ | ⟨hd, f, rfl, hgood, hat⟩
      · have hz := deeper_c w0 w1 rb lv ov a 200 o hr1 ho 112 #[] #[.pointer (some ⟨W.heap.size, 0, none⟩), .pointer (some ⟨W.heap.size + 1, 0, none⟩)] (fun _ => .no a 2) (Nat.le_refl _) (fun h => by omega)
        rw [show withinP l none from_ tt a = .no a 2 by unfold withinP; rw [ht]; rfl]
        rw [if_neg (by omega)] at hz
        exact hz
      · have hz := deeper_c w0 w1 rb lv ov a d o hr1 ho 112 #[] #[.pointer (some ⟨W.heap.size, 0, none⟩), .pointer (some ⟨W.heap.size + 1, 0, none⟩)] (fun a => (f (a + 1)).then (needP l tt)) (by omega)
          (fun _ => ⟨enters_of Tryz.func112 (by kernel_rfl) rfl, fun W' ov' o' hst hrd ho' =>
            within1_c l w0 W' rb lv ov' a (d + 1) o' hl hm hrd ho' hlt2 W.heap.size (W.heap.size + 1) tt f hgood hat (hst.box y1 hr1.at_ (by decide) (by decide)) (hst.box y2 hr1.at_ (by decide) (by decide))⟩)
        rw [show withinP l (some f) from_ tt a = (f (a + 1)).then (needP l tt) by unfold withinP; rw [ht]; rfl]
        rw [if_pos hd] at hz
        exact hz
    obtain ⟨Z, hZ⟩ : ∃ Z, withinP l or from_ tt a = Z := ⟨_, rfl⟩
    rw [hZ] at HDP ⊢
    have HDP := Lib.hid HDP
    clear h ht hor hZ hl x1 x2 hb2 HF
    go_enter Tryz.func83, Tryz.ntmps83
    go_wp2_with (first | (go_at_call 57; refine (HI.out _ (by (repeat' (first | (with_reducible exact Below.refl _ _) | (with_reducible refine below_alloc ?_) | (with_reducible refine below_drew ?_) | (with_reducible refine below_drewN ?_) | (with_reducible refine below_set (by first | (simp; done) | (simp; omega)) ?_) | (with_reducible refine below_call (by with_reducible assumption) ?_))))).mono ?_; rintro e w1 ⟨rfl, hb1⟩; have z1 := (cell_of_row _ _ 0 _ _ _ ((hb1.block _ (Array.getElem?_eq_some_iff.1 HX1.out).1).trans HX1.out)); simp at z1))
    refine (HDP.out _ hb1).mono ?_
    rintro e w2 hE
    have hE' := RdE.pre (.call (below_call hb1 HB2.out) (St.refl _ _)) hE
    clear hE
    cases hE' with
    | no hb hk => exact ⟨rfl, .no hb hk⟩
    | ok h1 hk =>
      have H1 := Lib.hid h1
      have H2 := Lib.hid hk
      clear h1 hk
      go_wp2
      exact ⟨rfl, _, results_none rfl _ _ _, .ok H1.out H2.out⟩
end Go.Proofs.YtbnelgniekcjdaaGreatDoor
