/- capstanlaw06.ExprBack: the walk. -/
import Derived.Test.YtbnelgniekcjdaaGreatDoorCBkC
import Derived.Test.YtbnelgniekcjdaaGreatDoorCBkT
import Derived.Test.YtbnelgniekcjdaaGreatDoorCE06A
import Derived.Test.YtbnelgniekcjdaaGreatDoorCE06T
set_option linter.unusedSimpArgs false
set_option linter.unusedVariables false
namespace Go.Proofs.YtbnelgniekcjdaaGreatDoor
open Go.RowKit Cap
set_option maxRecDepth 1000000
theorem pare_no {w : World} {b c : Int} {e : Ending} {w' : World} (h : ParE w (.no b c) e w') : e = .returned (.tuple #[.slice none 0 0, .int .i64 0, .agg #[.int .i64 b, .int .i64 c]]) ∧ Below w.heap.size w w' := by
  cases h with
  | no hb => exact ⟨rfl, hb⟩
/-- What is shown of parts, read again. -/
theorem again_c {x : List Prt} (hc : checkX x = 0) (W : World) (a : Option Addr) (n c : Nat) (hv : Sl encTok 5 W (.slice a n c) (showL x)) (hG : GX W) :
    Calls Tryz.prog 10 #[.slice a n c, .int .i64 0] W fun e w' => ∃ v, e = .returned (.tuple #[v, .int .i64 (n : Int), .agg #[.int .i64 0, .int .i64 0]]) ∧ Sl encPrt 5 w' v x ∧ Below W.heap.size W w' := by
  obtain ⟨h1, h2⟩ := showL_ok hc
  have hn : n = (showL x).length := by
    obtain ⟨_, _, e, _⟩ := hv
    injection e
  refine (parse_c (showL x) W (.slice a n c) 0 hv (by unfold TokMax; omega) hG h2).mono ?_
  rw [parse_shown hc]
  rintro e w' hE
  obtain ⟨v, rfl, h3, h4⟩ := pare_ok hE
  exact ⟨v, by rw [hn], h3, h4⟩
theorem tokens_yes {x : List Prt} (hc : checkX x = 0) {v : Value} {W : World} (hx : Sl encPrt 5 W v x) (hok : ∀ p ∈ x, PrtOk p) (hG : GX W) :
    Calls Tryz.prog 11 #[v] W fun e w' => ∃ a n c, e = .returned (.tuple #[.slice a n c, .int .i64 0]) ∧ Sl encTok 5 w' (.slice a n c) (showL x) ∧ Below W.heap.size W w' := by
  refine (exprTokens_c x v W hx hok hG).mono ?_
  unfold TokensR
  rw [hc]
  simp only [ne_eq, not_true_eq_false, if_false]
  rintro e w' ⟨⟨u, rfl, htr⟩, hb⟩
  obtain ⟨a, c, rfl⟩ := own_slice htr
  exact ⟨_, _, _, rfl, htr.sl, hb⟩
theorem tokens_no {x : List Prt} (hc : checkX x ≠ 0) {v : Value} {W : World} (hx : Sl encPrt 5 W v x) (hok : ∀ p ∈ x, PrtOk p) (hG : GX W) :
    Calls Tryz.prog 11 #[v] W fun e w' => e = .returned (.tuple #[.slice none 0 0, .int .i64 (checkX x)]) ∧ Below W.heap.size W w' := by
  refine (exprTokens_c x v W hx hok hG).mono ?_
  unfold TokensR
  simp only [ne_eq, hc, not_false_eq_true, if_true]
  rintro e w' h
  exact h
theorem same_self (x : List Prt) (v v' : Value) (w : World) (h : Sl encPrt 5 w v x) (h' : Sl encPrt 5 w v' x) :
    Calls Tryz.prog 9 #[v, v'] w fun e w' => e = .returned (.bool true) ∧ Below w.heap.size w w' := by
  have := samep_c x x v v' w h h'
  rwa [sameP_refl] at this
set_option maxHeartbeats 8000000 in
theorem back_c (x : List Prt) (l : List Tok) (vx vl : Value) (w : World) (hx : Sl encPrt 5 w vx x) (hok : ∀ p ∈ x, PrtOk p) (hl : TokL w vl l) (hm : TokMax l.length) (hts : ∀ t ∈ l, t.s.size ≤ 140737488351232) (hG : GE w) :
    Calls Tryz.prog 5 #[vx, vl] w fun e w' => e = .returned (.bool true) ∧ Below w.heap.size w w' := by
  have HG := Lib.hid hG
  have HW := Lib.hid (works_c w hG)
  have HX := Lib.hid hx
  obtain ⟨q, hq⟩ : ∃ q, parseP l 0 = q := ⟨_, rfl⟩
  have HP := Lib.hid (fun (W : World) (hW : Below w.heap.size w W) => hq ▸ parse_c l W vl 0 (hl.below hW) hm (hG.x.below hW) hts)
  have HQ := Lib.hid hq
  have HTS := Lib.hid hts
  obtain ⟨A, c, rfl, h1, h2, h3⟩ := hl
  obtain ⟨Ax, cx, rfl, g1, g2, g3⟩ := hx
  by_cases hc : checkX x = 0
  · have HTX := Lib.hid (fun (W : World) (hW : Below w.heap.size w W) => tokens_yes hc (HX.out.below hW) hok (HG.out.x.below hW))
    have HAX := Lib.hid (fun (W : World) (a : Option Addr) (n c : Nat) (hW : Below w.heap.size w W) hv => again_c hc W a n c hv (HG.out.x.below hW))
    clear hc h1 h2 h3 g1 g2 g3 hok hm hts hG hq
    go_enter Tryz.func5, Tryz.ntmps5
    go_upto_region 3 with (first | (go_at_call 7; refine HW.out.mono ?_; rintro e w1 ⟨rfl, hb1⟩))
    clear HW
    go_upto_region 5 with (first | (go_at_call 11; refine (HTX.out _ (by (repeat' (first | (with_reducible exact Below.refl _ _) | (with_reducible refine below_alloc ?_) | (with_reducible refine below_drew ?_) | (with_reducible refine below_drewN ?_) | (with_reducible refine below_set (by first | (simp; done) | (simp; omega)) ?_) | (with_reducible refine below_call (by with_reducible assumption) ?_))))).mono ?_; clear HTX; rintro e w2 ⟨a2, n2, c2, rfl, hs2, hb2⟩; have HS2 := Lib.hid hs2; clear hs2))
    go_upto_region 6 with (first | (go_at_call 10; refine (HAX.out _ _ _ _ (by (repeat' (first | (with_reducible exact Below.refl _ _) | (with_reducible refine below_alloc ?_) | (with_reducible refine below_drew ?_) | (with_reducible refine below_drewN ?_) | (with_reducible refine below_set (by first | (simp; done) | (simp; omega)) ?_) | (with_reducible refine below_call (by with_reducible assumption) ?_)))) (HS2.out.below (by (repeat' (first | (with_reducible exact Below.refl _ _) | (with_reducible refine below_alloc ?_) | (with_reducible refine below_drew ?_) | (with_reducible refine below_drewN ?_) | (with_reducible refine below_set (by first | (simp; done) | (simp; omega)) ?_) | (with_reducible refine below_call (by with_reducible assumption) ?_)))))).mono ?_; clear HAX; rintro e w3 ⟨v3, rfl, hs3, hb3⟩; have HS3 := Lib.hid hs3; clear hs3))
    go_upto_region 10 with (first | (go_at_call 9; refine (same_self x _ _ _ (HX.out.below (by (repeat' (first | (with_reducible exact Below.refl _ _) | (with_reducible refine below_alloc ?_) | (with_reducible refine below_drew ?_) | (with_reducible refine below_drewN ?_) | (with_reducible refine below_set (by first | (simp; done) | (simp; omega)) ?_) | (with_reducible refine below_call (by with_reducible assumption) ?_))))) (HS3.out.below (by (repeat' (first | (with_reducible exact Below.refl _ _) | (with_reducible refine below_alloc ?_) | (with_reducible refine below_drew ?_) | (with_reducible refine below_drewN ?_) | (with_reducible refine below_set (by first | (simp; done) | (simp; omega)) ?_) | (with_reducible refine below_call (by with_reducible assumption) ?_)))))).mono ?_; rintro e w4 ⟨rfl, hb4⟩))
    refine wp_cut (fun W => Below w.heap.size w W) (by (repeat' (first | (with_reducible exact Below.refl _ _) | (with_reducible refine below_alloc ?_) | (with_reducible refine below_drew ?_) | (with_reducible refine below_drewN ?_) | (with_reducible refine below_set (by first | (simp; done) | (simp; omega)) ?_) | (with_reducible refine below_call (by with_reducible assumption) ?_)))) ?_
    rintro wc hbw
    have HBW := Lib.hid hbw
    clear hbw hb1 hb2 hb3 hb4
    cases q with
    | no eb ee =>
      have hne := parse_err HQ.out
      have hnb : (ee == 0) = false := by simpa using hne
      clear hne
      go_wp2_with (first | (go_at_call 10; refine (HP.out _ HBW.out).mono ?_; rintro e w5 hE; obtain ⟨rfl, hb5⟩ := pare_no hE))
      all_goals go_ret
      all_goals exact ⟨rfl, below_call (by (repeat' (first | (with_reducible exact Below.refl _ _) | (with_reducible refine below_alloc ?_) | (with_reducible refine below_drew ?_) | (with_reducible refine below_drewN ?_) | (with_reducible refine below_set (by first | (simp; done) | (simp; omega)) ?_) | (with_reducible refine below_call (by with_reducible assumption) ?_)))) HBW.out⟩
    | ok y n =>
      obtain ⟨n0, n1, n2, n3⟩ := parse_short HQ.out
      obtain ⟨m, rfl⟩ : ∃ m : Nat, n = m := ⟨n.toNat, by omega⟩
      have HOY := Lib.hid (parse_txt HTS.out HQ.out)
      by_cases hcy : checkX y = 0
      · have HTY := Lib.hid (fun (v : Value) (W : World) (hW : Below w.heap.size w W) (hv : Sl encPrt 5 W v y) => tokens_yes hcy hv HOY.out (HG.out.x.below hW))
        have HAY := Lib.hid (fun (W : World) (a : Option Addr) (n c : Nat) (hW : Below w.heap.size w W) hv => again_c hcy W a n c hv (HG.out.x.below hW))
        clear hcy n0 n1 n2 n3
        go_upto_region 13 with (first | (go_at_call 10; refine (HP.out _ HBW.out).mono ?_; clear HP; rintro e w5 hE; obtain ⟨v5, rfl, hs5, hb5⟩ := pare_ok hE; have HS5 := Lib.hid hs5; obtain ⟨A5, c5, rfl, -, -, -⟩ := hs5))
        go_upto_region 16 with (first | (go_at_call 11; refine (HTY.out _ _ (below_call (by (repeat' (first | (with_reducible exact Below.refl _ _) | (with_reducible refine below_alloc ?_) | (with_reducible refine below_drew ?_) | (with_reducible refine below_drewN ?_) | (with_reducible refine below_set (by first | (simp; done) | (simp; omega)) ?_) | (with_reducible refine below_call (by with_reducible assumption) ?_)))) HBW.out) (HS5.out.below (by (repeat' (first | (with_reducible exact Below.refl _ _) | (with_reducible refine below_alloc ?_) | (with_reducible refine below_drew ?_) | (with_reducible refine below_drewN ?_) | (with_reducible refine below_set (by first | (simp; done) | (simp; omega)) ?_) | (with_reducible refine below_call (by with_reducible assumption) ?_)))))).mono ?_; clear HTY; rintro e w6 ⟨a6, n6, c6, rfl, hs6, hb6⟩; have HS6 := Lib.hid hs6; clear hs6))
        go_upto_region 17 with (first | (go_at_call 10; refine (HAY.out _ _ _ _ (below_call (by (repeat' (first | (with_reducible exact Below.refl _ _) | (with_reducible refine below_alloc ?_) | (with_reducible refine below_drew ?_) | (with_reducible refine below_drewN ?_) | (with_reducible refine below_set (by first | (simp; done) | (simp; omega)) ?_) | (with_reducible refine below_call (by with_reducible assumption) ?_)))) HBW.out) (HS6.out.below (by (repeat' (first | (with_reducible exact Below.refl _ _) | (with_reducible refine below_alloc ?_) | (with_reducible refine below_drew ?_) | (with_reducible refine below_drewN ?_) | (with_reducible refine below_set (by first | (simp; done) | (simp; omega)) ?_) | (with_reducible refine below_call (by with_reducible assumption) ?_)))))).mono ?_; clear HAY; rintro e w7 ⟨v7, rfl, hs7, hb7⟩; have HS7 := Lib.hid hs7; clear hs7))
        go_wp2_with (first | (go_at_call 9; refine (same_self y _ _ _ (HS5.out.below (by (repeat' (first | (with_reducible exact Below.refl _ _) | (with_reducible refine below_alloc ?_) | (with_reducible refine below_drew ?_) | (with_reducible refine below_drewN ?_) | (with_reducible refine below_set (by first | (simp; done) | (simp; omega)) ?_) | (with_reducible refine below_call (by with_reducible assumption) ?_))))) (HS7.out.below (by (repeat' (first | (with_reducible exact Below.refl _ _) | (with_reducible refine below_alloc ?_) | (with_reducible refine below_drew ?_) | (with_reducible refine below_drewN ?_) | (with_reducible refine below_set (by first | (simp; done) | (simp; omega)) ?_) | (with_reducible refine below_call (by with_reducible assumption) ?_)))))).mono ?_; rintro e w9 ⟨rfl, hb9⟩))
        all_goals go_ret
        all_goals exact ⟨rfl, below_call (by (repeat' (first | (with_reducible exact Below.refl _ _) | (with_reducible refine below_alloc ?_) | (with_reducible refine below_drew ?_) | (with_reducible refine below_drewN ?_) | (with_reducible refine below_set (by first | (simp; done) | (simp; omega)) ?_) | (with_reducible refine below_call (by with_reducible assumption) ?_)))) HBW.out⟩
      · have HTY := Lib.hid (fun (v : Value) (W : World) (hW : Below w.heap.size w W) (hv : Sl encPrt 5 W v y) => check_60 n3 hcy ▸ tokens_no hcy hv HOY.out (HG.out.x.below hW))
        clear hcy n0 n1 n2 n3
        go_wp2_with (first
          | (go_at_call 10; refine (HP.out _ HBW.out).mono ?_; clear HP; rintro e w5 hE; obtain ⟨v5, rfl, hs5, hb5⟩ := pare_ok hE; have HS5 := Lib.hid hs5; obtain ⟨A5, c5, rfl, -, -, -⟩ := hs5)
          | (go_at_call 11; refine (HTY.out _ _ (below_call (by (repeat' (first | (with_reducible exact Below.refl _ _) | (with_reducible refine below_alloc ?_) | (with_reducible refine below_drew ?_) | (with_reducible refine below_drewN ?_) | (with_reducible refine below_set (by first | (simp; done) | (simp; omega)) ?_) | (with_reducible refine below_call (by with_reducible assumption) ?_)))) HBW.out) (HS5.out.below (by (repeat' (first | (with_reducible exact Below.refl _ _) | (with_reducible refine below_alloc ?_) | (with_reducible refine below_drew ?_) | (with_reducible refine below_drewN ?_) | (with_reducible refine below_set (by first | (simp; done) | (simp; omega)) ?_) | (with_reducible refine below_call (by with_reducible assumption) ?_)))))).mono ?_; clear HTY; rintro e w6 ⟨rfl, hb6⟩))
        all_goals go_ret
        all_goals exact ⟨rfl, below_call (by (repeat' (first | (with_reducible exact Below.refl _ _) | (with_reducible refine below_alloc ?_) | (with_reducible refine below_drew ?_) | (with_reducible refine below_drewN ?_) | (with_reducible refine below_set (by first | (simp; done) | (simp; omega)) ?_) | (with_reducible refine below_call (by with_reducible assumption) ?_)))) HBW.out⟩
  · have HTX := Lib.hid (fun (W : World) (hW : Below w.heap.size w W) => tokens_no hc (HX.out.below hW) hok (HG.out.x.below hW))
    have hcb := ne_i hc
    obtain ⟨cc, hcc⟩ : ∃ cc, checkX x = cc := ⟨_, rfl⟩
    rw [hcc] at HTX hcb
    clear hc h1 h2 h3 g1 g2 g3 hok hm hts hG hq hcc
    go_enter Tryz.func5, Tryz.ntmps5
    go_upto_region 10 with (first | (go_at_call 7; refine HW.out.mono ?_; rintro e w1 ⟨rfl, hb1⟩) | (go_at_call 11; refine (HTX.out _ (by (repeat' (first | (with_reducible exact Below.refl _ _) | (with_reducible refine below_alloc ?_) | (with_reducible refine below_drew ?_) | (with_reducible refine below_drewN ?_) | (with_reducible refine below_set (by first | (simp; done) | (simp; omega)) ?_) | (with_reducible refine below_call (by with_reducible assumption) ?_))))).mono ?_; clear HTX; rintro e w2 ⟨rfl, hb2⟩))
    clear HW
    refine wp_cut (fun W => Below w.heap.size w W) (by (repeat' (first | (with_reducible exact Below.refl _ _) | (with_reducible refine below_alloc ?_) | (with_reducible refine below_drew ?_) | (with_reducible refine below_drewN ?_) | (with_reducible refine below_set (by first | (simp; done) | (simp; omega)) ?_) | (with_reducible refine below_call (by with_reducible assumption) ?_)))) ?_
    rintro wc hbw
    have HBW := Lib.hid hbw
    clear hbw hb1 hb2
    cases q with
    | no eb ee =>
      have hne := parse_err HQ.out
      have hnb : (ee == 0) = false := by simpa using hne
      clear hne
      go_wp2_with (first | (go_at_call 10; refine (HP.out _ HBW.out).mono ?_; rintro e w5 hE; obtain ⟨rfl, hb5⟩ := pare_no hE))
      all_goals go_ret
      all_goals exact ⟨rfl, below_call (by (repeat' (first | (with_reducible exact Below.refl _ _) | (with_reducible refine below_alloc ?_) | (with_reducible refine below_drew ?_) | (with_reducible refine below_drewN ?_) | (with_reducible refine below_set (by first | (simp; done) | (simp; omega)) ?_) | (with_reducible refine below_call (by with_reducible assumption) ?_)))) HBW.out⟩
    | ok y n =>
      obtain ⟨n0, n1, n2, n3⟩ := parse_short HQ.out
      obtain ⟨m, rfl⟩ : ∃ m : Nat, n = m := ⟨n.toNat, by omega⟩
      have HOY := Lib.hid (parse_txt HTS.out HQ.out)
      by_cases hcy : checkX y = 0
      · have HTY := Lib.hid (fun (v : Value) (W : World) (hW : Below w.heap.size w W) (hv : Sl encPrt 5 W v y) => tokens_yes hcy hv HOY.out (HG.out.x.below hW))
        have HAY := Lib.hid (fun (W : World) (a : Option Addr) (n c : Nat) (hW : Below w.heap.size w W) hv => again_c hcy W a n c hv (HG.out.x.below hW))
        clear hcy n0 n1 n2 n3
        go_upto_region 13 with (first | (go_at_call 10; refine (HP.out _ HBW.out).mono ?_; clear HP; rintro e w5 hE; obtain ⟨v5, rfl, hs5, hb5⟩ := pare_ok hE; have HS5 := Lib.hid hs5; obtain ⟨A5, c5, rfl, -, -, -⟩ := hs5))
        go_upto_region 16 with (first | (go_at_call 11; refine (HTY.out _ _ (below_call (by (repeat' (first | (with_reducible exact Below.refl _ _) | (with_reducible refine below_alloc ?_) | (with_reducible refine below_drew ?_) | (with_reducible refine below_drewN ?_) | (with_reducible refine below_set (by first | (simp; done) | (simp; omega)) ?_) | (with_reducible refine below_call (by with_reducible assumption) ?_)))) HBW.out) (HS5.out.below (by (repeat' (first | (with_reducible exact Below.refl _ _) | (with_reducible refine below_alloc ?_) | (with_reducible refine below_drew ?_) | (with_reducible refine below_drewN ?_) | (with_reducible refine below_set (by first | (simp; done) | (simp; omega)) ?_) | (with_reducible refine below_call (by with_reducible assumption) ?_)))))).mono ?_; clear HTY; rintro e w6 ⟨a6, n6, c6, rfl, hs6, hb6⟩; have HS6 := Lib.hid hs6; clear hs6))
        go_upto_region 17 with (first | (go_at_call 10; refine (HAY.out _ _ _ _ (below_call (by (repeat' (first | (with_reducible exact Below.refl _ _) | (with_reducible refine below_alloc ?_) | (with_reducible refine below_drew ?_) | (with_reducible refine below_drewN ?_) | (with_reducible refine below_set (by first | (simp; done) | (simp; omega)) ?_) | (with_reducible refine below_call (by with_reducible assumption) ?_)))) HBW.out) (HS6.out.below (by (repeat' (first | (with_reducible exact Below.refl _ _) | (with_reducible refine below_alloc ?_) | (with_reducible refine below_drew ?_) | (with_reducible refine below_drewN ?_) | (with_reducible refine below_set (by first | (simp; done) | (simp; omega)) ?_) | (with_reducible refine below_call (by with_reducible assumption) ?_)))))).mono ?_; clear HAY; rintro e w7 ⟨v7, rfl, hs7, hb7⟩; have HS7 := Lib.hid hs7; clear hs7))
        go_wp2_with (first | (go_at_call 9; refine (same_self y _ _ _ (HS5.out.below (by (repeat' (first | (with_reducible exact Below.refl _ _) | (with_reducible refine below_alloc ?_) | (with_reducible refine below_drew ?_) | (with_reducible refine below_drewN ?_) | (with_reducible refine below_set (by first | (simp; done) | (simp; omega)) ?_) | (with_reducible refine below_call (by with_reducible assumption) ?_))))) (HS7.out.below (by (repeat' (first | (with_reducible exact Below.refl _ _) | (with_reducible refine below_alloc ?_) | (with_reducible refine below_drew ?_) | (with_reducible refine below_drewN ?_) | (with_reducible refine below_set (by first | (simp; done) | (simp; omega)) ?_) | (with_reducible refine below_call (by with_reducible assumption) ?_)))))).mono ?_; rintro e w9 ⟨rfl, hb9⟩))
        all_goals go_ret
        all_goals exact ⟨rfl, below_call (by (repeat' (first | (with_reducible exact Below.refl _ _) | (with_reducible refine below_alloc ?_) | (with_reducible refine below_drew ?_) | (with_reducible refine below_drewN ?_) | (with_reducible refine below_set (by first | (simp; done) | (simp; omega)) ?_) | (with_reducible refine below_call (by with_reducible assumption) ?_)))) HBW.out⟩
      · have HTY := Lib.hid (fun (v : Value) (W : World) (hW : Below w.heap.size w W) (hv : Sl encPrt 5 W v y) => check_60 n3 hcy ▸ tokens_no hcy hv HOY.out (HG.out.x.below hW))
        clear hcy n0 n1 n2 n3
        go_wp2_with (first
          | (go_at_call 10; refine (HP.out _ HBW.out).mono ?_; clear HP; rintro e w5 hE; obtain ⟨v5, rfl, hs5, hb5⟩ := pare_ok hE; have HS5 := Lib.hid hs5; obtain ⟨A5, c5, rfl, -, -, -⟩ := hs5)
          | (go_at_call 11; refine (HTY.out _ _ (below_call (by (repeat' (first | (with_reducible exact Below.refl _ _) | (with_reducible refine below_alloc ?_) | (with_reducible refine below_drew ?_) | (with_reducible refine below_drewN ?_) | (with_reducible refine below_set (by first | (simp; done) | (simp; omega)) ?_) | (with_reducible refine below_call (by with_reducible assumption) ?_)))) HBW.out) (HS5.out.below (by (repeat' (first | (with_reducible exact Below.refl _ _) | (with_reducible refine below_alloc ?_) | (with_reducible refine below_drew ?_) | (with_reducible refine below_drewN ?_) | (with_reducible refine below_set (by first | (simp; done) | (simp; omega)) ?_) | (with_reducible refine below_call (by with_reducible assumption) ?_)))))).mono ?_; clear HTY; rintro e w6 ⟨rfl, hb6⟩))
        all_goals go_ret
        all_goals exact ⟨rfl, below_call (by (repeat' (first | (with_reducible exact Below.refl _ _) | (with_reducible refine below_alloc ?_) | (with_reducible refine below_drew ?_) | (with_reducible refine below_drewN ?_) | (with_reducible refine below_set (by first | (simp; done) | (simp; omega)) ?_) | (with_reducible refine below_call (by with_reducible assumption) ?_)))) HBW.out⟩
end Go.Proofs.YtbnelgniekcjdaaGreatDoor
