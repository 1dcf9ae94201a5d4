/- The reader's small methods: is, fail, needs, put. -/
import Derived.Test.YtbnelgniekcjdaaGreatDoorCRd
import Derived.Test.YtbnelgniekcjdaaGreatDoorCEPLaw
import Derived.Deep.DeepAppendWide
import Derived.Deep.AppendLies
set_option linter.unusedSimpArgs false
set_option linter.unusedVariables false
namespace Go.Proofs.YtbnelgniekcjdaaGreatDoor
open Go.RowKit Cap
set_option maxRecDepth 100000

/-- The tokens as they lie. -/
abbrev TokL (w0 : World) (lv : Value) (l : List Tok) : Prop := Sl encTok 5 w0 lv l
theorem is_c (l : List Tok) (w0 W : World) (rb : Nat) (lv ov : Value) (a d : Nat) (o : List Prt) (hl : TokL w0 lv l) (h : Rd w0 rb lv a d ov o W) (ha : a ≤ l.length) (k : Int) (s : ByteArray) :
    Calls Tryz.prog 57 #[.pointer (some ⟨rb, 0, none⟩), .int .i64 k, .string s] W fun e w' => e = .returned (.bool (isTok l a k s)) ∧ Below W.heap.size W w' := by
  obtain ⟨⟨c0, c1, c2, c3⟩, hf⟩ := h.cells
  have hB := h.b0
  clear h c2 c3 hf
  obtain ⟨A, c, rfl, hln, hmx, hcx⟩ := hl
  have ha0 : (0 : Int) ≤ (a : Int) := Int.natCast_nonneg _
  by_cases hlt : a < l.length
  · obtain ⟨x, hx⟩ : ∃ x, l[a]? = some x := ⟨l[a], List.getElem?_eq_getElem hlt⟩
    obtain ⟨b, off, rfl, hb, hc⟩ := hcx a x hx
    have e0 : W.cell? ⟨b, off + a * 5, none⟩ = some (.int .i64 x.k) := (hB.cell (p := ⟨b, off + a * 5, none⟩) hb).trans (by simpa using hc 0 _ rfl)
    have e1 : W.cell? ⟨b, off + a * 5 + 1, none⟩ = some (.string x.s) := (hB.cell (p := ⟨b, off + a * 5 + 1, none⟩) hb).trans (by simpa using hc 1 _ rfl)
    have hltz : (a : Int) < (l.length : Int) := by omega
    have HR := Lib.hid (show isTok l a k s = (x.k == k && (x.s.toList == s.toList)) by unfold isTok; rw [hx]; rfl)
    clear hc hcx hx hB hln hmx ha hlt
    cases hk : (x.k == k) with
    | false =>
      go_enter Tryz.func57, Tryz.ntmps57
      go_upto_region 1 with fail
      go_quiet (fail)
      go_wp2
      go_ret
      exact ⟨by rw [HR.out, hk]; rfl, by (repeat' (first | (with_reducible exact Below.refl _ _) | (with_reducible refine below_alloc ?_) | (with_reducible refine below_drew ?_) | (with_reducible refine below_drewN ?_) | (with_reducible refine below_set (by first | (simp; done) | (simp; omega)) ?_) | (with_reducible refine below_call (by with_reducible assumption) ?_)))⟩
    | true =>
      cases hs : (x.s.toList == s.toList) with
      | false =>
        go_enter Tryz.func57, Tryz.ntmps57
        go_upto_region 1 with fail
        go_quiet (fail)
        go_wp2
        go_ret
        exact ⟨by rw [HR.out, hk, hs]; rfl, by (repeat' (first | (with_reducible exact Below.refl _ _) | (with_reducible refine below_alloc ?_) | (with_reducible refine below_drew ?_) | (with_reducible refine below_drewN ?_) | (with_reducible refine below_set (by first | (simp; done) | (simp; omega)) ?_) | (with_reducible refine below_call (by with_reducible assumption) ?_)))⟩
      | true =>
        go_enter Tryz.func57, Tryz.ntmps57
        go_upto_region 1 with fail
        go_quiet (fail)
        go_wp2
        go_ret
        exact ⟨by rw [HR.out, hk, hs]; rfl, by (repeat' (first | (with_reducible exact Below.refl _ _) | (with_reducible refine below_alloc ?_) | (with_reducible refine below_drew ?_) | (with_reducible refine below_drewN ?_) | (with_reducible refine below_set (by first | (simp; done) | (simp; omega)) ?_) | (with_reducible refine below_call (by with_reducible assumption) ?_)))⟩
  · obtain rfl : a = l.length := by omega
    have hltz : ¬ (l.length : Int) < (l.length : Int) := by omega
    have HR := Lib.hid (show isTok l l.length k s = false by unfold isTok; rw [List.getElem?_eq_none (Nat.le_refl _)])
    clear hcx hB hln hmx ha hlt
    go_enter Tryz.func57, Tryz.ntmps57
    go_upto_region 1 with fail
    go_quiet (fail)
    go_wp2
    go_ret
    exact ⟨by rw [HR.out]; rfl, by (repeat' (first | (with_reducible exact Below.refl _ _) | (with_reducible refine below_alloc ?_) | (with_reducible refine below_drew ?_) | (with_reducible refine below_drewN ?_) | (with_reducible refine below_set (by first | (simp; done) | (simp; omega)) ?_) | (with_reducible refine below_call (by with_reducible assumption) ?_)))⟩
theorem fail_c (w0 W : World) (rb : Nat) (lv ov : Value) (a d : Nat) (o : List Prt) (h : Rd w0 rb lv a d ov o W) (n : Int) :
    Calls Tryz.prog 85 #[.pointer (some ⟨rb, 0, none⟩), .int .i64 n] W fun e w' => e = .panicked [{ v := .iface 53 (.agg #[.int .i64 a, .int .i64 n]), recovered := false }] ∧ Below W.heap.size W w' := by
  obtain ⟨⟨c0, c1, c2, c3⟩, hf⟩ := h.cells
  clear h c0 c2 c3 hf
  go_enter Tryz.func85, Tryz.ntmps85
  go_wp2
  exact ⟨rfl, ⟨rfl, by (repeat' (first | (with_reducible exact Below.refl _ _) | (with_reducible refine below_alloc ?_) | (with_reducible refine below_drew ?_) | (with_reducible refine below_drewN ?_) | (with_reducible refine below_set (by first | (simp; done) | (simp; omega)) ?_) | (with_reducible refine below_call (by with_reducible assumption) ?_)))⟩⟩
section
variable {P : Program}
/-- append, with the wide bound, in a region that draws its order. -/
theorem step_append_wide {ops : Array Oper} {o : Oper} {a : Act} {K : Act → World → Prop} {Q : Exit → Act → World → Prop} {E : Prop} (w : World) (hgd : o.guard = none) (s x : Operand) (t : TypeId)
    (ho : o.op = .call { callee := .builtin .append, args := #[s, x], argTypes := #[t, t] })
    (base : Nat) (e : TypeId) (i : TypeInfo) (z : Value) (size bytes : Nat) (ht : P.underlying t = some (.slice e)) (hi : P.info? e = some i) (hz : i.zero = some z)
    (hsize : i.size = size) (hby : i.bytes = bytes) (hzs : z.cells.size = size) (hsz : 0 < size)
    (v : Value) (n : Nat) (xs : List Value) (hs : a.eval s = v) (hown : w.ownsRow base e size v n xs)
    (ad : Addr) (m c : Nat) (news : List Value) (hx : a.eval x = .slice (some ad) m c) (hl : news.length = m * size) (hnews : ∀ j u, news[j]? = some u → w.cell? (ad.add j) = some u) (h1 : ∀ u ∈ news, u.oneCell' = true)
    (h63 : n + m ≤ maxLen) (hbytes : ((n + m) + (n + m) / 4 + 192) * bytes ≤ 281474976710656) (hbase : base ≤ w.heap.size)
    (h : ∀ v' w', w'.ownsRow base e size v' (n + m) (xs ++ news) → w.grownBy w' v.ownBlock → K (a.put o.dst v') w') :
    if Region.wanted o (yielded ops a.tmps) = true then Oper.wp P o a w K Q else E := by
  have hw : Region.wanted o (yielded ops a.tmps) = true := by simp [Region.wanted, hgd]
  rw [if_pos hw]
  exact wp_append_own_wide w s x t ho base e i z size bytes ht hi hz hsize hby hzs hsz v n xs hs hown ad m c news hx hl hnews h1 h63 hbytes hbase fun v' w' h2 h3 _ => h v' w' h2 h3
end
theorem info_prt6 : InfoIs Tryz.prog 44 (.agg #[.int .i64 0, .int .i64 0, .int .i64 0, .string ⟨#[]⟩, .string ⟨#[]⟩]) 5 56 := by unfold InfoIs; kernel_rfl
theorem news5 (W : World) (a b c d e : Value) (T : TypeId) (j : Nat) (u : Value) (h : [a, b, c, d, e][j]? = some u) : (W.alloc (.cells #[a, b, c, d, e] T)).cell? ((⟨W.heap.size, 0, none⟩ : Addr).add j) = some u := by
  rw [Addr.add_lit, World.cell?_alloc_at _ _ _ _ rfl, Nat.zero_add]
  simpa using h
theorem news5' (W : World) (B : Nat) (hB : B = W.heap.size) (a b c d e : Value) (T : TypeId) (j : Nat) (u : Value) (h : [a, b, c, d, e][j]? = some u) : (W.alloc (.cells #[a, b, c, d, e] T)).cell? ((⟨B, 0, none⟩ : Addr).add j) = some u := by
  subst hB
  exact news5 W a b c d e T j u h
theorem news5d (W : World) (B : Nat) (hB : B = W.heap.size) (a b c d e : Value) (T : TypeId) (j : Nat) (u : Value) (h : [a, b, c, d, e][j]? = some u) : (W.alloc (.cells #[a, b, c, d, e] T)).drew.cell? ((⟨B, 0, none⟩ : Addr).add j) = some u := by
  subst hB
  exact news5 W a b c d e T j u h
/-- So many tokens there are at most. -/
def TokMax (n : Nat) : Prop := n ≤ 2932031007402
set_option maxHeartbeats 2000000 in
theorem put_c (w0 W : World) (rb : Nat) (lv ov : Value) (a d : Nat) (o : List Prt) (h : Rd w0 rb lv a d ov o W) (hm : TokMax (o.length + 1)) (p : Prt) :
    Calls Tryz.prog 34 #[.pointer (some ⟨rb, 0, none⟩), prtV p] W fun e w' => e = .returned (.tuple #[]) ∧ St rb W w' ∧ ∃ ov', Rd w0 rb lv a d ov' (o ++ [p]) w' := by
  obtain ⟨⟨c0, c1, c2, c3⟩, hf⟩ := h.cells
  have f3 := hf 3
  have hrb := h.lt
  have hne : rb ≠ W.heap.size := by omega
  unfold TokMax at hm
  have HH := Lib.hid h
  have hH := h.own
  have hsz := h.b0.size
  obtain ⟨pk, pn, pt, ps, pf⟩ := p
  unfold prtV
  simp only
  clear h c0 c1 c2 hf
  obtain ⟨i, hi1, hi2, hi3, hi4⟩ := info_prt6.parts
  go_enter Tryz.func34, Tryz.ntmps34
  go_upto_region 1 with fail
  go_region_law (refine step_append_wide _ rfl (.tmp 8) (.tmp 10) 26 rfl w0.heap.size 44 i _ 5 56 Tryz.underlying26 hi1 hi2 hi3 hi4 rfl (by decide) ov o.length (o.flatMap encPrt) (by rfl) (own_below hH (by (repeat' (first | (with_reducible exact Below.refl _ _) | (with_reducible refine below_alloc ?_) | (with_reducible refine below_drew ?_) | (with_reducible refine below_drewN ?_) | (with_reducible refine below_set (by first | (simp; done) | (simp; omega)) ?_) | (with_reducible refine below_call (by with_reducible assumption) ?_))))) ⟨W.heap.size + 1, 0, none⟩ 1 1 [.int .i64 pk, .int .i64 pn, .int .i64 pt, .string ps, .string pf] (by rfl) rfl (fun j u hu => news5d _ _ (by simp) _ _ _ _ _ _ j u hu) (by simp [Value.oneCell']) (by unfold maxLen; omega) (by omega) (by first | (simp; omega)) ?_; intro v' w' hown' hgr; obtain ⟨g', cap', rfl, _, hlt'⟩ := hown'.form (by omega); have hrw : w'.heap[rb]? = some (.cells #[lv, .int .i64 a, .int .i64 d, ov] 57 (0, 0)) := hpG hgr HH.out.ne (by repeat' (first | (with_reducible exact HH.out.at_) | (with_reducible refine hpA ?_) | (with_reducible refine hpD ?_))); have k3 := cell_of_row _ _ 3 _ _ _ hrw; have g3 := frozen_of_row _ _ 3 _ _ hrw; simp at k3; clear hrw)
  all_goals
    refine ⟨rfl, _, results_none rfl _ _ _, rfl, .set (St.grown (.drew (.alloc (.alloc (St.refl _ _)))) hgr fun g e => ?_) _ _, _, (HH.out.below (by (repeat' (first | (with_reducible exact Below.refl _ _) | (with_reducible refine below_alloc ?_) | (with_reducible refine below_drew ?_) | (with_reducible refine below_drewN ?_) | (with_reducible refine below_set (by first | (simp; done) | (simp; omega)) ?_) | (with_reducible refine below_call (by with_reducible assumption) ?_))))).put (x := ⟨pk, pn, pt, ps, pf⟩) hgr hown'⟩
    obtain ⟨cs, fr, h⟩ := HH.out.row g e
    exact ⟨cs, fr, by repeat' (first | (with_reducible exact h) | (with_reducible refine hpA ?_) | (with_reducible refine hpD ?_))⟩
theorem need_c (l : List Tok) (w0 W : World) (rb : Nat) (lv ov : Value) (a d : Nat) (o : List Prt) (hl : TokL w0 lv l) (h : Rd w0 rb lv a d ov o W) (ha : a ≤ l.length) (hm : TokMax l.length) (s : ByteArray) :
    Calls Tryz.prog 113 #[.pointer (some ⟨rb, 0, none⟩), .string s] W (RdE w0 W rb lv d o (needP l s a)) := by
  have HI := Lib.hid (is_c l w0 W rb lv ov a d o hl h ha 3 s)
  have HF := Lib.hid (fun W' (hb : Below W.heap.size W W') => fail_c w0 W' rb lv ov a d o (h.below hb) 60)
  have HH := Lib.hid h
  have hrb := h.lt
  unfold TokMax at hm
  have ham : ((a : Int) + 1) ≤ 9223372036854775807 := by omega
  have ha0 : (0 : Int) ≤ (a : Int) := Int.natCast_nonneg _
  cases ht : isTok l a 3 s with
  | false =>
    rw [ht] at HI
    rw [show needP l s a = .no a 60 by unfold needP; rw [ht]; rfl]
    clear h ht hl
    go_enter Tryz.func113, Tryz.ntmps113
    go_wp2_with (first | (go_at_call 57; refine HI.out.mono ?_; rintro e w1 ⟨rfl, hb1⟩; obtain ⟨hc1, hf1⟩ := bcell hb1; have hz1 := hb1.size; (try simp at hz1); (try have hw01 : w.heap.size < w1.heap.size := by omega); (try have hw11 : w.heap.size + 1 < w1.heap.size := by omega); (try have hw21 : w.heap.size + 1 + 1 < w1.heap.size := by omega)) | (go_at_call 85; refine (HF.out _ (by first | assumption | (repeat' (first | (with_reducible exact Below.refl _ _) | (with_reducible refine below_alloc ?_) | (with_reducible refine below_drew ?_) | (with_reducible refine below_drewN ?_) | (with_reducible refine below_set (by first | (simp; done) | (simp; omega)) ?_) | (with_reducible refine below_call (by with_reducible assumption) ?_))))).mono ?_; rintro e w2 ⟨rfl, hb2⟩))
    exact ⟨rfl, .no ((HH.out.below hb1).below hb2).b0 (.call hb2 (.call hb1 (St.refl _ _)))⟩
  | true =>
    rw [ht] at HI
    rw [show needP l s a = .ok (a + 1) [] by unfold needP; rw [ht]; rfl]
    clear ht hl h
    go_enter Tryz.func113, Tryz.ntmps113
    go_wp2_with fail
    refine HI.out.mono ?_
    rintro e w1 ⟨rfl, hb1⟩
    obtain ⟨⟨c0, c1, c2, c3⟩, hf⟩ := (HH.out.below hb1).cells
    have f1 := hf 1
    clear c0 c2 c3 hf
    go_wp2
    have hR := ((HH.out.below hb1).next)
    exact ⟨rfl, _, results_none rfl _ _ _, .ok (by rw [List.append_nil]; exact hR) (.set (.call hb1 (St.refl _ _)) _ _)⟩
end Go.Proofs.YtbnelgniekcjdaaGreatDoor
