/- expr.Tokens: the walk. -/
import Derived.Test.YtbnelgniekcjdaaGreatDoorCBkS
import Derived.Test.YtbnelgniekcjdaaGreatDoorCRdB
import Derived.Test.YtbnelgniekcjdaaGreatDoorCRdK
import Derived.Test.YtbnelgniekcjdaaGreatDoorCFCheck
import Derived.Test.YtbnelgniekcjdaaGreatDoorCLit
import Derived.Test.YtbnelgniekcjdaaGreatDoorCE06T
set_option linter.unusedSimpArgs false
set_option linter.unusedVariables false
namespace Go.Proofs.YtbnelgniekcjdaaGreatDoor
open Go.RowKit Cap
set_option maxRecDepth 100000
/-- What Tokens answers. -/
def TokensR (x : List Prt) (w : World) (e : Ending) (w' : World) : Prop :=
  (if checkX x ≠ 0 then e = .returned (.tuple #[.slice none 0 0, .int .i64 (checkX x)]) else ∃ u, e = .returned (.tuple #[u, .int .i64 0]) ∧ TR w.heap.size w' u (showL x)) ∧ Below w.heap.size w w'
/-- What the loop keeps. -/
structure TkJ (x : List Prt) (w : World) (k : Nat) (v : Value) (wr : World) : Prop where
  b : Below w.heap.size w wr
  s : ∃ (vs : List ShV) (ss : List Sh), StkW w.heap.size wr v vs ss ∧ ShI x k ss
theorem StkW.nil (base : Nat) (w : World) : StkW base w (.slice none 0 0) [] [] := ⟨World.ownsRow_nil _ _ _ _, rfl, fun i s t h => by simp at h⟩
theorem stk_form {base : Nat} {w : World} {v : Value} {vs : List ShV} {ss : List Sh} (h : StkW base w v vs ss) : (v = .slice none 0 0 ∧ vs = [] ∧ ss = []) ∨ ∃ g cap, v = .slice (some ⟨g, 0, none⟩) vs.length cap ∧ vs.length ≤ cap ∧ cap ≤ maxLen ∧ g < w.heap.size := by
  rcases own_form h.row with ⟨h1, h2⟩ | h1
  · refine .inl ⟨h1, h2, ?_⟩
    have := h.len
    rw [h2] at this
    exact List.eq_nil_of_length_eq_zero this.symm
  · exact .inr h1
/-- Facts on a value. -/
inductive Fc where
  | any
  | val (x : Value)
  | txt (xs : List ByteArray)
  | tok (base : Nat) (l : List Tok)
  | two (l1 l2 : List Tok)
  | agg (base : Nat) (l : List Tok) (op : Bool)
def Fc.holds : Fc → Value → World → Prop
  | .any, _, _ => True
  | .val x, v, _ => v = x
  | .txt xs, v, w => Sl encS 1 w v xs
  | .tok base l, v, w => ∃ a n c, v = .slice a n c ∧ TR base w (.slice a n c) l
  | .two l1 l2, v, w => ∃ vs, Sl (fun u => [u]) 1 w v vs ∧ Slices encTok 5 w vs [l1, l2]
  | .agg base l op, v, w => ∃ a n c, v = .agg #[.slice a n c, .bool op] ∧ TR base w (.slice a n c) l
theorem Fc.below : ∀ (f : Fc) (v : Value) (w w' : World), f.holds v w → Below w.heap.size w w' → f.holds v w'
  | .any, _, _, _, _, _ => trivial
  | .val _, _, _, _, h, _ => h
  | .txt _, _, _, _, h, hb => Sl.below h hb
  | .tok _ _, _, _, _, ⟨a, n, c, h1, h2⟩, hb => ⟨a, n, c, h1, h2.below hb⟩
  | .two _ _, _, _, _, ⟨vs, h1, h2, h3⟩, hb => ⟨vs, h1.below hb, h2, fun j u xs hu hx => (h3 j u xs hu hx).below hb⟩
  | .agg _ _ _, _, _, _, ⟨a, n, c, h1, h2⟩, hb => ⟨a, n, c, h1, h2.below hb⟩
def fcF (l : List Fc) (i : Nat) (v _r : Value) (w : World) : Prop := (l.getD i .any).holds v w
theorem fcF_below {l : List Fc} (i : Nat) (v r : Value) (w w' : World) (h : fcF l i v r w) (hb : Below w.heap.size w w') : fcF l i v r w' := Fc.below _ _ _ _ h hb
theorem wp_skip {P : Program} {Q : Exit → Act → World → Prop} {o : Oper} {a : Act} {w w' : World} {K : Act → World → Prop} (h : (execOp a.eval o).run P w = .ok .skip w') (hk : K (a.put o.dst undef) w') : o.wp P a w K Q := by
  unfold Oper.wp
  rw [h]
  exact hk
theorem conv_at : ∀ t : Nat, 2 ≤ t → t ≤ 4 → convTxt[t]? = some (convB (t : Int)) := by
  intro t h1 h2
  rcases (show t = 2 ∨ t = 3 ∨ t = 4 by omega) with rfl | rfl | rfl <;> rfl
theorem sign_at {n : Nat} (h : n ≤ 16) : signTxt[n]? = some (signAt n) := by
  unfold signAt
  rw [List.getD_eq_getElem?_getD, List.getElem?_eq_getElem (show n < signTxt.length from by show n < 17; omega)]
  rfl
theorem convB_size (t : Int) : (convB t).size ≤ 24 := by
  unfold convB
  split
  · decide
  · split
    · decide
    · split <;> decide
theorem signAt_size {n : Nat} (h : n ≤ 16) : (signAt n).size ≤ 24 := by
  have hk : (List.range 17).all (fun i => decide ((signAt i).size ≤ 24)) = true := by decide
  have := List.all_eq_true.1 hk n (List.mem_range.2 (by omega))
  simpa using this
theorem show_op1 {n : Nat} (h1 : 15 ≤ n) (h2 : n ≤ 16) (t : Sh) : showP (opP n) [t] = (tokOf (signAt n) :: innerT t, true) := by
  rcases (show n = 15 ∨ n = 16 by omega) with rfl | rfl <;> rfl
theorem show_op2 {n : Nat} (h1 : 1 ≤ n) (h2 : n ≤ 14) (t t' : Sh) : showP (opP n) [t, t'] = (innerT t ++ (tokOf (signAt n) :: innerT t'), true) := by
  have ht2 : takesE (opP n) = 2 := by
    unfold takesE opP
    simp only
    rw [if_neg, if_pos trivial]
    rintro (h | h | h)
    · simp at h
    · simp at h
    · omega
  unfold showP
  rw [if_neg (by simp [opP]), if_neg (by simp [opP]), if_neg (by simp [opP]), if_neg (by simp [opP]), if_neg (by simp [opP]), if_neg (by simp [opP]), if_neg (by omega)]
  rfl
theorem op_takes {n m : Nat} (h1 : 1 ≤ n) (h2 : n ≤ 16) (h : takesE (opP n) = m) : (m = 1 ∧ 15 ≤ n) ∨ (m = 2 ∧ n ≤ 14) := by
  unfold takesE opP at h
  simp only at h
  split at h
  · rename_i h3
    left
    rcases h3 with h3 | h3 | h3
    · simp at h3
    · simp at h3
    · omega
  · rename_i h3
    simp only [if_true] at h
    right
    simp at h3
    omega
theorem two_sl {w : World} {v1 v2 : Value} {l1 l2 : List Tok} (h1 : Sl encTok 5 w v1 l1) (h2 : Sl encTok 5 w v2 l2) : Slices encTok 5 w [v1, v2] [l1, l2] := by
  refine ⟨rfl, fun j u xs hu hx => ?_⟩
  match j, hu, hx with
  | 0, hu, hx =>
    obtain rfl : v1 = u := by simpa using hu
    obtain rfl : l1 = xs := by simpa using hx
    exact h1
  | 1, hu, hx =>
    obtain rfl : v2 = u := by simpa using hu
    obtain rfl : l2 = xs := by simpa using hx
    exact h2
  | j + 2, hu, hx => simp at hu
/-- The one, or the two, at the top. -/
theorem StkW.top {base : Nat} {w : World} {v : Value} {vs : List ShV} {ss : List Sh} (h : StkW base w v vs ss) {i : Nat} (hi : i < vs.length) : ∃ s t, vs[i]? = some s ∧ ss[i]? = some t ∧ TR base w s.v t.1 ∧ s.op = t.2 ∧ t ∈ ss := by
  have hi' : i < ss.length := by rw [← h.len]; exact hi
  refine ⟨vs[i], ss[i], List.getElem?_eq_getElem hi, List.getElem?_eq_getElem hi', ?_, ?_, List.getElem_mem _⟩
  · exact (h.tok i _ _ (List.getElem?_eq_getElem hi) (List.getElem?_eq_getElem hi')).1
  · exact (h.tok i _ _ (List.getElem?_eq_getElem hi) (List.getElem?_eq_getElem hi')).2
theorem drop_last1 {α : Type} {l : List α} {m : Nat} {x : α} (hl : l.length = m + 1) (hx : l[m]? = some x) : l.drop m = [x] := by
  rw [drop_cons hx, List.drop_eq_nil_of_le (by omega)]
theorem drop_last2 {α : Type} {l : List α} {m : Nat} {x y : α} (hl : l.length = m + 2) (hx : l[m]? = some x) (hy : l[m + 1]? = some y) : l.drop m = [x, y] := by
  rw [drop_cons hx, drop_cons hy, List.drop_eq_nil_of_le (by omega)]
theorem shCells {w : World} {v : Value} {xs : List ShV} (h : Sl encSh 2 w v xs) {n : Nat} (hn : xs.length = n + 1) : ∃ b o c, v = .slice (some ⟨b, o, none⟩) (n + 1) c ∧ b < w.heap.size ∧ n + 1 ≤ c ∧ ∀ i s, xs[i]? = some s → w.cell? ⟨b, o + i * 2, none⟩ = some (.slice s.a s.n s.c) ∧ w.cell? ⟨b, o + i * 2 + 1, none⟩ = some (.bool s.op) := by
  obtain ⟨A, c, rfl, h1, h2, h3⟩ := h
  obtain ⟨b, o, rfl, hb, -⟩ := h3 0 (xs[0]'(by omega)) (List.getElem?_eq_getElem _)
  rw [hn] at h1 ⊢
  refine ⟨b, o, c, rfl, hb, h1, fun i s hs => ?_⟩
  obtain ⟨b', o', e, -, hc⟩ := h3 i s hs
  injection e with e
  injection e with e1 e2
  subst e1 e2
  exact ⟨by simpa using hc 0 _ rfl, by simpa using hc 1 _ rfl⟩
theorem boxS {w : World} {B : Nat} {u0 u1 : Value} {T : TypeId} (h : w.heap[B]? = some (.cells #[u0, u1] T (0, 0))) : w.cell? ⟨B, 0, none⟩ = some u0 ∧ w.cell? ⟨B, 1, none⟩ = some u1 := by
  simp [World.cell?, h]
theorem iceS {w : World} {B : Nat} {u0 u1 : Value} {T : TypeId} (h : w.heap[B]? = some (.cells #[u0, u1] T (0, 0))) : w.frozen? ⟨B, 0, none⟩ = false ∧ w.frozen? ⟨B, 1, none⟩ = false := by
  simp [World.frozen?, h]
theorem set_box0 {w : World} {B : Nat} {u0 u1 v : Value} {T : TypeId} (h : w.heap[B]? = some (.cells #[u0, u1] T (0, 0))) : (w.setCell ⟨B, 0, none⟩ v).heap[B]? = some (.cells #[v, u1] T (0, 0)) := heap_setCell_same w B 0 _ T v h
theorem set_box1 {w : World} {B : Nat} {u0 u1 v : Value} {T : TypeId} (h : w.heap[B]? = some (.cells #[u0, u1] T (0, 0))) : (w.setCell ⟨B, 1, none⟩ v).heap[B]? = some (.cells #[u0, v] T (0, 0)) := heap_setCell_same w B 1 _ T v h
theorem TR.set {base : Nat} {w : World} {v : Value} {l : List Tok} {B : Nat} {cs : Array Value} (h : TR base w v l) (hB : w.heap[B]? = some (.cells cs 63 (0, 0))) {j : Nat} {u : Value} : TR base (w.setCell ⟨B, j, none⟩ u) v l := by
  refine own_keep h fun g hg => heap_setCell_other w ⟨B, j, none⟩ g u ?_
  rintro rfl
  rcases h.2 with ⟨rfl, _⟩ | ⟨g', cap, cur, rfl, hb', hh, _⟩
  · simp [Value.ownBlock] at hg
  · simp [Value.ownBlock] at hg
    subst hg
    rw [hB] at hh
    injection hh with hh
    injection hh with _ h2 _
    exact absurd h2 (by decide)
theorem TR.base {b b' : Nat} {w : World} {v : Value} {l : List Tok} (h : TR b w v l) (hb : b' ≤ b) : TR b' w v l := own_base h hb
theorem tokens_s (bf bh : List ByteArray) (inner out : List Tok) (ho : bf.map tokOf ++ inner ++ bh.map tokOf = out) (vb vi vh : Value) (w : World) (hb : Sl encS 1 w vb bf) (hi : Sl encTok 5 w vi inner) (hh : Sl encS 1 w vh bh) (hG : G w)
    (h1 : ∀ s ∈ bf, s.size ≤ 140737488351232) (h2 : ∀ s ∈ bh, s.size ≤ 140737488351232) (l1 : bf.length ≤ 1048576) (l2 : inner.length ≤ 1048576) (l3 : bh.length ≤ 1048576) :
    Calls Tryz.prog 21 #[vb, vi, vh] w fun e w' => ∃ a n c, e = .returned (.slice a n c) ∧ TR w.heap.size w' (.slice a n c) out ∧ Below w.heap.size w w' := by
  subst ho
  refine (tokens_c' bf bh inner vb vi vh w hb hi hh hG h1 h2 l1 l2 l3).mono ?_
  rintro e w' ⟨v, rfl, h, hb⟩
  obtain ⟨a, c, rfl⟩ := own_slice h
  exact ⟨_, _, _, rfl, h, hb⟩
theorem sl_empty {α : Type} {enc : α → List Value} {k : Nat} {w : World} {A : Option Addr} {c : Nat} (hc : c ≤ 9223372036854775807) : Sl enc k w (.slice A 0 c) [] := ⟨A, c, rfl, Nat.zero_le _, hc, fun i x h => by simp at h⟩
set_option maxHeartbeats 8000000 in
theorem exprTokens_c (x : List Prt) (v : Value) (w : World) (hx : Sl encPrt 5 w v x) (hok : ∀ p ∈ x, PrtOk p) (hG : GX w) :
    Calls Tryz.prog 11 #[v] w (TokensR x w) := by
  have HCK := Lib.hid (checkX_c x v w hx hG.g hok)
  unfold TokensR
  obtain ⟨Ax, cx, rfl, hxl, hxm, hxc⟩ := hx
  by_cases hc : checkX x = 0
  case neg =>
    have hcb := ne_i hc
    have hcn : (checkX x != 0) = true := by simpa using hc
    simp only [ne_eq, hc, not_false_eq_true, if_true]
    obtain ⟨c, hcc⟩ : ∃ c, checkX x = c := ⟨_, rfl⟩
    rw [hcc] at HCK hcb hcn ⊢
    clear hc hcc hxc hG hok
    go_enter Tryz.func11, Tryz.ntmps11
    go_wp2_with (first | (go_at_call 13; refine HCK.out.mono ?_; rintro e w1 ⟨rfl, hb1⟩))
    go_ret2
    exact ⟨rfl, by (repeat' (first | (with_reducible exact Below.refl _ _) | (with_reducible refine below_alloc ?_) | (with_reducible refine below_drew ?_) | (with_reducible refine below_drewN ?_) | (with_reducible refine below_set (by first | (simp; done) | (simp; omega)) ?_) | (with_reducible refine below_call (by with_reducible assumption) ?_)))⟩
  rw [hc] at HCK ⊢
  simp only [ne_eq, not_true_eq_false, if_false]
  have HI0 := Lib.hid (ShI.start hc)
  have HMAY := Lib.hid (checkX_ok hc).2.2
  have hx500 := (checkX_ok hc).1
  have HG := Lib.hid hG
  have HC := Lib.hid hxc
  have HOK := Lib.hid hok
  have HDN := Lib.hid (fun ss (h : ShI x x.length ss) => h.done)
  obtain ⟨out, hout⟩ : ∃ l, showL x = l := ⟨_, rfl⟩
  simp only [hout] at HDN ⊢
  obtain ⟨L, hL⟩ : ∃ L, x.length = L := ⟨_, rfl⟩
  have HL := Lib.hid (show ∀ k, k < L → ∃ p, x[k]? = some p from fun k hk => ⟨x[k]'(by omega), List.getElem?_eq_getElem _⟩)
  rw [hL] at hxl hx500 HDN HCK ⊢
  clear hxc hG hok hc hL hout
  go_enter Tryz.func11, Tryz.ntmps11
  go_upto_region 5 with (first | (go_at_call 13; refine HCK.out.mono ?_; rintro e w1 ⟨rfl, hb1⟩))
  have HB1 := Lib.hid hb1
  clear hb1 HCK
  go_wp2
  go_loopg [5, 18] L (fun gg s5 s18 wr => ∃ k : Nat, s18 = .int .i64 k ∧ k ≤ L ∧ L - k ≤ gg ∧ Aside (TkJ x w k s5 wr))
  case atStart => exact ⟨0, rfl, Nat.zero_le _, by omega, (show TkJ x w 0 (.slice none 0 0) w1 from ⟨HB1.out, [], [], StkW.nil _ _, HI0.out⟩)⟩
  case round =>
    obtain ⟨k, rfl, hk, hg, HJ⟩ := hrel
    by_cases hlt : k < L
    · obtain ⟨p, hp⟩ := HL.out k hlt
      obtain ⟨bw, vs, ss, hst, hsi⟩ := HJ.out
      have HBW := Lib.hid bw
      have hmp := HMAY.out p (List.mem_of_getElem? hp)
      have hen := hsi.enough hp
      have HST := Lib.hid hst
      have HNX := Lib.hid (hsi.next hp hmp)
      have HSM := Lib.hid (fun s hs => hsi.small (s := s) hs)
      obtain ⟨b, o, rfl, hb, hcx⟩ := HC.out k p hp
      have c0 : wr.cell? ⟨b, o + k * 5, none⟩ = some (.int .i64 p.k) := (HBW.out.cell (p := ⟨b, o + k * 5, none⟩) hb).trans (by simpa using hcx 0 _ rfl)
      have c1 : wr.cell? ⟨b, o + k * 5 + 1, none⟩ = some (.int .i64 p.n) := (HBW.out.cell (p := ⟨b, o + k * 5 + 1, none⟩) hb).trans (by simpa using hcx 1 _ rfl)
      have c2 : wr.cell? ⟨b, o + k * 5 + 2, none⟩ = some (.int .i64 p.t) := (HBW.out.cell (p := ⟨b, o + k * 5 + 2, none⟩) hb).trans (by simpa using hcx 2 _ rfl)
      have c3 : wr.cell? ⟨b, o + k * 5 + 3, none⟩ = some (.string p.s) := (HBW.out.cell (p := ⟨b, o + k * 5 + 3, none⟩) hb).trans (by simpa using hcx 3 _ rfl)
      have c4 : wr.cell? ⟨b, o + k * 5 + 4, none⟩ = some (.string p.f) := (HBW.out.cell (p := ⟨b, o + k * 5 + 4, none⟩) hb).trans (by simpa using hcx 4 _ rfl)
      have hltz : (k : Int) < (L : Int) := by omega
      have hk0 : (0 : Int) ≤ (k : Int) := Int.natCast_nonneg _
      have hln := hst.len
      have HLN := Lib.hid hln
      rw [← hln] at hen
      have hvl : vs.length ≤ 5 * k := by
        have := hsi.tot
        have h2 : ss.length ≤ totS ss := totS_len ss
        omega
      have HSS := Lib.hid (show showStep p ss = ss.take (ss.length - takesE p) ++ [showP p (ss.drop (ss.length - takesE p))] from rfl)
      have hle := takesE_le p
      clear hcx hp bw hsi hln HC HL HMAY HI0
      obtain ⟨n, hn⟩ : ∃ n, takesE p = n := ⟨_, rfl⟩
      have HT := Lib.hid (fun W => (by rw [← hn]; exact takesE_c p W : Calls Tryz.prog 19 #[prtV p] W fun e w' => e = .returned (.int .i64 (n : Int)) ∧ Below W.heap.size W w'))
      have HCL := Lib.hid (fun xs v W (h : Sl encSh 2 W v xs) hn => clone_sh xs v W h hn)
      rw [hn] at hen hle HSS
      have HN := Lib.hid hn
      clear hn
      rcases Nat.eq_zero_or_pos n with hn0 | hn0
      · subst hn0
        simp only [Int.ofNat_zero, Int.natCast_zero] at HT
        have HNX2 := Lib.hid (show ShI x (k + 1) (ss ++ [showP p []]) from by have h := HNX.out; rw [HSS.out] at h; simpa using h)
        rcases stk_form hst with ⟨rfl, rfl, rfl⟩ | ⟨g, cap, rfl, hcap, hmax, hgw⟩
        · clear hst
          go_upto_region 13 with (first
            | (go_at_call 19; refine (HT.out _).mono ?_; rintro e w2 ⟨rfl, hb2⟩)
            | (go_at_call 20; refine (HCL.out [] _ _ (Sl.nil _ _ _) (by simp)).mono ?_; rintro e w3 ⟨v3, rfl, hs3, hb3⟩))
          have hz2 := hb2.size
          have hz3 := hb3.size
          simp at hz2
          refine wp_cut (fun W => Below wr.heap.size wr W ∧ W.heap[wr.heap.size]? = some (.cells #[.int .i64 p.k, .int .i64 p.n, .int .i64 p.t, .string p.s, .string p.f] 44 (0, 0)) ∧ W.heap[w3.heap.size]? = some (.cells #[.slice none 0 0, .bool false] 63 (0, 0)) ∧ w3.heap.size < W.heap.size ∧ Sl encSh 2 W v3 ([]))
            ⟨by (repeat' (first | (with_reducible exact Below.refl _ _) | (with_reducible refine below_alloc ?_) | (with_reducible refine below_drew ?_) | (with_reducible refine below_drewN ?_) | (with_reducible refine below_set (by first | (simp; done) | (simp; omega)) ?_) | (with_reducible refine below_call (by with_reducible assumption) ?_))), by (repeat' (first | (with_reducible exact hpN (by first | rfl | (simp; done) | (simp; omega))) | (with_reducible refine hpA ?_) | (with_reducible refine hpD ?_) | (with_reducible refine hpB (by with_reducible assumption) ?_))), by (repeat' (first | (with_reducible exact hpN (by first | rfl | (simp; done) | (simp; omega))) | (with_reducible refine hpA ?_) | (with_reducible refine hpD ?_) | (with_reducible refine hpB (by with_reducible assumption) ?_))), by simp, hs3.below (by (repeat' (first | (with_reducible exact Below.refl _ _) | (with_reducible refine below_alloc ?_) | (with_reducible refine below_drew ?_) | (with_reducible refine below_drewN ?_) | (with_reducible refine below_set (by first | (simp; done) | (simp; omega)) ?_) | (with_reducible refine below_call (by with_reducible assumption) ?_))))⟩ ?_
          rintro wc ⟨hbc, hpc, hsc, hszc, htop⟩
          obtain ⟨z0, z1, z2, z3, z4⟩ := box5 hpc
          obtain ⟨B, hB⟩ : ∃ B, w3.heap.size = B := ⟨_, rfl⟩
          rw [hB] at hsc hszc hz3 ⊢
          have hBr : wr.heap.size < B := by omega
          have hPw : wr.heap.size < wc.heap.size := by omega
          have HSC := Lib.hid hsc
          have HBC := Lib.hid hbc
          clear hpc hs3 hb2 hb3 hB hbc hz2 hz3 hsc
          have HBCW := Lib.hid (below_call HBC.out HBW.out)
          obtain ⟨y0, y1⟩ := boxS HSC.out
          obtain ⟨i0, i1⟩ := iceS HSC.out
          rcases may_cases hmp with ⟨n', t, hb1', e⟩ | ⟨s, hs, e⟩ | ⟨s, hs, e⟩ | ⟨s, f, hs, hw, e⟩ | ⟨n', h1, h2, e⟩ | ⟨t, h1, h2, e⟩
          · have q0 : p.k = 1 := by rw [e]; rfl
            have q1 : p.n = n' := by rw [e]; rfl
            have q2 : p.t = t := by rw [e]; rfl
            rw [q0] at z0
            rw [q1] at z1
            rw [q2] at z2
            by_cases ht : t = 1
            · subst ht
              rcases hb1' rfl with rfl | rfl
              · clear hb1'
                have HNY := Lib.hid (show ShI x (k + 1) ([] ++ [([tokOf ⟨#[70, 65, 76, 83, 69]⟩], false)]) from by have h := HNX2.out; rw [show showP p [] = ([tokOf ⟨#[70, 65, 76, 83, 69]⟩], false) from by rw [e]; rfl] at h; exact h)
                clear e q0 q1 q2
                go_upto_region 27 with (first | (go_at_call 21; refine (tokens_s [⟨#[70, 65, 76, 83, 69]⟩] [] [] [tokOf ⟨#[70, 65, 76, 83, 69]⟩] rfl _ _ _ _ (by refine Sl.lit' ?_ _ _ _ _ _ _ ?_ ?_ ?_ ?_ <;> first | (intro _; rfl) | rfl | decide | (simp; done)) (Sl.nil _ _ _) (Sl.nil _ _ _) (HG.out.g.below (below_call (by (repeat' (first | (with_reducible exact Below.refl _ _) | (with_reducible refine below_alloc ?_) | (with_reducible refine below_drew ?_) | (with_reducible refine below_drewN ?_) | (with_reducible refine below_set (by first | (simp; done) | (simp; omega)) ?_) | (with_reducible refine below_call (by with_reducible assumption) ?_)))) HBCW.out)) (by decide) (by decide) (by simp) (by simp) (by simp)).mono ?_; rintro e w6 ⟨a6, n6, c6, rfl, ho6, hb6⟩; have hb6' := (show Below wc.heap.size wc w6 by (repeat' (first | (with_reducible exact Below.refl _ _) | (with_reducible refine below_alloc ?_) | (with_reducible refine below_drew ?_) | (with_reducible refine below_drewN ?_) | (with_reducible refine below_set (by first | (simp; done) | (simp; omega)) ?_) | (with_reducible refine below_call (by with_reducible assumption) ?_)))); have hs6 := (hb6'.block B (by omega)).trans HSC.out; have HS6 := Lib.hid hs6; have HB6 := Lib.hid hb6'; obtain ⟨y0, y1⟩ := boxS hs6; obtain ⟨i0, i1⟩ := iceS hs6; clear hs6; have HT6 := Lib.hid (TR.base ho6 (show w.heap.size ≤ _ by have := HBCW.out.size; simp; omega)); clear ho6))
                refine wp_cut (fun W => Below wr.heap.size wr W ∧ W.heap[B]? = some (.cells #[.slice a6 n6 c6, .bool false] 63 (0, 0)) ∧ TR w.heap.size W (.slice a6 n6 c6) [tokOf ⟨#[70, 65, 76, 83, 69]⟩]) ⟨below_set (by simp; omega) (below_call HB6.out HBC.out), set_box0 HS6.out, HT6.out.set HS6.out⟩ ?_
                rintro wd ⟨hbd, hsd, htr⟩
                have HTR := Lib.hid htr
                clear htr
                obtain ⟨y0, y1⟩ := boxS hsd
                have HSD := Lib.hid (HST.out.below hbd)
                have HBD := Lib.hid hbd
                have hbz := hbd.size
                have hwz := HBW.out.size
                clear hsd hbd
                go_wp2_with (first
                  | (at_builtin; refine wpList_app _ rfl (.tmp 146) (.tmp 148) 59 rfl w.heap.size 63 _ 2 32 Tryz.underlying59 info_sh rfl (by decide) encSh encSh_len one_Sh _ _ _ rfl (own_below HSD.out.row (below_alloc (Below.refl _ _))) _ [⟨a6, n6, c6, false⟩] rfl (by refine Sl.lit' ?_ _ _ _ _ _ _ ?_ ?_ ?_ ?_ <;> first | (intro _; rfl) | rfl | decide | (simp; done)) (by unfold maxLen; (try simp); (try omega)) (by (try simp); (try omega)) (by (try simp); (try omega)) ?_; intro v8 w8 ho8 hg8))
                go_roundg (L - (k + 1))
                case measure => omega
                case rel =>
                  refine ⟨k + 1, by go_num, by omega, by omega, (show TkJ x w (k + 1) v8 w8 from ⟨below_grown (below_call (below_alloc (Below.refl _ _)) (below_call HBD.out HBW.out)) hg8 (own_ge HSD.out.row (Nat.le_refl _)), _, _, StkW.push (s := ⟨a6, n6, c6, false⟩) (t := ([tokOf ⟨#[70, 65, 76, 83, 69]⟩], false)) (HSD.out.below (below_alloc (Below.refl _ _))) ((HTR.out).below (below_alloc (Below.refl _ _))) rfl ho8 hg8, HNY.out⟩)⟩
              · clear hb1'
                have HNY := Lib.hid (show ShI x (k + 1) ([] ++ [([tokOf ⟨#[84, 82, 85, 69]⟩], false)]) from by have h := HNX2.out; rw [show showP p [] = ([tokOf ⟨#[84, 82, 85, 69]⟩], false) from by rw [e]; rfl] at h; exact h)
                clear e q0 q1 q2
                go_upto_region 27 with (first | (go_at_call 21; refine (tokens_s [⟨#[84, 82, 85, 69]⟩] [] [] [tokOf ⟨#[84, 82, 85, 69]⟩] rfl _ _ _ _ (by refine Sl.lit' ?_ _ _ _ _ _ _ ?_ ?_ ?_ ?_ <;> first | (intro _; rfl) | rfl | decide | (simp; done)) (Sl.nil _ _ _) (Sl.nil _ _ _) (HG.out.g.below (below_call (by (repeat' (first | (with_reducible exact Below.refl _ _) | (with_reducible refine below_alloc ?_) | (with_reducible refine below_drew ?_) | (with_reducible refine below_drewN ?_) | (with_reducible refine below_set (by first | (simp; done) | (simp; omega)) ?_) | (with_reducible refine below_call (by with_reducible assumption) ?_)))) HBCW.out)) (by decide) (by decide) (by simp) (by simp) (by simp)).mono ?_; rintro e w6 ⟨a6, n6, c6, rfl, ho6, hb6⟩; have hb6' := (show Below wc.heap.size wc w6 by (repeat' (first | (with_reducible exact Below.refl _ _) | (with_reducible refine below_alloc ?_) | (with_reducible refine below_drew ?_) | (with_reducible refine below_drewN ?_) | (with_reducible refine below_set (by first | (simp; done) | (simp; omega)) ?_) | (with_reducible refine below_call (by with_reducible assumption) ?_)))); have hs6 := (hb6'.block B (by omega)).trans HSC.out; have HS6 := Lib.hid hs6; have HB6 := Lib.hid hb6'; obtain ⟨y0, y1⟩ := boxS hs6; obtain ⟨i0, i1⟩ := iceS hs6; clear hs6; have HT6 := Lib.hid (TR.base ho6 (show w.heap.size ≤ _ by have := HBCW.out.size; simp; omega)); clear ho6))
                refine wp_cut (fun W => Below wr.heap.size wr W ∧ W.heap[B]? = some (.cells #[.slice a6 n6 c6, .bool false] 63 (0, 0)) ∧ TR w.heap.size W (.slice a6 n6 c6) [tokOf ⟨#[84, 82, 85, 69]⟩]) ⟨below_set (by simp; omega) (below_call HB6.out HBC.out), set_box0 HS6.out, HT6.out.set HS6.out⟩ ?_
                rintro wd ⟨hbd, hsd, htr⟩
                have HTR := Lib.hid htr
                clear htr
                obtain ⟨y0, y1⟩ := boxS hsd
                have HSD := Lib.hid (HST.out.below hbd)
                have HBD := Lib.hid hbd
                have hbz := hbd.size
                have hwz := HBW.out.size
                clear hsd hbd
                go_wp2_with (first
                  | (at_builtin; refine wpList_app _ rfl (.tmp 146) (.tmp 148) 59 rfl w.heap.size 63 _ 2 32 Tryz.underlying59 info_sh rfl (by decide) encSh encSh_len one_Sh _ _ _ rfl (own_below HSD.out.row (below_alloc (Below.refl _ _))) _ [⟨a6, n6, c6, false⟩] rfl (by refine Sl.lit' ?_ _ _ _ _ _ _ ?_ ?_ ?_ ?_ <;> first | (intro _; rfl) | rfl | decide | (simp; done)) (by unfold maxLen; (try simp); (try omega)) (by (try simp); (try omega)) (by (try simp); (try omega)) ?_; intro v8 w8 ho8 hg8))
                go_roundg (L - (k + 1))
                case measure => omega
                case rel =>
                  refine ⟨k + 1, by go_num, by omega, by omega, (show TkJ x w (k + 1) v8 w8 from ⟨below_grown (below_call (below_alloc (Below.refl _ _)) (below_call HBD.out HBW.out)) hg8 (own_ge HSD.out.row (Nat.le_refl _)), _, _, StkW.push (s := ⟨a6, n6, c6, false⟩) (t := ([tokOf ⟨#[84, 82, 85, 69]⟩], false)) (HSD.out.below (below_alloc (Below.refl _ _))) ((HTR.out).below (below_alloc (Below.refl _ _))) rfl ho8 hg8, HNY.out⟩)⟩
            · have htb : (t == 1) = false := ne_i ht
              have HNY := Lib.hid (show ShI x (k + 1) ([] ++ [([(⟨2, ⟨#[]⟩, n', t, 0⟩ : Tok)], false)]) from by have h := HNX2.out; rw [show showP p [] = ([(⟨2, ⟨#[]⟩, n', t, 0⟩ : Tok)], false) from by rw [e]; unfold showP numP; simp only; rw [if_neg (fun h => ht h.2), if_pos trivial]] at h; exact h)
              clear e q0 q1 q2 ht hb1'
              go_upto_region 27 with fail
              obtain ⟨a6, ha6⟩ : ∃ a : Option Addr, a = some ⟨wc.heap.size, 0, none⟩ := ⟨_, rfl⟩
              have hsz6 : (wc.setCell ⟨B, 0, none⟩ (.slice (some ⟨wc.heap.size, 0, none⟩) 1 1)).heap.size = wc.heap.size := by simp
              have ht6 := World.ownsRow_lit (base := w.heap.size) (e := 38) (size := 5) (wc.setCell ⟨B, 0, none⟩ (.slice (some ⟨wc.heap.size, 0, none⟩) 1 1)) #[.int .i64 2, .string ⟨#[]⟩, .int .i64 n', .int .i64 t, .int .i64 0] 1 (by rw [hsz6]; exact HBCW.out.size) (by decide) (by rfl)
              rw [hsz6] at ht6
              have HT6 := Lib.hid ht6
              rw [← ha6] at HT6 ⊢
              clear ht6 hsz6
              clear ha6
              refine wp_cut (fun W => Below wr.heap.size wr W ∧ W.heap[B]? = some (.cells #[.slice a6 1 1, .bool false] 63 (0, 0)) ∧ TR w.heap.size W (.slice a6 1 1) [(⟨2, ⟨#[]⟩, n', t, 0⟩ : Tok)]) ⟨below_alloc (below_set (by simp; omega) HBC.out), hpA (set_box0 HSC.out), HT6.out⟩ ?_
              rintro wd ⟨hbd, hsd, htr⟩
              have HTR := Lib.hid htr
              clear htr
              obtain ⟨y0, y1⟩ := boxS hsd
              have HSD := Lib.hid (HST.out.below hbd)
              have HBD := Lib.hid hbd
              have hbz := hbd.size
              have hwz := HBW.out.size
              clear hsd hbd
              go_wp2_with (first
                | (at_builtin; refine wpList_app _ rfl (.tmp 146) (.tmp 148) 59 rfl w.heap.size 63 _ 2 32 Tryz.underlying59 info_sh rfl (by decide) encSh encSh_len one_Sh _ _ _ rfl (own_below HSD.out.row (below_alloc (Below.refl _ _))) _ [⟨a6, 1, 1, false⟩] rfl (by refine Sl.lit' ?_ _ _ _ _ _ _ ?_ ?_ ?_ ?_ <;> first | (intro _; rfl) | rfl | decide | (simp; done)) (by unfold maxLen; (try simp); (try omega)) (by (try simp); (try omega)) (by (try simp); (try omega)) ?_; intro v8 w8 ho8 hg8))
              go_roundg (L - (k + 1))
              case measure => omega
              case rel =>
                refine ⟨k + 1, by go_num, by omega, by omega, (show TkJ x w (k + 1) v8 w8 from ⟨below_grown (below_call (below_alloc (Below.refl _ _)) (below_call HBD.out HBW.out)) hg8 (own_ge HSD.out.row (Nat.le_refl _)), _, _, StkW.push (s := ⟨a6, 1, 1, false⟩) (t := ([(⟨2, ⟨#[]⟩, n', t, 0⟩ : Tok)], false)) (HSD.out.below (below_alloc (Below.refl _ _))) ((HTR.out).below (below_alloc (Below.refl _ _))) rfl ho8 hg8, HNY.out⟩)⟩
          · have q0 : p.k = 2 := by rw [e]; rfl
            have hsz : p.s.size ≤ 24 := by rw [e]; exact name_size hs
            rw [q0] at z0
            have HNY := Lib.hid (show ShI x (k + 1) ([] ++ [([tokOf p.s], false)]) from by have h := HNX2.out; rw [show showP p [] = ([tokOf p.s], false) from by rw [e]; rfl] at h; exact h)
            clear e q0 hs
            go_upto_region 27 with (first | (go_at_call 21; refine (tokens_s [p.s] [] [] [tokOf p.s] rfl _ _ _ _ (by refine Sl.lit' ?_ _ _ _ _ _ _ ?_ ?_ ?_ ?_ <;> first | (intro _; rfl) | rfl | decide | (simp; done)) (Sl.nil _ _ _) (Sl.nil _ _ _) (HG.out.g.below (below_call (by (repeat' (first | (with_reducible exact Below.refl _ _) | (with_reducible refine below_alloc ?_) | (with_reducible refine below_drew ?_) | (with_reducible refine below_drewN ?_) | (with_reducible refine below_set (by first | (simp; done) | (simp; omega)) ?_) | (with_reducible refine below_call (by with_reducible assumption) ?_)))) HBCW.out)) (fun u hu => by rw [List.mem_singleton.1 hu]; omega) (by decide) (by simp) (by simp) (by simp)).mono ?_; rintro e w6 ⟨a6, n6, c6, rfl, ho6, hb6⟩; have hb6' := (show Below wc.heap.size wc w6 by (repeat' (first | (with_reducible exact Below.refl _ _) | (with_reducible refine below_alloc ?_) | (with_reducible refine below_drew ?_) | (with_reducible refine below_drewN ?_) | (with_reducible refine below_set (by first | (simp; done) | (simp; omega)) ?_) | (with_reducible refine below_call (by with_reducible assumption) ?_)))); have hs6 := (hb6'.block B (by omega)).trans HSC.out; have HS6 := Lib.hid hs6; have HB6 := Lib.hid hb6'; obtain ⟨y0, y1⟩ := boxS hs6; obtain ⟨i0, i1⟩ := iceS hs6; clear hs6; have HT6 := Lib.hid (TR.base ho6 (show w.heap.size ≤ _ by have := HBCW.out.size; simp; omega)); clear ho6))
            refine wp_cut (fun W => Below wr.heap.size wr W ∧ W.heap[B]? = some (.cells #[.slice a6 n6 c6, .bool false] 63 (0, 0)) ∧ TR w.heap.size W (.slice a6 n6 c6) [tokOf p.s]) ⟨below_set (by simp; omega) (below_call HB6.out HBC.out), set_box0 HS6.out, HT6.out.set HS6.out⟩ ?_
            rintro wd ⟨hbd, hsd, htr⟩
            have HTR := Lib.hid htr
            clear htr
            obtain ⟨y0, y1⟩ := boxS hsd
            have HSD := Lib.hid (HST.out.below hbd)
            have HBD := Lib.hid hbd
            have hbz := hbd.size
            have hwz := HBW.out.size
            clear hsd hbd
            go_wp2_with (first
              | (at_builtin; refine wpList_app _ rfl (.tmp 146) (.tmp 148) 59 rfl w.heap.size 63 _ 2 32 Tryz.underlying59 info_sh rfl (by decide) encSh encSh_len one_Sh _ _ _ rfl (own_below HSD.out.row (below_alloc (Below.refl _ _))) _ [⟨a6, n6, c6, false⟩] rfl (by refine Sl.lit' ?_ _ _ _ _ _ _ ?_ ?_ ?_ ?_ <;> first | (intro _; rfl) | rfl | decide | (simp; done)) (by unfold maxLen; (try simp); (try omega)) (by (try simp); (try omega)) (by (try simp); (try omega)) ?_; intro v8 w8 ho8 hg8))
            go_roundg (L - (k + 1))
            case measure => omega
            case rel =>
              refine ⟨k + 1, by go_num, by omega, by omega, (show TkJ x w (k + 1) v8 w8 from ⟨below_grown (below_call (below_alloc (Below.refl _ _)) (below_call HBD.out HBW.out)) hg8 (own_ge HSD.out.row (Nat.le_refl _)), _, _, StkW.push (s := ⟨a6, n6, c6, false⟩) (t := ([tokOf p.s], false)) (HSD.out.below (below_alloc (Below.refl _ _))) ((HTR.out).below (below_alloc (Below.refl _ _))) rfl ho8 hg8, HNY.out⟩)⟩
          · exfalso
            have h := HN.out
            rw [e] at h
            cases h
          · have q0 : p.k = 4 := by rw [e]; rfl
            have hsz : p.s.size ≤ 24 := by rw [e]; exact name_size hs
            have hfz : p.f.size ≤ 24 := by rw [e]; exact word_size hw
            rw [q0] at z0
            have HNY := Lib.hid (show ShI x (k + 1) ([] ++ [([tokOf p.s, tokOf ⟨#[46]⟩, tokOf p.f], false)]) from by have h := HNX2.out; rw [show showP p [] = ([tokOf p.s, tokOf ⟨#[46]⟩, tokOf p.f], false) from by rw [e]; rfl] at h; exact h)
            clear e q0 hs hw
            go_upto_region 27 with (first | (go_at_call 21; refine (tokens_s [p.s, ⟨#[46]⟩, p.f] [] [] [tokOf p.s, tokOf ⟨#[46]⟩, tokOf p.f] rfl _ _ _ _ (by refine Sl.lit' ?_ _ _ _ _ _ _ ?_ ?_ ?_ ?_ <;> first | (intro _; rfl) | rfl | decide | (simp; done)) (Sl.nil _ _ _) (Sl.nil _ _ _) (HG.out.g.below (below_call (by (repeat' (first | (with_reducible exact Below.refl _ _) | (with_reducible refine below_alloc ?_) | (with_reducible refine below_drew ?_) | (with_reducible refine below_drewN ?_) | (with_reducible refine below_set (by first | (simp; done) | (simp; omega)) ?_) | (with_reducible refine below_call (by with_reducible assumption) ?_)))) HBCW.out)) (fun u hu => by simp only [List.mem_cons, List.not_mem_nil, or_false] at hu; rcases hu with rfl | rfl | rfl; (focus (omega)); (focus (decide)); (focus (omega))) (by decide) (by simp) (by simp) (by simp)).mono ?_; rintro e w6 ⟨a6, n6, c6, rfl, ho6, hb6⟩; have hb6' := (show Below wc.heap.size wc w6 by (repeat' (first | (with_reducible exact Below.refl _ _) | (with_reducible refine below_alloc ?_) | (with_reducible refine below_drew ?_) | (with_reducible refine below_drewN ?_) | (with_reducible refine below_set (by first | (simp; done) | (simp; omega)) ?_) | (with_reducible refine below_call (by with_reducible assumption) ?_)))); have hs6 := (hb6'.block B (by omega)).trans HSC.out; have HS6 := Lib.hid hs6; have HB6 := Lib.hid hb6'; obtain ⟨y0, y1⟩ := boxS hs6; obtain ⟨i0, i1⟩ := iceS hs6; clear hs6; have HT6 := Lib.hid (TR.base ho6 (show w.heap.size ≤ _ by have := HBCW.out.size; simp; omega)); clear ho6))
            refine wp_cut (fun W => Below wr.heap.size wr W ∧ W.heap[B]? = some (.cells #[.slice a6 n6 c6, .bool false] 63 (0, 0)) ∧ TR w.heap.size W (.slice a6 n6 c6) [tokOf p.s, tokOf ⟨#[46]⟩, tokOf p.f]) ⟨below_set (by simp; omega) (below_call HB6.out HBC.out), set_box0 HS6.out, HT6.out.set HS6.out⟩ ?_
            rintro wd ⟨hbd, hsd, htr⟩
            have HTR := Lib.hid htr
            clear htr
            obtain ⟨y0, y1⟩ := boxS hsd
            have HSD := Lib.hid (HST.out.below hbd)
            have HBD := Lib.hid hbd
            have hbz := hbd.size
            have hwz := HBW.out.size
            clear hsd hbd
            go_wp2_with (first
              | (at_builtin; refine wpList_app _ rfl (.tmp 146) (.tmp 148) 59 rfl w.heap.size 63 _ 2 32 Tryz.underlying59 info_sh rfl (by decide) encSh encSh_len one_Sh _ _ _ rfl (own_below HSD.out.row (below_alloc (Below.refl _ _))) _ [⟨a6, n6, c6, false⟩] rfl (by refine Sl.lit' ?_ _ _ _ _ _ _ ?_ ?_ ?_ ?_ <;> first | (intro _; rfl) | rfl | decide | (simp; done)) (by unfold maxLen; (try simp); (try omega)) (by (try simp); (try omega)) (by (try simp); (try omega)) ?_; intro v8 w8 ho8 hg8))
            go_roundg (L - (k + 1))
            case measure => omega
            case rel =>
              refine ⟨k + 1, by go_num, by omega, by omega, (show TkJ x w (k + 1) v8 w8 from ⟨below_grown (below_call (below_alloc (Below.refl _ _)) (below_call HBD.out HBW.out)) hg8 (own_ge HSD.out.row (Nat.le_refl _)), _, _, StkW.push (s := ⟨a6, n6, c6, false⟩) (t := ([tokOf p.s, tokOf ⟨#[46]⟩, tokOf p.f], false)) (HSD.out.below (below_alloc (Below.refl _ _))) ((HTR.out).below (below_alloc (Below.refl _ _))) rfl ho8 hg8, HNY.out⟩)⟩
          · exfalso
            have h := HN.out
            rw [e] at h
            unfold takesE opP at h
            simp only at h
            split at h
            · cases h
            · cases h
          · exfalso
            have h := HN.out
            rw [e] at h
            cases h
        · by_cases hcm : cap = vs.length
          · clear hst
            subst hcm
            go_upto_region 13 with (first
              | (go_at_call 19; refine (HT.out _).mono ?_; rintro e w2 ⟨rfl, hb2⟩)
              | (go_at_call 20; refine (HCL.out [] _ _ (sl_empty (by omega)) (by simp)).mono ?_; rintro e w3 ⟨v3, rfl, hs3, hb3⟩))
            have hz2 := hb2.size
            have hz3 := hb3.size
            simp at hz2
            refine wp_cut (fun W => Below wr.heap.size wr W ∧ W.heap[wr.heap.size]? = some (.cells #[.int .i64 p.k, .int .i64 p.n, .int .i64 p.t, .string p.s, .string p.f] 44 (0, 0)) ∧ W.heap[w3.heap.size]? = some (.cells #[.slice none 0 0, .bool false] 63 (0, 0)) ∧ w3.heap.size < W.heap.size ∧ Sl encSh 2 W v3 ([]))
              ⟨by (repeat' (first | (with_reducible exact Below.refl _ _) | (with_reducible refine below_alloc ?_) | (with_reducible refine below_drew ?_) | (with_reducible refine below_drewN ?_) | (with_reducible refine below_set (by first | (simp; done) | (simp; omega)) ?_) | (with_reducible refine below_call (by with_reducible assumption) ?_))), by (repeat' (first | (with_reducible exact hpN (by first | rfl | (simp; done) | (simp; omega))) | (with_reducible refine hpA ?_) | (with_reducible refine hpD ?_) | (with_reducible refine hpB (by with_reducible assumption) ?_))), by (repeat' (first | (with_reducible exact hpN (by first | rfl | (simp; done) | (simp; omega))) | (with_reducible refine hpA ?_) | (with_reducible refine hpD ?_) | (with_reducible refine hpB (by with_reducible assumption) ?_))), by simp, hs3.below (by (repeat' (first | (with_reducible exact Below.refl _ _) | (with_reducible refine below_alloc ?_) | (with_reducible refine below_drew ?_) | (with_reducible refine below_drewN ?_) | (with_reducible refine below_set (by first | (simp; done) | (simp; omega)) ?_) | (with_reducible refine below_call (by with_reducible assumption) ?_))))⟩ ?_
            rintro wc ⟨hbc, hpc, hsc, hszc, htop⟩
            obtain ⟨z0, z1, z2, z3, z4⟩ := box5 hpc
            obtain ⟨B, hB⟩ : ∃ B, w3.heap.size = B := ⟨_, rfl⟩
            rw [hB] at hsc hszc hz3 ⊢
            have hBr : wr.heap.size < B := by omega
            have hPw : wr.heap.size < wc.heap.size := by omega
            have HSC := Lib.hid hsc
            have HBC := Lib.hid hbc
            clear hpc hs3 hb2 hb3 hB hbc hz2 hz3 hsc
            have HBCW := Lib.hid (below_call HBC.out HBW.out)
            obtain ⟨y0, y1⟩ := boxS HSC.out
            obtain ⟨i0, i1⟩ := iceS HSC.out
            rcases may_cases hmp with ⟨n', t, hb1', e⟩ | ⟨s, hs, e⟩ | ⟨s, hs, e⟩ | ⟨s, f, hs, hw, e⟩ | ⟨n', h1, h2, e⟩ | ⟨t, h1, h2, e⟩
            · have q0 : p.k = 1 := by rw [e]; rfl
              have q1 : p.n = n' := by rw [e]; rfl
              have q2 : p.t = t := by rw [e]; rfl
              rw [q0] at z0
              rw [q1] at z1
              rw [q2] at z2
              by_cases ht : t = 1
              · subst ht
                rcases hb1' rfl with rfl | rfl
                · clear hb1'
                  have HNY := Lib.hid (show ShI x (k + 1) (ss ++ [([tokOf ⟨#[70, 65, 76, 83, 69]⟩], false)]) from by have h := HNX2.out; rw [show showP p [] = ([tokOf ⟨#[70, 65, 76, 83, 69]⟩], false) from by rw [e]; rfl] at h; exact h)
                  clear e q0 q1 q2
                  go_upto_region 27 with (first | (go_at_call 21; refine (tokens_s [⟨#[70, 65, 76, 83, 69]⟩] [] [] [tokOf ⟨#[70, 65, 76, 83, 69]⟩] rfl _ _ _ _ (by refine Sl.lit' ?_ _ _ _ _ _ _ ?_ ?_ ?_ ?_ <;> first | (intro _; rfl) | rfl | decide | (simp; done)) (Sl.nil _ _ _) (Sl.nil _ _ _) (HG.out.g.below (below_call (by (repeat' (first | (with_reducible exact Below.refl _ _) | (with_reducible refine below_alloc ?_) | (with_reducible refine below_drew ?_) | (with_reducible refine below_drewN ?_) | (with_reducible refine below_set (by first | (simp; done) | (simp; omega)) ?_) | (with_reducible refine below_call (by with_reducible assumption) ?_)))) HBCW.out)) (by decide) (by decide) (by simp) (by simp) (by simp)).mono ?_; rintro e w6 ⟨a6, n6, c6, rfl, ho6, hb6⟩; have hb6' := (show Below wc.heap.size wc w6 by (repeat' (first | (with_reducible exact Below.refl _ _) | (with_reducible refine below_alloc ?_) | (with_reducible refine below_drew ?_) | (with_reducible refine below_drewN ?_) | (with_reducible refine below_set (by first | (simp; done) | (simp; omega)) ?_) | (with_reducible refine below_call (by with_reducible assumption) ?_)))); have hs6 := (hb6'.block B (by omega)).trans HSC.out; have HS6 := Lib.hid hs6; have HB6 := Lib.hid hb6'; obtain ⟨y0, y1⟩ := boxS hs6; obtain ⟨i0, i1⟩ := iceS hs6; clear hs6; have HT6 := Lib.hid (TR.base ho6 (show w.heap.size ≤ _ by have := HBCW.out.size; simp; omega)); clear ho6))
                  refine wp_cut (fun W => Below wr.heap.size wr W ∧ W.heap[B]? = some (.cells #[.slice a6 n6 c6, .bool false] 63 (0, 0)) ∧ TR w.heap.size W (.slice a6 n6 c6) [tokOf ⟨#[70, 65, 76, 83, 69]⟩]) ⟨below_set (by simp; omega) (below_call HB6.out HBC.out), set_box0 HS6.out, HT6.out.set HS6.out⟩ ?_
                  rintro wd ⟨hbd, hsd, htr⟩
                  have HTR := Lib.hid htr
                  clear htr
                  obtain ⟨y0, y1⟩ := boxS hsd
                  have HSD := Lib.hid (HST.out.below hbd)
                  have HBD := Lib.hid hbd
                  have hbz := hbd.size
                  have hwz := HBW.out.size
                  clear hsd hbd
                  go_wp2_with (first
                    | (at_builtin; refine wpList_app _ rfl (.tmp 146) (.tmp 148) 59 rfl w.heap.size 63 _ 2 32 Tryz.underlying59 info_sh rfl (by decide) encSh encSh_len one_Sh _ _ _ rfl (own_below HSD.out.row (below_alloc (Below.refl _ _))) _ [⟨a6, n6, c6, false⟩] rfl (by refine Sl.lit' ?_ _ _ _ _ _ _ ?_ ?_ ?_ ?_ <;> first | (intro _; rfl) | rfl | decide | (simp; done)) (by unfold maxLen; (try simp); (try omega)) (by (try simp); (try omega)) (by (try simp); (try omega)) ?_; intro v8 w8 ho8 hg8))
                  go_roundg (L - (k + 1))
                  case measure => omega
                  case rel =>
                    refine ⟨k + 1, by go_num, by omega, by omega, (show TkJ x w (k + 1) v8 w8 from ⟨below_grown (below_call (below_alloc (Below.refl _ _)) (below_call HBD.out HBW.out)) hg8 (own_ge HSD.out.row (Nat.le_refl _)), _, _, StkW.push (s := ⟨a6, n6, c6, false⟩) (t := ([tokOf ⟨#[70, 65, 76, 83, 69]⟩], false)) (HSD.out.below (below_alloc (Below.refl _ _))) ((HTR.out).below (below_alloc (Below.refl _ _))) rfl ho8 hg8, HNY.out⟩)⟩
                · clear hb1'
                  have HNY := Lib.hid (show ShI x (k + 1) (ss ++ [([tokOf ⟨#[84, 82, 85, 69]⟩], false)]) from by have h := HNX2.out; rw [show showP p [] = ([tokOf ⟨#[84, 82, 85, 69]⟩], false) from by rw [e]; rfl] at h; exact h)
                  clear e q0 q1 q2
                  go_upto_region 27 with (first | (go_at_call 21; refine (tokens_s [⟨#[84, 82, 85, 69]⟩] [] [] [tokOf ⟨#[84, 82, 85, 69]⟩] rfl _ _ _ _ (by refine Sl.lit' ?_ _ _ _ _ _ _ ?_ ?_ ?_ ?_ <;> first | (intro _; rfl) | rfl | decide | (simp; done)) (Sl.nil _ _ _) (Sl.nil _ _ _) (HG.out.g.below (below_call (by (repeat' (first | (with_reducible exact Below.refl _ _) | (with_reducible refine below_alloc ?_) | (with_reducible refine below_drew ?_) | (with_reducible refine below_drewN ?_) | (with_reducible refine below_set (by first | (simp; done) | (simp; omega)) ?_) | (with_reducible refine below_call (by with_reducible assumption) ?_)))) HBCW.out)) (by decide) (by decide) (by simp) (by simp) (by simp)).mono ?_; rintro e w6 ⟨a6, n6, c6, rfl, ho6, hb6⟩; have hb6' := (show Below wc.heap.size wc w6 by (repeat' (first | (with_reducible exact Below.refl _ _) | (with_reducible refine below_alloc ?_) | (with_reducible refine below_drew ?_) | (with_reducible refine below_drewN ?_) | (with_reducible refine below_set (by first | (simp; done) | (simp; omega)) ?_) | (with_reducible refine below_call (by with_reducible assumption) ?_)))); have hs6 := (hb6'.block B (by omega)).trans HSC.out; have HS6 := Lib.hid hs6; have HB6 := Lib.hid hb6'; obtain ⟨y0, y1⟩ := boxS hs6; obtain ⟨i0, i1⟩ := iceS hs6; clear hs6; have HT6 := Lib.hid (TR.base ho6 (show w.heap.size ≤ _ by have := HBCW.out.size; simp; omega)); clear ho6))
                  refine wp_cut (fun W => Below wr.heap.size wr W ∧ W.heap[B]? = some (.cells #[.slice a6 n6 c6, .bool false] 63 (0, 0)) ∧ TR w.heap.size W (.slice a6 n6 c6) [tokOf ⟨#[84, 82, 85, 69]⟩]) ⟨below_set (by simp; omega) (below_call HB6.out HBC.out), set_box0 HS6.out, HT6.out.set HS6.out⟩ ?_
                  rintro wd ⟨hbd, hsd, htr⟩
                  have HTR := Lib.hid htr
                  clear htr
                  obtain ⟨y0, y1⟩ := boxS hsd
                  have HSD := Lib.hid (HST.out.below hbd)
                  have HBD := Lib.hid hbd
                  have hbz := hbd.size
                  have hwz := HBW.out.size
                  clear hsd hbd
                  go_wp2_with (first
                    | (at_builtin; refine wpList_app _ rfl (.tmp 146) (.tmp 148) 59 rfl w.heap.size 63 _ 2 32 Tryz.underlying59 info_sh rfl (by decide) encSh encSh_len one_Sh _ _ _ rfl (own_below HSD.out.row (below_alloc (Below.refl _ _))) _ [⟨a6, n6, c6, false⟩] rfl (by refine Sl.lit' ?_ _ _ _ _ _ _ ?_ ?_ ?_ ?_ <;> first | (intro _; rfl) | rfl | decide | (simp; done)) (by unfold maxLen; (try simp); (try omega)) (by (try simp); (try omega)) (by (try simp); (try omega)) ?_; intro v8 w8 ho8 hg8))
                  go_roundg (L - (k + 1))
                  case measure => omega
                  case rel =>
                    refine ⟨k + 1, by go_num, by omega, by omega, (show TkJ x w (k + 1) v8 w8 from ⟨below_grown (below_call (below_alloc (Below.refl _ _)) (below_call HBD.out HBW.out)) hg8 (own_ge HSD.out.row (Nat.le_refl _)), _, _, StkW.push (s := ⟨a6, n6, c6, false⟩) (t := ([tokOf ⟨#[84, 82, 85, 69]⟩], false)) (HSD.out.below (below_alloc (Below.refl _ _))) ((HTR.out).below (below_alloc (Below.refl _ _))) rfl ho8 hg8, HNY.out⟩)⟩
              · have htb : (t == 1) = false := ne_i ht
                have HNY := Lib.hid (show ShI x (k + 1) (ss ++ [([(⟨2, ⟨#[]⟩, n', t, 0⟩ : Tok)], false)]) from by have h := HNX2.out; rw [show showP p [] = ([(⟨2, ⟨#[]⟩, n', t, 0⟩ : Tok)], false) from by rw [e]; unfold showP numP; simp only; rw [if_neg (fun h => ht h.2), if_pos trivial]] at h; exact h)
                clear e q0 q1 q2 ht hb1'
                go_upto_region 27 with fail
                obtain ⟨a6, ha6⟩ : ∃ a : Option Addr, a = some ⟨wc.heap.size, 0, none⟩ := ⟨_, rfl⟩
                have hsz6 : (wc.setCell ⟨B, 0, none⟩ (.slice (some ⟨wc.heap.size, 0, none⟩) 1 1)).heap.size = wc.heap.size := by simp
                have ht6 := World.ownsRow_lit (base := w.heap.size) (e := 38) (size := 5) (wc.setCell ⟨B, 0, none⟩ (.slice (some ⟨wc.heap.size, 0, none⟩) 1 1)) #[.int .i64 2, .string ⟨#[]⟩, .int .i64 n', .int .i64 t, .int .i64 0] 1 (by rw [hsz6]; exact HBCW.out.size) (by decide) (by rfl)
                rw [hsz6] at ht6
                have HT6 := Lib.hid ht6
                rw [← ha6] at HT6 ⊢
                clear ht6 hsz6
                clear ha6
                refine wp_cut (fun W => Below wr.heap.size wr W ∧ W.heap[B]? = some (.cells #[.slice a6 1 1, .bool false] 63 (0, 0)) ∧ TR w.heap.size W (.slice a6 1 1) [(⟨2, ⟨#[]⟩, n', t, 0⟩ : Tok)]) ⟨below_alloc (below_set (by simp; omega) HBC.out), hpA (set_box0 HSC.out), HT6.out⟩ ?_
                rintro wd ⟨hbd, hsd, htr⟩
                have HTR := Lib.hid htr
                clear htr
                obtain ⟨y0, y1⟩ := boxS hsd
                have HSD := Lib.hid (HST.out.below hbd)
                have HBD := Lib.hid hbd
                have hbz := hbd.size
                have hwz := HBW.out.size
                clear hsd hbd
                go_wp2_with (first
                  | (at_builtin; refine wpList_app _ rfl (.tmp 146) (.tmp 148) 59 rfl w.heap.size 63 _ 2 32 Tryz.underlying59 info_sh rfl (by decide) encSh encSh_len one_Sh _ _ _ rfl (own_below HSD.out.row (below_alloc (Below.refl _ _))) _ [⟨a6, 1, 1, false⟩] rfl (by refine Sl.lit' ?_ _ _ _ _ _ _ ?_ ?_ ?_ ?_ <;> first | (intro _; rfl) | rfl | decide | (simp; done)) (by unfold maxLen; (try simp); (try omega)) (by (try simp); (try omega)) (by (try simp); (try omega)) ?_; intro v8 w8 ho8 hg8))
                go_roundg (L - (k + 1))
                case measure => omega
                case rel =>
                  refine ⟨k + 1, by go_num, by omega, by omega, (show TkJ x w (k + 1) v8 w8 from ⟨below_grown (below_call (below_alloc (Below.refl _ _)) (below_call HBD.out HBW.out)) hg8 (own_ge HSD.out.row (Nat.le_refl _)), _, _, StkW.push (s := ⟨a6, 1, 1, false⟩) (t := ([(⟨2, ⟨#[]⟩, n', t, 0⟩ : Tok)], false)) (HSD.out.below (below_alloc (Below.refl _ _))) ((HTR.out).below (below_alloc (Below.refl _ _))) rfl ho8 hg8, HNY.out⟩)⟩
            · have q0 : p.k = 2 := by rw [e]; rfl
              have hsz : p.s.size ≤ 24 := by rw [e]; exact name_size hs
              rw [q0] at z0
              have HNY := Lib.hid (show ShI x (k + 1) (ss ++ [([tokOf p.s], false)]) from by have h := HNX2.out; rw [show showP p [] = ([tokOf p.s], false) from by rw [e]; rfl] at h; exact h)
              clear e q0 hs
              go_upto_region 27 with (first | (go_at_call 21; refine (tokens_s [p.s] [] [] [tokOf p.s] rfl _ _ _ _ (by refine Sl.lit' ?_ _ _ _ _ _ _ ?_ ?_ ?_ ?_ <;> first | (intro _; rfl) | rfl | decide | (simp; done)) (Sl.nil _ _ _) (Sl.nil _ _ _) (HG.out.g.below (below_call (by (repeat' (first | (with_reducible exact Below.refl _ _) | (with_reducible refine below_alloc ?_) | (with_reducible refine below_drew ?_) | (with_reducible refine below_drewN ?_) | (with_reducible refine below_set (by first | (simp; done) | (simp; omega)) ?_) | (with_reducible refine below_call (by with_reducible assumption) ?_)))) HBCW.out)) (fun u hu => by rw [List.mem_singleton.1 hu]; omega) (by decide) (by simp) (by simp) (by simp)).mono ?_; rintro e w6 ⟨a6, n6, c6, rfl, ho6, hb6⟩; have hb6' := (show Below wc.heap.size wc w6 by (repeat' (first | (with_reducible exact Below.refl _ _) | (with_reducible refine below_alloc ?_) | (with_reducible refine below_drew ?_) | (with_reducible refine below_drewN ?_) | (with_reducible refine below_set (by first | (simp; done) | (simp; omega)) ?_) | (with_reducible refine below_call (by with_reducible assumption) ?_)))); have hs6 := (hb6'.block B (by omega)).trans HSC.out; have HS6 := Lib.hid hs6; have HB6 := Lib.hid hb6'; obtain ⟨y0, y1⟩ := boxS hs6; obtain ⟨i0, i1⟩ := iceS hs6; clear hs6; have HT6 := Lib.hid (TR.base ho6 (show w.heap.size ≤ _ by have := HBCW.out.size; simp; omega)); clear ho6))
              refine wp_cut (fun W => Below wr.heap.size wr W ∧ W.heap[B]? = some (.cells #[.slice a6 n6 c6, .bool false] 63 (0, 0)) ∧ TR w.heap.size W (.slice a6 n6 c6) [tokOf p.s]) ⟨below_set (by simp; omega) (below_call HB6.out HBC.out), set_box0 HS6.out, HT6.out.set HS6.out⟩ ?_
              rintro wd ⟨hbd, hsd, htr⟩
              have HTR := Lib.hid htr
              clear htr
              obtain ⟨y0, y1⟩ := boxS hsd
              have HSD := Lib.hid (HST.out.below hbd)
              have HBD := Lib.hid hbd
              have hbz := hbd.size
              have hwz := HBW.out.size
              clear hsd hbd
              go_wp2_with (first
                | (at_builtin; refine wpList_app _ rfl (.tmp 146) (.tmp 148) 59 rfl w.heap.size 63 _ 2 32 Tryz.underlying59 info_sh rfl (by decide) encSh encSh_len one_Sh _ _ _ rfl (own_below HSD.out.row (below_alloc (Below.refl _ _))) _ [⟨a6, n6, c6, false⟩] rfl (by refine Sl.lit' ?_ _ _ _ _ _ _ ?_ ?_ ?_ ?_ <;> first | (intro _; rfl) | rfl | decide | (simp; done)) (by unfold maxLen; (try simp); (try omega)) (by (try simp); (try omega)) (by (try simp); (try omega)) ?_; intro v8 w8 ho8 hg8))
              go_roundg (L - (k + 1))
              case measure => omega
              case rel =>
                refine ⟨k + 1, by go_num, by omega, by omega, (show TkJ x w (k + 1) v8 w8 from ⟨below_grown (below_call (below_alloc (Below.refl _ _)) (below_call HBD.out HBW.out)) hg8 (own_ge HSD.out.row (Nat.le_refl _)), _, _, StkW.push (s := ⟨a6, n6, c6, false⟩) (t := ([tokOf p.s], false)) (HSD.out.below (below_alloc (Below.refl _ _))) ((HTR.out).below (below_alloc (Below.refl _ _))) rfl ho8 hg8, HNY.out⟩)⟩
            · exfalso
              have h := HN.out
              rw [e] at h
              cases h
            · have q0 : p.k = 4 := by rw [e]; rfl
              have hsz : p.s.size ≤ 24 := by rw [e]; exact name_size hs
              have hfz : p.f.size ≤ 24 := by rw [e]; exact word_size hw
              rw [q0] at z0
              have HNY := Lib.hid (show ShI x (k + 1) (ss ++ [([tokOf p.s, tokOf ⟨#[46]⟩, tokOf p.f], false)]) from by have h := HNX2.out; rw [show showP p [] = ([tokOf p.s, tokOf ⟨#[46]⟩, tokOf p.f], false) from by rw [e]; rfl] at h; exact h)
              clear e q0 hs hw
              go_upto_region 27 with (first | (go_at_call 21; refine (tokens_s [p.s, ⟨#[46]⟩, p.f] [] [] [tokOf p.s, tokOf ⟨#[46]⟩, tokOf p.f] rfl _ _ _ _ (by refine Sl.lit' ?_ _ _ _ _ _ _ ?_ ?_ ?_ ?_ <;> first | (intro _; rfl) | rfl | decide | (simp; done)) (Sl.nil _ _ _) (Sl.nil _ _ _) (HG.out.g.below (below_call (by (repeat' (first | (with_reducible exact Below.refl _ _) | (with_reducible refine below_alloc ?_) | (with_reducible refine below_drew ?_) | (with_reducible refine below_drewN ?_) | (with_reducible refine below_set (by first | (simp; done) | (simp; omega)) ?_) | (with_reducible refine below_call (by with_reducible assumption) ?_)))) HBCW.out)) (fun u hu => by simp only [List.mem_cons, List.not_mem_nil, or_false] at hu; rcases hu with rfl | rfl | rfl; (focus (omega)); (focus (decide)); (focus (omega))) (by decide) (by simp) (by simp) (by simp)).mono ?_; rintro e w6 ⟨a6, n6, c6, rfl, ho6, hb6⟩; have hb6' := (show Below wc.heap.size wc w6 by (repeat' (first | (with_reducible exact Below.refl _ _) | (with_reducible refine below_alloc ?_) | (with_reducible refine below_drew ?_) | (with_reducible refine below_drewN ?_) | (with_reducible refine below_set (by first | (simp; done) | (simp; omega)) ?_) | (with_reducible refine below_call (by with_reducible assumption) ?_)))); have hs6 := (hb6'.block B (by omega)).trans HSC.out; have HS6 := Lib.hid hs6; have HB6 := Lib.hid hb6'; obtain ⟨y0, y1⟩ := boxS hs6; obtain ⟨i0, i1⟩ := iceS hs6; clear hs6; have HT6 := Lib.hid (TR.base ho6 (show w.heap.size ≤ _ by have := HBCW.out.size; simp; omega)); clear ho6))
              refine wp_cut (fun W => Below wr.heap.size wr W ∧ W.heap[B]? = some (.cells #[.slice a6 n6 c6, .bool false] 63 (0, 0)) ∧ TR w.heap.size W (.slice a6 n6 c6) [tokOf p.s, tokOf ⟨#[46]⟩, tokOf p.f]) ⟨below_set (by simp; omega) (below_call HB6.out HBC.out), set_box0 HS6.out, HT6.out.set HS6.out⟩ ?_
              rintro wd ⟨hbd, hsd, htr⟩
              have HTR := Lib.hid htr
              clear htr
              obtain ⟨y0, y1⟩ := boxS hsd
              have HSD := Lib.hid (HST.out.below hbd)
              have HBD := Lib.hid hbd
              have hbz := hbd.size
              have hwz := HBW.out.size
              clear hsd hbd
              go_wp2_with (first
                | (at_builtin; refine wpList_app _ rfl (.tmp 146) (.tmp 148) 59 rfl w.heap.size 63 _ 2 32 Tryz.underlying59 info_sh rfl (by decide) encSh encSh_len one_Sh _ _ _ rfl (own_below HSD.out.row (below_alloc (Below.refl _ _))) _ [⟨a6, n6, c6, false⟩] rfl (by refine Sl.lit' ?_ _ _ _ _ _ _ ?_ ?_ ?_ ?_ <;> first | (intro _; rfl) | rfl | decide | (simp; done)) (by unfold maxLen; (try simp); (try omega)) (by (try simp); (try omega)) (by (try simp); (try omega)) ?_; intro v8 w8 ho8 hg8))
              go_roundg (L - (k + 1))
              case measure => omega
              case rel =>
                refine ⟨k + 1, by go_num, by omega, by omega, (show TkJ x w (k + 1) v8 w8 from ⟨below_grown (below_call (below_alloc (Below.refl _ _)) (below_call HBD.out HBW.out)) hg8 (own_ge HSD.out.row (Nat.le_refl _)), _, _, StkW.push (s := ⟨a6, n6, c6, false⟩) (t := ([tokOf p.s, tokOf ⟨#[46]⟩, tokOf p.f], false)) (HSD.out.below (below_alloc (Below.refl _ _))) ((HTR.out).below (below_alloc (Below.refl _ _))) rfl ho8 hg8, HNY.out⟩)⟩
            · exfalso
              have h := HN.out
              rw [e] at h
              unfold takesE opP at h
              simp only at h
              split at h
              · cases h
              · cases h
            · exfalso
              have h := HN.out
              rw [e] at h
              cases h
          · clear hst
            have hcapz : (vs.length : Int) ≤ (cap : Int) := by omega
            have h00 : (0 : Int) ≤ (vs.length : Int) := Int.natCast_nonneg _
            unfold maxLen at hmax
            go_upto_region 13 with (first
              | (go_at_call 19; refine (HT.out _).mono ?_; rintro e w2 ⟨rfl, hb2⟩)
              | (go_at_call 20; refine (HCL.out [] _ _ (sl_empty (by omega)) (by simp)).mono ?_; rintro e w3 ⟨v3, rfl, hs3, hb3⟩))
            have hz2 := hb2.size
            have hz3 := hb3.size
            simp at hz2
            refine wp_cut (fun W => Below wr.heap.size wr W ∧ W.heap[wr.heap.size]? = some (.cells #[.int .i64 p.k, .int .i64 p.n, .int .i64 p.t, .string p.s, .string p.f] 44 (0, 0)) ∧ W.heap[w3.heap.size]? = some (.cells #[.slice none 0 0, .bool false] 63 (0, 0)) ∧ w3.heap.size < W.heap.size ∧ Sl encSh 2 W v3 ([]))
              ⟨by (repeat' (first | (with_reducible exact Below.refl _ _) | (with_reducible refine below_alloc ?_) | (with_reducible refine below_drew ?_) | (with_reducible refine below_drewN ?_) | (with_reducible refine below_set (by first | (simp; done) | (simp; omega)) ?_) | (with_reducible refine below_call (by with_reducible assumption) ?_))), by (repeat' (first | (with_reducible exact hpN (by first | rfl | (simp; done) | (simp; omega))) | (with_reducible refine hpA ?_) | (with_reducible refine hpD ?_) | (with_reducible refine hpB (by with_reducible assumption) ?_))), by (repeat' (first | (with_reducible exact hpN (by first | rfl | (simp; done) | (simp; omega))) | (with_reducible refine hpA ?_) | (with_reducible refine hpD ?_) | (with_reducible refine hpB (by with_reducible assumption) ?_))), by simp, hs3.below (by (repeat' (first | (with_reducible exact Below.refl _ _) | (with_reducible refine below_alloc ?_) | (with_reducible refine below_drew ?_) | (with_reducible refine below_drewN ?_) | (with_reducible refine below_set (by first | (simp; done) | (simp; omega)) ?_) | (with_reducible refine below_call (by with_reducible assumption) ?_))))⟩ ?_
            rintro wc ⟨hbc, hpc, hsc, hszc, htop⟩
            obtain ⟨z0, z1, z2, z3, z4⟩ := box5 hpc
            obtain ⟨B, hB⟩ : ∃ B, w3.heap.size = B := ⟨_, rfl⟩
            rw [hB] at hsc hszc hz3 ⊢
            have hBr : wr.heap.size < B := by omega
            have hPw : wr.heap.size < wc.heap.size := by omega
            have HSC := Lib.hid hsc
            have HBC := Lib.hid hbc
            clear hpc hs3 hb2 hb3 hB hbc hz2 hz3 hsc
            have HBCW := Lib.hid (below_call HBC.out HBW.out)
            obtain ⟨y0, y1⟩ := boxS HSC.out
            obtain ⟨i0, i1⟩ := iceS HSC.out
            rcases may_cases hmp with ⟨n', t, hb1', e⟩ | ⟨s, hs, e⟩ | ⟨s, hs, e⟩ | ⟨s, f, hs, hw, e⟩ | ⟨n', h1, h2, e⟩ | ⟨t, h1, h2, e⟩
            · have q0 : p.k = 1 := by rw [e]; rfl
              have q1 : p.n = n' := by rw [e]; rfl
              have q2 : p.t = t := by rw [e]; rfl
              rw [q0] at z0
              rw [q1] at z1
              rw [q2] at z2
              by_cases ht : t = 1
              · subst ht
                rcases hb1' rfl with rfl | rfl
                · clear hb1'
                  have HNY := Lib.hid (show ShI x (k + 1) (ss ++ [([tokOf ⟨#[70, 65, 76, 83, 69]⟩], false)]) from by have h := HNX2.out; rw [show showP p [] = ([tokOf ⟨#[70, 65, 76, 83, 69]⟩], false) from by rw [e]; rfl] at h; exact h)
                  clear e q0 q1 q2
                  go_upto_region 27 with (first | (go_at_call 21; refine (tokens_s [⟨#[70, 65, 76, 83, 69]⟩] [] [] [tokOf ⟨#[70, 65, 76, 83, 69]⟩] rfl _ _ _ _ (by refine Sl.lit' ?_ _ _ _ _ _ _ ?_ ?_ ?_ ?_ <;> first | (intro _; rfl) | rfl | decide | (simp; done)) (Sl.nil _ _ _) (Sl.nil _ _ _) (HG.out.g.below (below_call (by (repeat' (first | (with_reducible exact Below.refl _ _) | (with_reducible refine below_alloc ?_) | (with_reducible refine below_drew ?_) | (with_reducible refine below_drewN ?_) | (with_reducible refine below_set (by first | (simp; done) | (simp; omega)) ?_) | (with_reducible refine below_call (by with_reducible assumption) ?_)))) HBCW.out)) (by decide) (by decide) (by simp) (by simp) (by simp)).mono ?_; rintro e w6 ⟨a6, n6, c6, rfl, ho6, hb6⟩; have hb6' := (show Below wc.heap.size wc w6 by (repeat' (first | (with_reducible exact Below.refl _ _) | (with_reducible refine below_alloc ?_) | (with_reducible refine below_drew ?_) | (with_reducible refine below_drewN ?_) | (with_reducible refine below_set (by first | (simp; done) | (simp; omega)) ?_) | (with_reducible refine below_call (by with_reducible assumption) ?_)))); have hs6 := (hb6'.block B (by omega)).trans HSC.out; have HS6 := Lib.hid hs6; have HB6 := Lib.hid hb6'; obtain ⟨y0, y1⟩ := boxS hs6; obtain ⟨i0, i1⟩ := iceS hs6; clear hs6; have HT6 := Lib.hid (TR.base ho6 (show w.heap.size ≤ _ by have := HBCW.out.size; simp; omega)); clear ho6))
                  refine wp_cut (fun W => Below wr.heap.size wr W ∧ W.heap[B]? = some (.cells #[.slice a6 n6 c6, .bool false] 63 (0, 0)) ∧ TR w.heap.size W (.slice a6 n6 c6) [tokOf ⟨#[70, 65, 76, 83, 69]⟩]) ⟨below_set (by simp; omega) (below_call HB6.out HBC.out), set_box0 HS6.out, HT6.out.set HS6.out⟩ ?_
                  rintro wd ⟨hbd, hsd, htr⟩
                  have HTR := Lib.hid htr
                  clear htr
                  obtain ⟨y0, y1⟩ := boxS hsd
                  have HSD := Lib.hid (HST.out.below hbd)
                  have HBD := Lib.hid hbd
                  have hbz := hbd.size
                  have hwz := HBW.out.size
                  clear hsd hbd
                  go_wp2_with (first
                    | (at_builtin; refine wpList_app _ rfl (.tmp 146) (.tmp 148) 59 rfl w.heap.size 63 _ 2 32 Tryz.underlying59 info_sh rfl (by decide) encSh encSh_len one_Sh _ _ _ rfl (own_below HSD.out.row (below_alloc (Below.refl _ _))) _ [⟨a6, n6, c6, false⟩] rfl (by refine Sl.lit' ?_ _ _ _ _ _ _ ?_ ?_ ?_ ?_ <;> first | (intro _; rfl) | rfl | decide | (simp; done)) (by unfold maxLen; (try simp); (try omega)) (by (try simp); (try omega)) (by (try simp); (try omega)) ?_; intro v8 w8 ho8 hg8))
                  go_roundg (L - (k + 1))
                  case measure => omega
                  case rel =>
                    refine ⟨k + 1, by go_num, by omega, by omega, (show TkJ x w (k + 1) v8 w8 from ⟨below_grown (below_call (below_alloc (Below.refl _ _)) (below_call HBD.out HBW.out)) hg8 (own_ge HSD.out.row (Nat.le_refl _)), _, _, StkW.push (s := ⟨a6, n6, c6, false⟩) (t := ([tokOf ⟨#[70, 65, 76, 83, 69]⟩], false)) (HSD.out.below (below_alloc (Below.refl _ _))) ((HTR.out).below (below_alloc (Below.refl _ _))) rfl ho8 hg8, HNY.out⟩)⟩
                · clear hb1'
                  have HNY := Lib.hid (show ShI x (k + 1) (ss ++ [([tokOf ⟨#[84, 82, 85, 69]⟩], false)]) from by have h := HNX2.out; rw [show showP p [] = ([tokOf ⟨#[84, 82, 85, 69]⟩], false) from by rw [e]; rfl] at h; exact h)
                  clear e q0 q1 q2
                  go_upto_region 27 with (first | (go_at_call 21; refine (tokens_s [⟨#[84, 82, 85, 69]⟩] [] [] [tokOf ⟨#[84, 82, 85, 69]⟩] rfl _ _ _ _ (by refine Sl.lit' ?_ _ _ _ _ _ _ ?_ ?_ ?_ ?_ <;> first | (intro _; rfl) | rfl | decide | (simp; done)) (Sl.nil _ _ _) (Sl.nil _ _ _) (HG.out.g.below (below_call (by (repeat' (first | (with_reducible exact Below.refl _ _) | (with_reducible refine below_alloc ?_) | (with_reducible refine below_drew ?_) | (with_reducible refine below_drewN ?_) | (with_reducible refine below_set (by first | (simp; done) | (simp; omega)) ?_) | (with_reducible refine below_call (by with_reducible assumption) ?_)))) HBCW.out)) (by decide) (by decide) (by simp) (by simp) (by simp)).mono ?_; rintro e w6 ⟨a6, n6, c6, rfl, ho6, hb6⟩; have hb6' := (show Below wc.heap.size wc w6 by (repeat' (first | (with_reducible exact Below.refl _ _) | (with_reducible refine below_alloc ?_) | (with_reducible refine below_drew ?_) | (with_reducible refine below_drewN ?_) | (with_reducible refine below_set (by first | (simp; done) | (simp; omega)) ?_) | (with_reducible refine below_call (by with_reducible assumption) ?_)))); have hs6 := (hb6'.block B (by omega)).trans HSC.out; have HS6 := Lib.hid hs6; have HB6 := Lib.hid hb6'; obtain ⟨y0, y1⟩ := boxS hs6; obtain ⟨i0, i1⟩ := iceS hs6; clear hs6; have HT6 := Lib.hid (TR.base ho6 (show w.heap.size ≤ _ by have := HBCW.out.size; simp; omega)); clear ho6))
                  refine wp_cut (fun W => Below wr.heap.size wr W ∧ W.heap[B]? = some (.cells #[.slice a6 n6 c6, .bool false] 63 (0, 0)) ∧ TR w.heap.size W (.slice a6 n6 c6) [tokOf ⟨#[84, 82, 85, 69]⟩]) ⟨below_set (by simp; omega) (below_call HB6.out HBC.out), set_box0 HS6.out, HT6.out.set HS6.out⟩ ?_
                  rintro wd ⟨hbd, hsd, htr⟩
                  have HTR := Lib.hid htr
                  clear htr
                  obtain ⟨y0, y1⟩ := boxS hsd
                  have HSD := Lib.hid (HST.out.below hbd)
                  have HBD := Lib.hid hbd
                  have hbz := hbd.size
                  have hwz := HBW.out.size
                  clear hsd hbd
                  go_wp2_with (first
                    | (at_builtin; refine wpList_app _ rfl (.tmp 146) (.tmp 148) 59 rfl w.heap.size 63 _ 2 32 Tryz.underlying59 info_sh rfl (by decide) encSh encSh_len one_Sh _ _ _ rfl (own_below HSD.out.row (below_alloc (Below.refl _ _))) _ [⟨a6, n6, c6, false⟩] rfl (by refine Sl.lit' ?_ _ _ _ _ _ _ ?_ ?_ ?_ ?_ <;> first | (intro _; rfl) | rfl | decide | (simp; done)) (by unfold maxLen; (try simp); (try omega)) (by (try simp); (try omega)) (by (try simp); (try omega)) ?_; intro v8 w8 ho8 hg8))
                  go_roundg (L - (k + 1))
                  case measure => omega
                  case rel =>
                    refine ⟨k + 1, by go_num, by omega, by omega, (show TkJ x w (k + 1) v8 w8 from ⟨below_grown (below_call (below_alloc (Below.refl _ _)) (below_call HBD.out HBW.out)) hg8 (own_ge HSD.out.row (Nat.le_refl _)), _, _, StkW.push (s := ⟨a6, n6, c6, false⟩) (t := ([tokOf ⟨#[84, 82, 85, 69]⟩], false)) (HSD.out.below (below_alloc (Below.refl _ _))) ((HTR.out).below (below_alloc (Below.refl _ _))) rfl ho8 hg8, HNY.out⟩)⟩
              · have htb : (t == 1) = false := ne_i ht
                have HNY := Lib.hid (show ShI x (k + 1) (ss ++ [([(⟨2, ⟨#[]⟩, n', t, 0⟩ : Tok)], false)]) from by have h := HNX2.out; rw [show showP p [] = ([(⟨2, ⟨#[]⟩, n', t, 0⟩ : Tok)], false) from by rw [e]; unfold showP numP; simp only; rw [if_neg (fun h => ht h.2), if_pos trivial]] at h; exact h)
                clear e q0 q1 q2 ht hb1'
                go_upto_region 27 with fail
                obtain ⟨a6, ha6⟩ : ∃ a : Option Addr, a = some ⟨wc.heap.size, 0, none⟩ := ⟨_, rfl⟩
                have hsz6 : (wc.setCell ⟨B, 0, none⟩ (.slice (some ⟨wc.heap.size, 0, none⟩) 1 1)).heap.size = wc.heap.size := by simp
                have ht6 := World.ownsRow_lit (base := w.heap.size) (e := 38) (size := 5) (wc.setCell ⟨B, 0, none⟩ (.slice (some ⟨wc.heap.size, 0, none⟩) 1 1)) #[.int .i64 2, .string ⟨#[]⟩, .int .i64 n', .int .i64 t, .int .i64 0] 1 (by rw [hsz6]; exact HBCW.out.size) (by decide) (by rfl)
                rw [hsz6] at ht6
                have HT6 := Lib.hid ht6
                rw [← ha6] at HT6 ⊢
                clear ht6 hsz6
                clear ha6
                refine wp_cut (fun W => Below wr.heap.size wr W ∧ W.heap[B]? = some (.cells #[.slice a6 1 1, .bool false] 63 (0, 0)) ∧ TR w.heap.size W (.slice a6 1 1) [(⟨2, ⟨#[]⟩, n', t, 0⟩ : Tok)]) ⟨below_alloc (below_set (by simp; omega) HBC.out), hpA (set_box0 HSC.out), HT6.out⟩ ?_
                rintro wd ⟨hbd, hsd, htr⟩
                have HTR := Lib.hid htr
                clear htr
                obtain ⟨y0, y1⟩ := boxS hsd
                have HSD := Lib.hid (HST.out.below hbd)
                have HBD := Lib.hid hbd
                have hbz := hbd.size
                have hwz := HBW.out.size
                clear hsd hbd
                go_wp2_with (first
                  | (at_builtin; refine wpList_app _ rfl (.tmp 146) (.tmp 148) 59 rfl w.heap.size 63 _ 2 32 Tryz.underlying59 info_sh rfl (by decide) encSh encSh_len one_Sh _ _ _ rfl (own_below HSD.out.row (below_alloc (Below.refl _ _))) _ [⟨a6, 1, 1, false⟩] rfl (by refine Sl.lit' ?_ _ _ _ _ _ _ ?_ ?_ ?_ ?_ <;> first | (intro _; rfl) | rfl | decide | (simp; done)) (by unfold maxLen; (try simp); (try omega)) (by (try simp); (try omega)) (by (try simp); (try omega)) ?_; intro v8 w8 ho8 hg8))
                go_roundg (L - (k + 1))
                case measure => omega
                case rel =>
                  refine ⟨k + 1, by go_num, by omega, by omega, (show TkJ x w (k + 1) v8 w8 from ⟨below_grown (below_call (below_alloc (Below.refl _ _)) (below_call HBD.out HBW.out)) hg8 (own_ge HSD.out.row (Nat.le_refl _)), _, _, StkW.push (s := ⟨a6, 1, 1, false⟩) (t := ([(⟨2, ⟨#[]⟩, n', t, 0⟩ : Tok)], false)) (HSD.out.below (below_alloc (Below.refl _ _))) ((HTR.out).below (below_alloc (Below.refl _ _))) rfl ho8 hg8, HNY.out⟩)⟩
            · have q0 : p.k = 2 := by rw [e]; rfl
              have hsz : p.s.size ≤ 24 := by rw [e]; exact name_size hs
              rw [q0] at z0
              have HNY := Lib.hid (show ShI x (k + 1) (ss ++ [([tokOf p.s], false)]) from by have h := HNX2.out; rw [show showP p [] = ([tokOf p.s], false) from by rw [e]; rfl] at h; exact h)
              clear e q0 hs
              go_upto_region 27 with (first | (go_at_call 21; refine (tokens_s [p.s] [] [] [tokOf p.s] rfl _ _ _ _ (by refine Sl.lit' ?_ _ _ _ _ _ _ ?_ ?_ ?_ ?_ <;> first | (intro _; rfl) | rfl | decide | (simp; done)) (Sl.nil _ _ _) (Sl.nil _ _ _) (HG.out.g.below (below_call (by (repeat' (first | (with_reducible exact Below.refl _ _) | (with_reducible refine below_alloc ?_) | (with_reducible refine below_drew ?_) | (with_reducible refine below_drewN ?_) | (with_reducible refine below_set (by first | (simp; done) | (simp; omega)) ?_) | (with_reducible refine below_call (by with_reducible assumption) ?_)))) HBCW.out)) (fun u hu => by rw [List.mem_singleton.1 hu]; omega) (by decide) (by simp) (by simp) (by simp)).mono ?_; rintro e w6 ⟨a6, n6, c6, rfl, ho6, hb6⟩; have hb6' := (show Below wc.heap.size wc w6 by (repeat' (first | (with_reducible exact Below.refl _ _) | (with_reducible refine below_alloc ?_) | (with_reducible refine below_drew ?_) | (with_reducible refine below_drewN ?_) | (with_reducible refine below_set (by first | (simp; done) | (simp; omega)) ?_) | (with_reducible refine below_call (by with_reducible assumption) ?_)))); have hs6 := (hb6'.block B (by omega)).trans HSC.out; have HS6 := Lib.hid hs6; have HB6 := Lib.hid hb6'; obtain ⟨y0, y1⟩ := boxS hs6; obtain ⟨i0, i1⟩ := iceS hs6; clear hs6; have HT6 := Lib.hid (TR.base ho6 (show w.heap.size ≤ _ by have := HBCW.out.size; simp; omega)); clear ho6))
              refine wp_cut (fun W => Below wr.heap.size wr W ∧ W.heap[B]? = some (.cells #[.slice a6 n6 c6, .bool false] 63 (0, 0)) ∧ TR w.heap.size W (.slice a6 n6 c6) [tokOf p.s]) ⟨below_set (by simp; omega) (below_call HB6.out HBC.out), set_box0 HS6.out, HT6.out.set HS6.out⟩ ?_
              rintro wd ⟨hbd, hsd, htr⟩
              have HTR := Lib.hid htr
              clear htr
              obtain ⟨y0, y1⟩ := boxS hsd
              have HSD := Lib.hid (HST.out.below hbd)
              have HBD := Lib.hid hbd
              have hbz := hbd.size
              have hwz := HBW.out.size
              clear hsd hbd
              go_wp2_with (first
                | (at_builtin; refine wpList_app _ rfl (.tmp 146) (.tmp 148) 59 rfl w.heap.size 63 _ 2 32 Tryz.underlying59 info_sh rfl (by decide) encSh encSh_len one_Sh _ _ _ rfl (own_below HSD.out.row (below_alloc (Below.refl _ _))) _ [⟨a6, n6, c6, false⟩] rfl (by refine Sl.lit' ?_ _ _ _ _ _ _ ?_ ?_ ?_ ?_ <;> first | (intro _; rfl) | rfl | decide | (simp; done)) (by unfold maxLen; (try simp); (try omega)) (by (try simp); (try omega)) (by (try simp); (try omega)) ?_; intro v8 w8 ho8 hg8))
              go_roundg (L - (k + 1))
              case measure => omega
              case rel =>
                refine ⟨k + 1, by go_num, by omega, by omega, (show TkJ x w (k + 1) v8 w8 from ⟨below_grown (below_call (below_alloc (Below.refl _ _)) (below_call HBD.out HBW.out)) hg8 (own_ge HSD.out.row (Nat.le_refl _)), _, _, StkW.push (s := ⟨a6, n6, c6, false⟩) (t := ([tokOf p.s], false)) (HSD.out.below (below_alloc (Below.refl _ _))) ((HTR.out).below (below_alloc (Below.refl _ _))) rfl ho8 hg8, HNY.out⟩)⟩
            · exfalso
              have h := HN.out
              rw [e] at h
              cases h
            · have q0 : p.k = 4 := by rw [e]; rfl
              have hsz : p.s.size ≤ 24 := by rw [e]; exact name_size hs
              have hfz : p.f.size ≤ 24 := by rw [e]; exact word_size hw
              rw [q0] at z0
              have HNY := Lib.hid (show ShI x (k + 1) (ss ++ [([tokOf p.s, tokOf ⟨#[46]⟩, tokOf p.f], false)]) from by have h := HNX2.out; rw [show showP p [] = ([tokOf p.s, tokOf ⟨#[46]⟩, tokOf p.f], false) from by rw [e]; rfl] at h; exact h)
              clear e q0 hs hw
              go_upto_region 27 with (first | (go_at_call 21; refine (tokens_s [p.s, ⟨#[46]⟩, p.f] [] [] [tokOf p.s, tokOf ⟨#[46]⟩, tokOf p.f] rfl _ _ _ _ (by refine Sl.lit' ?_ _ _ _ _ _ _ ?_ ?_ ?_ ?_ <;> first | (intro _; rfl) | rfl | decide | (simp; done)) (Sl.nil _ _ _) (Sl.nil _ _ _) (HG.out.g.below (below_call (by (repeat' (first | (with_reducible exact Below.refl _ _) | (with_reducible refine below_alloc ?_) | (with_reducible refine below_drew ?_) | (with_reducible refine below_drewN ?_) | (with_reducible refine below_set (by first | (simp; done) | (simp; omega)) ?_) | (with_reducible refine below_call (by with_reducible assumption) ?_)))) HBCW.out)) (fun u hu => by simp only [List.mem_cons, List.not_mem_nil, or_false] at hu; rcases hu with rfl | rfl | rfl; (focus (omega)); (focus (decide)); (focus (omega))) (by decide) (by simp) (by simp) (by simp)).mono ?_; rintro e w6 ⟨a6, n6, c6, rfl, ho6, hb6⟩; have hb6' := (show Below wc.heap.size wc w6 by (repeat' (first | (with_reducible exact Below.refl _ _) | (with_reducible refine below_alloc ?_) | (with_reducible refine below_drew ?_) | (with_reducible refine below_drewN ?_) | (with_reducible refine below_set (by first | (simp; done) | (simp; omega)) ?_) | (with_reducible refine below_call (by with_reducible assumption) ?_)))); have hs6 := (hb6'.block B (by omega)).trans HSC.out; have HS6 := Lib.hid hs6; have HB6 := Lib.hid hb6'; obtain ⟨y0, y1⟩ := boxS hs6; obtain ⟨i0, i1⟩ := iceS hs6; clear hs6; have HT6 := Lib.hid (TR.base ho6 (show w.heap.size ≤ _ by have := HBCW.out.size; simp; omega)); clear ho6))
              refine wp_cut (fun W => Below wr.heap.size wr W ∧ W.heap[B]? = some (.cells #[.slice a6 n6 c6, .bool false] 63 (0, 0)) ∧ TR w.heap.size W (.slice a6 n6 c6) [tokOf p.s, tokOf ⟨#[46]⟩, tokOf p.f]) ⟨below_set (by simp; omega) (below_call HB6.out HBC.out), set_box0 HS6.out, HT6.out.set HS6.out⟩ ?_
              rintro wd ⟨hbd, hsd, htr⟩
              have HTR := Lib.hid htr
              clear htr
              obtain ⟨y0, y1⟩ := boxS hsd
              have HSD := Lib.hid (HST.out.below hbd)
              have HBD := Lib.hid hbd
              have hbz := hbd.size
              have hwz := HBW.out.size
              clear hsd hbd
              go_wp2_with (first
                | (at_builtin; refine wpList_app _ rfl (.tmp 146) (.tmp 148) 59 rfl w.heap.size 63 _ 2 32 Tryz.underlying59 info_sh rfl (by decide) encSh encSh_len one_Sh _ _ _ rfl (own_below HSD.out.row (below_alloc (Below.refl _ _))) _ [⟨a6, n6, c6, false⟩] rfl (by refine Sl.lit' ?_ _ _ _ _ _ _ ?_ ?_ ?_ ?_ <;> first | (intro _; rfl) | rfl | decide | (simp; done)) (by unfold maxLen; (try simp); (try omega)) (by (try simp); (try omega)) (by (try simp); (try omega)) ?_; intro v8 w8 ho8 hg8))
              go_roundg (L - (k + 1))
              case measure => omega
              case rel =>
                refine ⟨k + 1, by go_num, by omega, by omega, (show TkJ x w (k + 1) v8 w8 from ⟨below_grown (below_call (below_alloc (Below.refl _ _)) (below_call HBD.out HBW.out)) hg8 (own_ge HSD.out.row (Nat.le_refl _)), _, _, StkW.push (s := ⟨a6, n6, c6, false⟩) (t := ([tokOf p.s, tokOf ⟨#[46]⟩, tokOf p.f], false)) (HSD.out.below (below_alloc (Below.refl _ _))) ((HTR.out).below (below_alloc (Below.refl _ _))) rfl ho8 hg8, HNY.out⟩)⟩
            · exfalso
              have h := HN.out
              rw [e] at h
              unfold takesE opP at h
              simp only at h
              split at h
              · cases h
              · cases h
            · exfalso
              have h := HN.out
              rw [e] at h
              cases h
      · rcases stk_form hst with ⟨rfl, rfl, rfl⟩ | ⟨g, cap, rfl, hcap, hmax, hgw⟩
        · exfalso
          simp at hen
          omega
        obtain ⟨m, hm⟩ : ∃ m, vs.length = m + n := ⟨vs.length - n, by omega⟩
        have hlenz : (vs.length : Int) - (n : Int) = (m : Int) := by omega
        have hm0 : (0 : Int) ≤ (m : Int) := Int.natCast_nonneg _
        have hmle : (m : Int) ≤ (vs.length : Int) := by omega
        have hmN : m ≤ vs.length := by omega
        have hcm : ¬ cap = m := by omega
        have hcapz : (vs.length : Int) ≤ (cap : Int) := by omega
        have h00 : (0 : Int) ≤ (vs.length : Int) := Int.natCast_nonneg _
        have HSLD := Lib.hid (fun W (hW : Below wr.heap.size wr W) => (by have h := Sl.drop (Sl.own encSh_len (own_below hst.row hW) rfl) m hmN; simpa using h : Sl encSh 2 W (.slice (some ⟨g, m * 2, none⟩) (vs.length - m) (cap - m)) (vs.drop m)))
        have HM := Lib.hid hm
        have HTK := Lib.hid (StkW.take hst rfl hmN)
        have hss : ss.length - n = m := by rw [← HLN.out]; omega
        have HNX2 := Lib.hid (show ShI x (k + 1) (ss.take m ++ [showP p (ss.drop m)]) from by have h := HNX.out; rw [HSS.out, hss] at h; exact h)
        have HTOPS := Lib.hid (fun i (hi : i < vs.length) => hst.top hi)
        clear hst hm hss
        unfold maxLen at hmax
        go_upto_region 13 with (first
          | (go_at_call 19; refine (HT.out _).mono ?_; rintro e w2 ⟨rfl, hb2⟩)
          | (go_at_call 20; refine (HCL.out (vs.drop m) _ _ (HSLD.out _ (by (repeat' (first | (with_reducible exact Below.refl _ _) | (with_reducible refine below_alloc ?_) | (with_reducible refine below_drew ?_) | (with_reducible refine below_drewN ?_) | (with_reducible refine below_set (by first | (simp; done) | (simp; omega)) ?_) | (with_reducible refine below_call (by with_reducible assumption) ?_))))) (by rw [List.length_drop]; omega)).mono ?_; rintro e w3 ⟨v3, rfl, hs3, hb3⟩))
        have hz2 := hb2.size
        have hz3 := hb3.size
        simp at hz2
        refine wp_cut (fun W => Below wr.heap.size wr W ∧ W.heap[wr.heap.size]? = some (.cells #[.int .i64 p.k, .int .i64 p.n, .int .i64 p.t, .string p.s, .string p.f] 44 (0, 0)) ∧ W.heap[w3.heap.size]? = some (.cells #[.slice none 0 0, .bool false] 63 (0, 0)) ∧ w3.heap.size < W.heap.size ∧ Sl encSh 2 W v3 (vs.drop m))
          ⟨by (repeat' (first | (with_reducible exact Below.refl _ _) | (with_reducible refine below_alloc ?_) | (with_reducible refine below_drew ?_) | (with_reducible refine below_drewN ?_) | (with_reducible refine below_set (by first | (simp; done) | (simp; omega)) ?_) | (with_reducible refine below_call (by with_reducible assumption) ?_))), by (repeat' (first | (with_reducible exact hpN (by first | rfl | (simp; done) | (simp; omega))) | (with_reducible refine hpA ?_) | (with_reducible refine hpD ?_) | (with_reducible refine hpB (by with_reducible assumption) ?_))), by (repeat' (first | (with_reducible exact hpN (by first | rfl | (simp; done) | (simp; omega))) | (with_reducible refine hpA ?_) | (with_reducible refine hpD ?_) | (with_reducible refine hpB (by with_reducible assumption) ?_))), by simp, hs3.below (by (repeat' (first | (with_reducible exact Below.refl _ _) | (with_reducible refine below_alloc ?_) | (with_reducible refine below_drew ?_) | (with_reducible refine below_drewN ?_) | (with_reducible refine below_set (by first | (simp; done) | (simp; omega)) ?_) | (with_reducible refine below_call (by with_reducible assumption) ?_))))⟩ ?_
        rintro wc ⟨hbc, hpc, hsc, hszc, htop⟩
        obtain ⟨z0, z1, z2, z3, z4⟩ := box5 hpc
        obtain ⟨B, hB⟩ : ∃ B, w3.heap.size = B := ⟨_, rfl⟩
        rw [hB] at hsc hszc hz3 ⊢
        have hBr : wr.heap.size < B := by omega
        have hPw : wr.heap.size < wc.heap.size := by omega
        have HSC := Lib.hid hsc
        have HBC := Lib.hid hbc
        clear hpc hs3 hb2 hb3 hB hbc hz2 hz3 hsc
        have HBCW := Lib.hid (below_call HBC.out HBW.out)
        rcases may_cases hmp with ⟨n', t, hb1', e⟩ | ⟨s, hs, e⟩ | ⟨s, hs, e⟩ | ⟨s, f, hs, hw, e⟩ | ⟨n', h1, h2, e⟩ | ⟨t, h1, h2, e⟩
        · exfalso
          have h := HN.out
          rw [e] at h
          have : takesE (numP n' t) = 0 := rfl
          omega
        · exfalso
          have h := HN.out
          rw [e] at h
          have : takesE (varP s) = 0 := rfl
          omega
        · obtain rfl : 1 = n := by rw [← HN.out, e]; rfl
          have hvl1 : vs.length = m + 1 := by have := HM.out; omega
          obtain ⟨u, t0, hu, ht0, htr0, hop0, hmem0⟩ := HTOPS.out m (by omega)
          have hlt0 : t0.1.length ≤ 5 * k := HSM.out t0 hmem0
          have hdv : vs.drop m = [u] := drop_last1 hvl1 hu
          have HDS := Lib.hid (show ss.drop m = [t0] from drop_last1 (by rw [← HLN.out]; exact hvl1) ht0)
          have HT0 := Lib.hid (htr0.below HBC.out)
          rw [hdv] at htop
          obtain ⟨b3, o3, c3, rfl, hb3l, hc3, hsc3⟩ := shCells htop (n := 0) rfl
          obtain ⟨w0, w1⟩ := hsc3 0 u rfl
          rw [Nat.zero_mul, Nat.add_zero] at w0 w1
          have hc3z : (1 : Int) ≤ (c3 : Int) := by omega
          have HOP0 := Lib.hid hop0
          have HVL := Lib.hid hvl1
          clear hsc3 htop hdv hu ht0 hmem0 hvl1 htr0 hop0
          have q0 : p.k = 3 := by rw [e]; rfl
          have hsz : p.s.size ≤ 24 := by rw [e]; exact name_size hs
          rw [q0] at z0
          have HNY := Lib.hid (show ShI x (k + 1) (ss.take m ++ [((tokOf p.s :: tokOf ⟨#[91]⟩ :: (t0.1 ++ [tokOf ⟨#[93]⟩])), false)]) from by have h := HNX2.out; rw [HDS.out, show showP p [t0] = ((tokOf p.s :: tokOf ⟨#[91]⟩ :: (t0.1 ++ [tokOf ⟨#[93]⟩])), false) from by rw [e]; rfl] at h; exact h)
          clear e q0 hs
          go_upto_region 22 with fail
          rename_i K0 hK0
          have hnd : [106, 107, 108, 109, 110, 111, 112, 113, 114, 115].Nodup := by decide
          refine wp_region_perF (by kernel_rfl) _ _ (dropLast_last _ (by simp)) [8, 9] [[], [0], [1], [], [3], [4], [5], [], [2, 6, 7], []] (by kernel_rfl) (fcF [.val (.pointer (some ⟨wr.heap.size, 3, none⟩)), .val (.string p.s), .txt [p.s, ⟨#[91]⟩], .val (.slice (some ⟨b3, o3, none⟩) 1 c3), .val (.pointer (some ⟨b3, o3, none⟩)), .val (.pointer (some ⟨b3, o3, none⟩)), .val (.slice u.a u.n u.c), .txt [⟨#[93]⟩], .tok w.heap.size (tokOf p.s :: tokOf ⟨#[91]⟩ :: (t0.1 ++ [tokOf ⟨#[93]⟩])), .val (.pointer (some ⟨B, 0, none⟩))]) [106, 107, 108, 109, 110, 111, 112, 113, 114, 115] 200 _ _ rfl ?_ ?_
          · dsimp only [List.dropLast]
            refine ⟨fun a w' hJ hD K' hK => ?_, ?_⟩
            · have hx0 := raw (show a.eval (.tmp 7) = .pointer (some ⟨wr.heap.size, 0, none⟩) from hJ.old 7 (by decide))
              exact per_next fcF_below hnd rfl 0 106 (by decide) rfl (by decide) hJ (Nat.le_of_ble_eq_true rfl) hK _ _ (Below.refl _ _) rfl |> wp_val (v := .pointer (some ⟨wr.heap.size, 3, none⟩)) (w' := w') (by go_simp)
            refine ⟨fun a w' hJ hD K' hK => ?_, ?_⟩
            · obtain ⟨d0, -⟩ := hD
              have hx0 := raw (show a.eval (.tmp 106) = .pointer (some ⟨wr.heap.size, 3, none⟩) from d0)
              have e3 := (hJ.b.cell (p := ⟨wr.heap.size, 3, none⟩) hPw).trans z3
              exact per_next fcF_below hnd rfl 1 107 (by decide) rfl (by decide) hJ (Nat.le_of_ble_eq_true rfl) hK _ _ (Below.refl _ _) rfl |> wp_val (v := .string p.s) (w' := w') (by go_simp)
            refine ⟨fun a w' hJ hD K' hK => ?_, ?_⟩
            · obtain ⟨d0, -⟩ := hD
              have hx0 := raw (show a.eval (.tmp 107) = .string p.s from d0)
              exact per_next fcF_below hnd rfl 2 108 (by decide) rfl (by decide) hJ (Nat.le_of_ble_eq_true rfl) hK _ _ (below_alloc (Below.refl _ _)) (Sl.lit encS_lenR w' #[.string p.s, .string ⟨#[91]⟩] 9 2 [p.s, ⟨#[91]⟩] rfl rfl (by simp)) |> wp_val (v := .slice (some ⟨w'.heap.size, 0, none⟩) 2 2) (w' := w'.alloc (.cells #[.string p.s, .string ⟨#[91]⟩] 9)) (by go_simp)
            refine ⟨fun a w' hJ hD K' hK => ?_, ?_⟩
            · have hx0 := raw (show a.eval (.tmp 9) = .slice (some ⟨b3, o3, none⟩) 1 c3 from hJ.old 9 (by decide))
              exact per_next fcF_below hnd rfl 3 109 (by decide) rfl (by decide) hJ (Nat.le_of_ble_eq_true rfl) hK _ _ (Below.refl _ _) rfl |> wp_val (v := .slice (some ⟨b3, o3, none⟩) 1 c3) (w' := w') (by go_simp)
            refine ⟨fun a w' hJ hD K' hK => ?_, ?_⟩
            · obtain ⟨d0, -⟩ := hD
              have hx0 := raw (show a.eval (.tmp 109) = .slice (some ⟨b3, o3, none⟩) 1 c3 from d0)
              exact per_next fcF_below hnd rfl 4 110 (by decide) rfl (by decide) hJ (Nat.le_of_ble_eq_true rfl) hK _ _ (Below.refl _ _) rfl |> wp_val (v := .pointer (some ⟨b3, o3, none⟩)) (w' := w') (by go_simp)
            refine ⟨fun a w' hJ hD K' hK => ?_, ?_⟩
            · obtain ⟨d0, -⟩ := hD
              have hx0 := raw (show a.eval (.tmp 110) = .pointer (some ⟨b3, o3, none⟩) from d0)
              exact per_next fcF_below hnd rfl 5 111 (by decide) rfl (by decide) hJ (Nat.le_of_ble_eq_true rfl) hK _ _ (Below.refl _ _) rfl |> wp_val (v := .pointer (some ⟨b3, o3, none⟩)) (w' := w') (by go_simp)
            refine ⟨fun a w' hJ hD K' hK => ?_, ?_⟩
            · obtain ⟨d0, -⟩ := hD
              have hx0 := raw (show a.eval (.tmp 111) = .pointer (some ⟨b3, o3, none⟩) from d0)
              have e0 := (hJ.b.cell (p := ⟨b3, o3, none⟩) hb3l).trans w0
              exact per_next fcF_below hnd rfl 6 112 (by decide) rfl (by decide) hJ (Nat.le_of_ble_eq_true rfl) hK _ _ (Below.refl _ _) rfl |> wp_val (v := .slice u.a u.n u.c) (w' := w') (by go_simp)
            refine ⟨fun a w' hJ hD K' hK => ?_, ?_⟩
            · exact per_next fcF_below hnd rfl 7 113 (by decide) rfl (by decide) hJ (Nat.le_of_ble_eq_true rfl) hK _ _ (below_alloc (Below.refl _ _)) (Sl.lit encS_lenR w' #[.string ⟨#[93]⟩] 9 1 [⟨#[93]⟩] rfl rfl (by simp)) |> wp_val (v := .slice (some ⟨w'.heap.size, 0, none⟩) 1 1) (w' := w'.alloc (.cells #[.string ⟨#[93]⟩] 9)) (by go_simp)
            refine ⟨fun a w' hJ hD K' hK => ?_, ?_⟩
            · obtain ⟨d0, d1, d2, -⟩ := hD
              have s2 : Sl encS 1 w' (a.eval (.tmp 108)) [p.s, ⟨#[91]⟩] := d0
              have hx1 := raw (show a.eval (.tmp 112) = .slice u.a u.n u.c from d1)
              have s7 : Sl encS 1 w' (a.eval (.tmp 113)) [⟨#[93]⟩] := d2
              refine wp_calls (f := 21) (args := #[a.eval (.tmp 108), .slice u.a u.n u.c, a.eval (.tmp 113)]) (w' := w') (by go_simp) (tokens_s [p.s, ⟨#[91]⟩] [⟨#[93]⟩] t0.1 (tokOf p.s :: tokOf ⟨#[91]⟩ :: (t0.1 ++ [tokOf ⟨#[93]⟩])) rfl _ _ _ w' s2 (HT0.out.below hJ.b).sl s7 (HG.out.g.below (below_call hJ.b HBCW.out)) (fun u hu => by simp only [List.mem_cons, List.not_mem_nil, or_false] at hu; rcases hu with rfl | rfl; (focus (omega)); (focus (decide))) (by decide) (by simp) (by omega) (by simp)) ?_
              rintro e' w1 ⟨a6, n6, c6, rfl, ho6, hb6⟩
              exact ⟨_, rfl, per_next fcF_below hnd rfl 8 114 (by decide) rfl (by decide) hJ (Nat.le_of_ble_eq_true rfl) hK _ _ hb6 ⟨a6, n6, c6, rfl, ho6.base (Nat.le_trans HBCW.out.size hJ.b.size)⟩⟩
            refine ⟨fun a w' hJ hD K' hK => ?_, trivial⟩
            · have hx0 := raw (show a.eval (.tmp 10) = .pointer (some ⟨B, 0, none⟩) from hJ.old 10 (by decide))
              exact per_next fcF_below hnd rfl 9 115 (by decide) rfl (by decide) hJ (Nat.le_of_ble_eq_true rfl) hK _ _ (Below.refl _ _) rfl |> wp_val (v := .pointer (some ⟨B, 0, none⟩)) (w' := w') (by go_simp)
          · intro a' w' hJ hF K' hK
            obtain ⟨a6, n6, c6, h8', ht6⟩ := hF 8 (by decide) rfl
            have h8 : a'.eval (.tmp 114) = .slice a6 n6 c6 := h8'
            have h9 : a'.eval (.tmp 115) = .pointer (some ⟨B, 0, none⟩) := hF 9 (by decide) rfl
            have HB6 := Lib.hid hJ.b
            have hs6 := (HB6.out.block B hszc).trans HSC.out
            have HS6 := Lib.hid hs6
            obtain ⟨y0, y1⟩ := boxS hs6
            obtain ⟨i0, i1⟩ := iceS hs6
            have HT6 := Lib.hid ht6
            have HA := Lib.hid (act_per hJ)
            have hx8 := raw h8
            have hx9 := raw h9
            clear hs6 ht6 h8'
            refine wp_skip (w' := w'.setCell ⟨B, 0, none⟩ (.slice a6 n6 c6)) (by go_simp) ?_
            show K' (a'.put none undef) _
            refine hK _ _ ?_
            show K0 a' _
            refine hK0 _ _ ?_
            have e' := HA.out
            clear HA hJ hF hK hx8 hx9
            obtain ⟨x106, hx106⟩ : ∃ v, a'.eval (.tmp 106) = v := ⟨_, rfl⟩
            obtain ⟨x107, hx107⟩ : ∃ v, a'.eval (.tmp 107) = v := ⟨_, rfl⟩
            obtain ⟨x108, hx108⟩ : ∃ v, a'.eval (.tmp 108) = v := ⟨_, rfl⟩
            obtain ⟨x109, hx109⟩ : ∃ v, a'.eval (.tmp 109) = v := ⟨_, rfl⟩
            obtain ⟨x110, hx110⟩ : ∃ v, a'.eval (.tmp 110) = v := ⟨_, rfl⟩
            obtain ⟨x111, hx111⟩ : ∃ v, a'.eval (.tmp 111) = v := ⟨_, rfl⟩
            obtain ⟨x112, hx112⟩ : ∃ v, a'.eval (.tmp 112) = v := ⟨_, rfl⟩
            obtain ⟨x113, hx113⟩ : ∃ v, a'.eval (.tmp 113) = v := ⟨_, rfl⟩
            simp only [patch, hx106, hx107, hx108, hx109, hx110, hx111, hx112, hx113, h8, h9] at e'
            clear hx106 hx107 hx108 hx109 hx110 hx111 hx112 hx113 h8 h9
            simp only [List.set_cons_zero, List.set_cons_succ] at e'
            subst e'
            go_upto_region 27 with fail
            refine wp_cut (fun W => Below wr.heap.size wr W ∧ W.heap[B]? = some (.cells #[.slice a6 n6 c6, .bool false] 63 (0, 0)) ∧ TR w.heap.size W (.slice a6 n6 c6) (tokOf p.s :: tokOf ⟨#[91]⟩ :: (t0.1 ++ [tokOf ⟨#[93]⟩]))) ⟨below_set (by simp; omega) (below_call HB6.out HBC.out), set_box0 HS6.out, HT6.out.set HS6.out⟩ ?_
            rintro wd ⟨hbd, hsd, htr⟩
            have HTR := Lib.hid htr
            clear htr
            obtain ⟨y0, y1⟩ := boxS hsd
            have HSD := Lib.hid (HTK.out.below hbd)
            have HBD := Lib.hid hbd
            have hbz := hbd.size
            have hwz := HBW.out.size
            clear hsd hbd
            go_wp2_with (first
              | (at_builtin; refine wpList_app _ rfl (.tmp 146) (.tmp 148) 59 rfl w.heap.size 63 _ 2 32 Tryz.underlying59 info_sh rfl (by decide) encSh encSh_len one_Sh _ _ _ rfl (own_below HSD.out.row (below_alloc (Below.refl _ _))) _ [⟨a6, n6, c6, false⟩] rfl (by refine Sl.lit' ?_ _ _ _ _ _ _ ?_ ?_ ?_ ?_ <;> first | (intro _; rfl) | rfl | decide | (simp; done)) (by unfold maxLen; (try simp); (try omega)) (by (try simp); (try omega)) (by (try simp); (try omega)) ?_; intro v8 w8 ho8 hg8))
            go_roundg (L - (k + 1))
            case measure => omega
            case rel =>
              refine ⟨k + 1, by go_num, by omega, by omega, (show TkJ x w (k + 1) v8 w8 from ⟨below_grown (below_call (below_alloc (Below.refl _ _)) (below_call HBD.out HBW.out)) hg8 (own_ge HSD.out.row (Nat.le_refl _)), _, _, StkW.push (s := ⟨a6, n6, c6, false⟩) (t := ((tokOf p.s :: tokOf ⟨#[91]⟩ :: (t0.1 ++ [tokOf ⟨#[93]⟩])), false)) (HSD.out.below (below_alloc (Below.refl _ _))) ((HTR.out).below (below_alloc (Below.refl _ _))) rfl ho8 hg8, HNY.out⟩)⟩
        · exfalso
          have h := HN.out
          rw [e] at h
          have : takesE (fieldP s f) = 0 := rfl
          omega
        · rcases op_takes h1 h2 (show takesE (opP n') = n by rw [← e]; exact HN.out) with ⟨rfl, h15⟩ | ⟨rfl, h15⟩
          · skip
            have hvl1 : vs.length = m + 1 := by have := HM.out; omega
            obtain ⟨u, t0, hu, ht0, htr0, hop0, hmem0⟩ := HTOPS.out m (by omega)
            have hlt0 : t0.1.length ≤ 5 * k := HSM.out t0 hmem0
            have hdv : vs.drop m = [u] := drop_last1 hvl1 hu
            have HDS := Lib.hid (show ss.drop m = [t0] from drop_last1 (by rw [← HLN.out]; exact hvl1) ht0)
            have HT0 := Lib.hid (htr0.below HBC.out)
            rw [hdv] at htop
            obtain ⟨b3, o3, c3, rfl, hb3l, hc3, hsc3⟩ := shCells htop (n := 0) rfl
            obtain ⟨w0, w1⟩ := hsc3 0 u rfl
            rw [Nat.zero_mul, Nat.add_zero] at w0 w1
            have hc3z : (1 : Int) ≤ (c3 : Int) := by omega
            have HOP0 := Lib.hid hop0
            have HVL := Lib.hid hvl1
            clear hsc3 htop hdv hu ht0 hmem0 hvl1 htr0 hop0
            have q0 : p.k = 5 := by rw [e]; rfl
            have q1 : p.n = (n' : Int) := by rw [e]; rfl
            rw [q0] at z0
            rw [q1] at z1
            have hcz := signAt_size h2
            have HCV := Lib.hid (fun W (hW : Below wc.heap.size wc W) => (HG.out.below (below_call hW HBCW.out)).signs n' (signAt n') (sign_at h2))
            have htn5 : (n' : Int) < 17 := by omega
            have htn0 : (0 : Int) ≤ (n' : Int) := Int.natCast_nonneg _
            obtain ⟨cv, hcv⟩ : ∃ cv, signAt n' = cv := ⟨_, rfl⟩
            have HNY := Lib.hid (show ShI x (k + 1) (ss.take m ++ [(tokOf cv :: innerT t0, true)]) from by have h := HNX2.out; rw [HDS.out, e, show_op1 h15 h2, hcv] at h; exact h)
            rw [hcv] at HCV hcz
            clear e q0 q1 hcv h1 h2 h15
            go_upto_region 26 with fail
            rename_i K0 hK0
            have hnd : [135, 136, 137, 138, 139, 140, 141, 142, 143, 144, 145].Nodup := by decide
            refine wp_region_perF (by kernel_rfl) _ _ (dropLast_last _ (by simp)) [10] [[], [0], [1], [2], [3], [], [5], [6], [7], [4, 8], [9]] (by kernel_rfl) (fcF [.val (.pointer (some ⟨wr.heap.size, 1, none⟩)), .val (.int .i64 (n' : Int)), .val (.pointer (some ⟨1, n', none⟩)), .val (.string cv), .txt [cv], .val (.slice (some ⟨b3, o3, none⟩) 1 c3), .val (.pointer (some ⟨b3, o3, none⟩)), .val (.agg #[.slice u.a u.n u.c, .bool u.op]), .tok w.heap.size (innerT t0), .tok w.heap.size (tokOf cv :: innerT t0), .agg w.heap.size (tokOf cv :: innerT t0) true]) [135, 136, 137, 138, 139, 140, 141, 142, 143, 144, 145] 200 _ _ rfl ?_ ?_
            · dsimp only [List.dropLast]
              refine ⟨fun a w' hJ hD K' hK => ?_, ?_⟩
              · have hx0 := raw (show a.eval (.tmp 7) = .pointer (some ⟨wr.heap.size, 0, none⟩) from hJ.old 7 (by decide))
                exact per_next fcF_below hnd rfl 0 135 (by decide) rfl (by decide) hJ (Nat.le_of_ble_eq_true rfl) hK _ _ (Below.refl _ _) rfl |> wp_val (v := .pointer (some ⟨wr.heap.size, 1, none⟩)) (w' := w') (by go_simp)
              refine ⟨fun a w' hJ hD K' hK => ?_, ?_⟩
              · obtain ⟨d0, -⟩ := hD
                have hx0 := raw (show a.eval (.tmp 135) = .pointer (some ⟨wr.heap.size, 1, none⟩) from d0)
                have e2 := (hJ.b.cell (p := ⟨wr.heap.size, 1, none⟩) hPw).trans z1
                exact per_next fcF_below hnd rfl 1 136 (by decide) rfl (by decide) hJ (Nat.le_of_ble_eq_true rfl) hK _ _ (Below.refl _ _) rfl |> wp_val (v := .int .i64 (n' : Int)) (w' := w') (by go_simp)
              refine ⟨fun a w' hJ hD K' hK => ?_, ?_⟩
              · obtain ⟨d0, -⟩ := hD
                have hx0 := raw (show a.eval (.tmp 136) = .int .i64 (n' : Int) from d0)
                exact per_next fcF_below hnd rfl 2 137 (by decide) rfl (by decide) hJ (Nat.le_of_ble_eq_true rfl) hK _ _ (Below.refl _ _) rfl |> wp_val (v := (.pointer (some ⟨1, n', none⟩))) (w' := w') (by go_simp)
              refine ⟨fun a w' hJ hD K' hK => ?_, ?_⟩
              · obtain ⟨d0, -⟩ := hD
                have hx0 := raw (show a.eval (.tmp 137) = (.pointer (some ⟨1, n', none⟩)) from d0)
                have ec := HCV.out w' hJ.b
                exact per_next fcF_below hnd rfl 3 138 (by decide) rfl (by decide) hJ (Nat.le_of_ble_eq_true rfl) hK _ _ (Below.refl _ _) rfl |> wp_val (v := .string cv) (w' := w') (by go_simp)
              refine ⟨fun a w' hJ hD K' hK => ?_, ?_⟩
              · obtain ⟨d0, -⟩ := hD
                have hx0 := raw (show a.eval (.tmp 138) = .string cv from d0)
                exact per_next fcF_below hnd rfl 4 139 (by decide) rfl (by decide) hJ (Nat.le_of_ble_eq_true rfl) hK _ _ (below_alloc (Below.refl _ _)) (Sl.lit encS_lenR w' #[.string cv] 9 1 [cv] rfl rfl (by simp)) |> wp_val (v := .slice (some ⟨w'.heap.size, 0, none⟩) 1 1) (w' := w'.alloc (.cells #[.string cv] 9)) (by go_simp)
              refine ⟨fun a w' hJ hD K' hK => ?_, ?_⟩
              · have hx0 := raw (show a.eval (.tmp 9) = .slice (some ⟨b3, o3, none⟩) 1 c3 from hJ.old 9 (by decide))
                exact per_next fcF_below hnd rfl 5 140 (by decide) rfl (by decide) hJ (Nat.le_of_ble_eq_true rfl) hK _ _ (Below.refl _ _) rfl |> wp_val (v := .slice (some ⟨b3, o3, none⟩) 1 c3) (w' := w') (by go_simp)
              refine ⟨fun a w' hJ hD K' hK => ?_, ?_⟩
              · obtain ⟨d0, -⟩ := hD
                have hx0 := raw (show a.eval (.tmp 140) = .slice (some ⟨b3, o3, none⟩) 1 c3 from d0)
                exact per_next fcF_below hnd rfl 6 141 (by decide) rfl (by decide) hJ (Nat.le_of_ble_eq_true rfl) hK _ _ (Below.refl _ _) rfl |> wp_val (v := .pointer (some ⟨b3, o3, none⟩)) (w' := w') (by go_simp)
              refine ⟨fun a w' hJ hD K' hK => ?_, ?_⟩
              · obtain ⟨d0, -⟩ := hD
                have hx0 := raw (show a.eval (.tmp 141) = .pointer (some ⟨b3, o3, none⟩) from d0)
                have e0 := (hJ.b.cell (p := ⟨b3, o3, none⟩) hb3l).trans w0
                have e1 := (hJ.b.cell (p := ⟨b3, o3 + 1, none⟩) hb3l).trans w1
                exact per_next fcF_below hnd rfl 7 142 (by decide) rfl (by decide) hJ (Nat.le_of_ble_eq_true rfl) hK _ _ (Below.refl _ _) rfl |> wp_val (v := (.agg #[.slice u.a u.n u.c, .bool u.op])) (w' := w') (by go_simp)
              refine ⟨fun a w' hJ hD K' hK => ?_, ?_⟩
              · obtain ⟨d0, -⟩ := hD
                have hx1 := raw (show a.eval (.tmp 142) = (.agg #[.slice u.a u.n u.c, .bool u.op]) from d0)
                refine wp_calls (f := 22) (args := #[(.agg #[.slice u.a u.n u.c, .bool u.op])]) (w' := w') (by go_simp) (inner_c u t0 w.heap.size w' (HT0.out.below hJ.b) HOP0.out (Nat.le_trans HBCW.out.size hJ.b.size) (HG.out.g.below (below_call hJ.b HBCW.out)) (by omega)) ?_
                rintro e' w1 ⟨v6, rfl, ho6, hb6⟩
                obtain ⟨a6, c6, rfl⟩ := own_slice ho6
                exact ⟨_, rfl, per_next fcF_below hnd rfl 8 143 (by decide) rfl (by decide) hJ (Nat.le_of_ble_eq_true rfl) hK _ _ hb6 ⟨a6, _, c6, rfl, ho6⟩⟩
              refine ⟨fun a w' hJ hD K' hK => ?_, ?_⟩
              · obtain ⟨d0, d1, -⟩ := hD
                have s2 : Sl encS 1 w' (a.eval (.tmp 139)) [cv] := d0
                obtain ⟨a5, n5, c5, h5, ht5⟩ := d1
                have hx1 := raw (show a.eval (.tmp 143) = .slice a5 n5 c5 from h5)
                have hil := innerT_len t0
                refine wp_calls (f := 21) (args := #[a.eval (.tmp 139), .slice a5 n5 c5, .slice none 0 0]) (w' := w') (by go_simp) (tokens_s [cv] [] (innerT t0) (tokOf cv :: innerT t0) (by simp) _ _ _ w' s2 ht5.sl (Sl.nil _ _ _) (HG.out.g.below (below_call hJ.b HBCW.out)) (fun u hu => by rw [List.mem_singleton.1 hu]; omega) (by simp) (by simp) (by omega) (by simp)) ?_
                rintro e' w1 ⟨a6, n6, c6, rfl, ho6, hb6⟩
                exact ⟨_, rfl, per_next fcF_below hnd rfl 9 144 (by decide) rfl (by decide) hJ (Nat.le_of_ble_eq_true rfl) hK _ _ hb6 ⟨a6, n6, c6, rfl, ho6.base (Nat.le_trans HBCW.out.size hJ.b.size)⟩⟩
              refine ⟨fun a w' hJ hD K' hK => ?_, trivial⟩
              · obtain ⟨d0, -⟩ := hD
                obtain ⟨a6, n6, c6, h6, ht6⟩ := d0
                have hx1 := raw (show a.eval (.tmp 144) = .slice a6 n6 c6 from h6)
                exact per_next fcF_below hnd rfl 10 145 (by decide) rfl (by decide) hJ (Nat.le_of_ble_eq_true rfl) hK _ _ (Below.refl _ _) ⟨a6, n6, c6, rfl, ht6⟩ |> wp_val (v := .agg #[.slice a6 n6 c6, .bool true]) (w' := w') (by go_simp)
            · intro a' w' hJ hF K' hK
              obtain ⟨a6, n6, c6, h8', ht6⟩ := hF 10 (by decide) rfl
              have h8 : a'.eval (.tmp 145) = .agg #[.slice a6 n6 c6, .bool true] := h8'
              have h9 : a'.eval (.tmp 10) = .pointer (some ⟨B, 0, none⟩) := hJ.old 10 (by decide)
              have HB6 := Lib.hid hJ.b
              have hs6 := (HB6.out.block B hszc).trans HSC.out
              have HS6 := Lib.hid hs6
              obtain ⟨y0, y1⟩ := boxS hs6
              obtain ⟨i0, i1⟩ := iceS hs6
              have HT6 := Lib.hid ht6
              have HA := Lib.hid (act_per hJ)
              have hx8 := raw h8
              have hx9 := raw h9
              clear hs6 ht6 h8'
              refine wp_skip (w' := (w'.setCell ⟨B, 0, none⟩ (.slice a6 n6 c6)).setCell ⟨B, 1, none⟩ (.bool true)) (by go_simp) ?_
              show K' (a'.put none undef) _
              refine hK _ _ ?_
              show K0 a' _
              refine hK0 _ _ ?_
              have e' := HA.out
              clear HA hJ hF hK hx8 hx9
              obtain ⟨x135, hx135⟩ : ∃ v, a'.eval (.tmp 135) = v := ⟨_, rfl⟩
              obtain ⟨x136, hx136⟩ : ∃ v, a'.eval (.tmp 136) = v := ⟨_, rfl⟩
              obtain ⟨x137, hx137⟩ : ∃ v, a'.eval (.tmp 137) = v := ⟨_, rfl⟩
              obtain ⟨x138, hx138⟩ : ∃ v, a'.eval (.tmp 138) = v := ⟨_, rfl⟩
              obtain ⟨x139, hx139⟩ : ∃ v, a'.eval (.tmp 139) = v := ⟨_, rfl⟩
              obtain ⟨x140, hx140⟩ : ∃ v, a'.eval (.tmp 140) = v := ⟨_, rfl⟩
              obtain ⟨x141, hx141⟩ : ∃ v, a'.eval (.tmp 141) = v := ⟨_, rfl⟩
              obtain ⟨x142, hx142⟩ : ∃ v, a'.eval (.tmp 142) = v := ⟨_, rfl⟩
              obtain ⟨x143, hx143⟩ : ∃ v, a'.eval (.tmp 143) = v := ⟨_, rfl⟩
              obtain ⟨x144, hx144⟩ : ∃ v, a'.eval (.tmp 144) = v := ⟨_, rfl⟩
              simp only [patch, hx135, hx136, hx137, hx138, hx139, hx140, hx141, hx142, hx143, hx144, h8] at e'
              clear hx135 hx136 hx137 hx138 hx139 hx140 hx141 hx142 hx143 hx144 h8 h9
              simp only [List.set_cons_zero, List.set_cons_succ] at e'
              subst e'
              go_upto_region 27 with fail
              refine wp_cut (fun W => Below wr.heap.size wr W ∧ W.heap[B]? = some (.cells #[.slice a6 n6 c6, .bool true] 63 (0, 0)) ∧ TR w.heap.size W (.slice a6 n6 c6) (tokOf cv :: innerT t0)) ⟨below_set (by simp; omega) (below_set (by simp; omega) (below_call HB6.out HBC.out)), set_box1 (set_box0 HS6.out), (HT6.out.set HS6.out).set (set_box0 HS6.out)⟩ ?_
              rintro wd ⟨hbd, hsd, htr⟩
              have HTR := Lib.hid htr
              clear htr
              obtain ⟨y0, y1⟩ := boxS hsd
              have HSD := Lib.hid (HTK.out.below hbd)
              have HBD := Lib.hid hbd
              have hbz := hbd.size
              have hwz := HBW.out.size
              clear hsd hbd
              go_wp2_with (first
                | (at_builtin; refine wpList_app _ rfl (.tmp 146) (.tmp 148) 59 rfl w.heap.size 63 _ 2 32 Tryz.underlying59 info_sh rfl (by decide) encSh encSh_len one_Sh _ _ _ rfl (own_below HSD.out.row (below_alloc (Below.refl _ _))) _ [⟨a6, n6, c6, true⟩] rfl (by refine Sl.lit' ?_ _ _ _ _ _ _ ?_ ?_ ?_ ?_ <;> first | (intro _; rfl) | rfl | decide | (simp; done)) (by unfold maxLen; (try simp); (try omega)) (by (try simp); (try omega)) (by (try simp); (try omega)) ?_; intro v8 w8 ho8 hg8))
              go_roundg (L - (k + 1))
              case measure => omega
              case rel =>
                refine ⟨k + 1, by go_num, by omega, by omega, (show TkJ x w (k + 1) v8 w8 from ⟨below_grown (below_call (below_alloc (Below.refl _ _)) (below_call HBD.out HBW.out)) hg8 (own_ge HSD.out.row (Nat.le_refl _)), _, _, StkW.push (s := ⟨a6, n6, c6, true⟩) (t := ((tokOf cv :: innerT t0), true)) (HSD.out.below (below_alloc (Below.refl _ _))) ((HTR.out).below (below_alloc (Below.refl _ _))) rfl ho8 hg8, HNY.out⟩)⟩
          · skip
            have hvl1 : vs.length = m + 2 := by have := HM.out; omega
            obtain ⟨u, t0, hu, ht0, htr0, hop0, hmem0⟩ := HTOPS.out m (by omega)
            obtain ⟨u', t1, hu', ht1, htr1, hop1, hmem1⟩ := HTOPS.out (m + 1) (by omega)
            have hlt0 : t0.1.length ≤ 5 * k := HSM.out t0 hmem0
            have hlt1 : t1.1.length ≤ 5 * k := HSM.out t1 hmem1
            have hdv : vs.drop m = [u, u'] := drop_last2 hvl1 hu hu'
            have HDS := Lib.hid (show ss.drop m = [t0, t1] from drop_last2 (by rw [← HLN.out]; exact hvl1) ht0 ht1)
            have HT0 := Lib.hid (htr0.below HBC.out)
            have HT1 := Lib.hid (htr1.below HBC.out)
            rw [hdv] at htop
            obtain ⟨b3, o3, c3, rfl, hb3l, hc3, hsc3⟩ := shCells htop (n := 1) rfl
            obtain ⟨w0, w1⟩ := hsc3 0 u rfl
            obtain ⟨w2', w3'⟩ := hsc3 1 u' rfl
            rw [Nat.zero_mul, Nat.add_zero] at w0 w1
            rw [Nat.one_mul] at w2' w3'
            have hc3z : (2 : Int) ≤ (c3 : Int) := by omega
            have HOP0 := Lib.hid hop0
            have HOP1 := Lib.hid hop1
            have HVL := Lib.hid hvl1
            clear hsc3 htop hdv hu ht0 hmem0 hvl1 htr0 hop0 hu' ht1 hmem1 htr1 hop1
            have q0 : p.k = 5 := by rw [e]; rfl
            have q1 : p.n = (n' : Int) := by rw [e]; rfl
            rw [q0] at z0
            rw [q1] at z1
            have hcz := signAt_size h2
            have HCV := Lib.hid (fun W (hW : Below wc.heap.size wc W) => (HG.out.below (below_call hW HBCW.out)).signs n' (signAt n') (sign_at h2))
            have htn5 : (n' : Int) < 17 := by omega
            have htn0 : (0 : Int) ≤ (n' : Int) := Int.natCast_nonneg _
            obtain ⟨cv, hcv⟩ : ∃ cv, signAt n' = cv := ⟨_, rfl⟩
            have HNY := Lib.hid (show ShI x (k + 1) (ss.take m ++ [(innerT t0 ++ (tokOf cv :: innerT t1), true)]) from by have h := HNX2.out; rw [HDS.out, e, show_op2 h1 h15, hcv] at h; exact h)
            rw [hcv] at HCV hcz
            clear e q0 q1 hcv h1 h2 h15
            go_upto_region 12 with fail
            rename_i K0 hK0
            have hnd : [37, 38, 39, 40, 41, 42, 43, 44, 45, 46, 47, 48, 49, 50, 51, 52, 53].Nodup := by decide
            refine wp_region_perF (by kernel_rfl) _ _ (dropLast_last _ (by simp)) [16] [[], [0], [1], [2], [], [4], [5], [6], [7], [], [9], [10], [11], [8, 12], [3, 13], [14], [15]] (by kernel_rfl) (fcF [.val (.slice (some ⟨b3, o3, none⟩) 2 c3), .val (.pointer (some ⟨b3, o3, none⟩)), .val (.agg #[.slice u.a u.n u.c, .bool u.op]), .tok w.heap.size (innerT t0), .val (.pointer (some ⟨wr.heap.size, 1, none⟩)), .val (.int .i64 (n' : Int)), .val (.pointer (some ⟨1, n', none⟩)), .val (.string cv), .txt [cv], .val (.slice (some ⟨b3, o3, none⟩) 2 c3), .val (.pointer (some ⟨b3, o3 + 2, none⟩)), .val (.agg #[.slice u'.a u'.n u'.c, .bool u'.op]), .tok w.heap.size (innerT t1), .tok w.heap.size (tokOf cv :: innerT t1), .two (innerT t0) (tokOf cv :: innerT t1), .tok w.heap.size (innerT t0 ++ (tokOf cv :: innerT t1)), .agg w.heap.size (innerT t0 ++ (tokOf cv :: innerT t1)) true]) [37, 38, 39, 40, 41, 42, 43, 44, 45, 46, 47, 48, 49, 50, 51, 52, 53] 200 _ _ rfl ?_ ?_
            · dsimp only [List.dropLast]
              refine ⟨fun a w' hJ hD K' hK => ?_, ?_⟩
              · have hx0 := raw (show a.eval (.tmp 9) = .slice (some ⟨b3, o3, none⟩) 2 c3 from hJ.old 9 (by decide))
                exact per_next fcF_below hnd rfl 0 37 (by decide) rfl (by decide) hJ (Nat.le_of_ble_eq_true rfl) hK _ _ (Below.refl _ _) rfl |> wp_val (v := .slice (some ⟨b3, o3, none⟩) 2 c3) (w' := w') (by go_simp)
              refine ⟨fun a w' hJ hD K' hK => ?_, ?_⟩
              · obtain ⟨d0, -⟩ := hD
                have hx0 := raw (show a.eval (.tmp 37) = .slice (some ⟨b3, o3, none⟩) 2 c3 from d0)
                exact per_next fcF_below hnd rfl 1 38 (by decide) rfl (by decide) hJ (Nat.le_of_ble_eq_true rfl) hK _ _ (Below.refl _ _) rfl |> wp_val (v := .pointer (some ⟨b3, o3, none⟩)) (w' := w') (by go_simp)
              refine ⟨fun a w' hJ hD K' hK => ?_, ?_⟩
              · obtain ⟨d0, -⟩ := hD
                have hx0 := raw (show a.eval (.tmp 38) = .pointer (some ⟨b3, o3, none⟩) from d0)
                have e0 := (hJ.b.cell (p := ⟨b3, o3, none⟩) hb3l).trans w0
                have e1 := (hJ.b.cell (p := ⟨b3, o3 + 1, none⟩) hb3l).trans w1
                exact per_next fcF_below hnd rfl 2 39 (by decide) rfl (by decide) hJ (Nat.le_of_ble_eq_true rfl) hK _ _ (Below.refl _ _) rfl |> wp_val (v := (.agg #[.slice u.a u.n u.c, .bool u.op])) (w' := w') (by go_simp)
              refine ⟨fun a w' hJ hD K' hK => ?_, ?_⟩
              · obtain ⟨d0, -⟩ := hD
                have hx1 := raw (show a.eval (.tmp 39) = (.agg #[.slice u.a u.n u.c, .bool u.op]) from d0)
                refine wp_calls (f := 22) (args := #[(.agg #[.slice u.a u.n u.c, .bool u.op])]) (w' := w') (by go_simp) (inner_c u t0 w.heap.size w' (HT0.out.below hJ.b) HOP0.out (Nat.le_trans HBCW.out.size hJ.b.size) (HG.out.g.below (below_call hJ.b HBCW.out)) (by omega)) ?_
                rintro e' w1 ⟨v6, rfl, ho6, hb6⟩
                obtain ⟨a6, c6, rfl⟩ := own_slice ho6
                exact ⟨_, rfl, per_next fcF_below hnd rfl 3 40 (by decide) rfl (by decide) hJ (Nat.le_of_ble_eq_true rfl) hK _ _ hb6 ⟨a6, _, c6, rfl, ho6⟩⟩
              refine ⟨fun a w' hJ hD K' hK => ?_, ?_⟩
              · have hx0 := raw (show a.eval (.tmp 7) = .pointer (some ⟨wr.heap.size, 0, none⟩) from hJ.old 7 (by decide))
                exact per_next fcF_below hnd rfl 4 41 (by decide) rfl (by decide) hJ (Nat.le_of_ble_eq_true rfl) hK _ _ (Below.refl _ _) rfl |> wp_val (v := .pointer (some ⟨wr.heap.size, 1, none⟩)) (w' := w') (by go_simp)
              refine ⟨fun a w' hJ hD K' hK => ?_, ?_⟩
              · obtain ⟨d0, -⟩ := hD
                have hx0 := raw (show a.eval (.tmp 41) = .pointer (some ⟨wr.heap.size, 1, none⟩) from d0)
                have e2 := (hJ.b.cell (p := ⟨wr.heap.size, 1, none⟩) hPw).trans z1
                exact per_next fcF_below hnd rfl 5 42 (by decide) rfl (by decide) hJ (Nat.le_of_ble_eq_true rfl) hK _ _ (Below.refl _ _) rfl |> wp_val (v := .int .i64 (n' : Int)) (w' := w') (by go_simp)
              refine ⟨fun a w' hJ hD K' hK => ?_, ?_⟩
              · obtain ⟨d0, -⟩ := hD
                have hx0 := raw (show a.eval (.tmp 42) = .int .i64 (n' : Int) from d0)
                exact per_next fcF_below hnd rfl 6 43 (by decide) rfl (by decide) hJ (Nat.le_of_ble_eq_true rfl) hK _ _ (Below.refl _ _) rfl |> wp_val (v := (.pointer (some ⟨1, n', none⟩))) (w' := w') (by go_simp)
              refine ⟨fun a w' hJ hD K' hK => ?_, ?_⟩
              · obtain ⟨d0, -⟩ := hD
                have hx0 := raw (show a.eval (.tmp 43) = (.pointer (some ⟨1, n', none⟩)) from d0)
                have ec := HCV.out w' hJ.b
                exact per_next fcF_below hnd rfl 7 44 (by decide) rfl (by decide) hJ (Nat.le_of_ble_eq_true rfl) hK _ _ (Below.refl _ _) rfl |> wp_val (v := .string cv) (w' := w') (by go_simp)
              refine ⟨fun a w' hJ hD K' hK => ?_, ?_⟩
              · obtain ⟨d0, -⟩ := hD
                have hx0 := raw (show a.eval (.tmp 44) = .string cv from d0)
                exact per_next fcF_below hnd rfl 8 45 (by decide) rfl (by decide) hJ (Nat.le_of_ble_eq_true rfl) hK _ _ (below_alloc (Below.refl _ _)) (Sl.lit encS_lenR w' #[.string cv] 9 1 [cv] rfl rfl (by simp)) |> wp_val (v := .slice (some ⟨w'.heap.size, 0, none⟩) 1 1) (w' := w'.alloc (.cells #[.string cv] 9)) (by go_simp)
              refine ⟨fun a w' hJ hD K' hK => ?_, ?_⟩
              · have hx0 := raw (show a.eval (.tmp 9) = .slice (some ⟨b3, o3, none⟩) 2 c3 from hJ.old 9 (by decide))
                exact per_next fcF_below hnd rfl 9 46 (by decide) rfl (by decide) hJ (Nat.le_of_ble_eq_true rfl) hK _ _ (Below.refl _ _) rfl |> wp_val (v := .slice (some ⟨b3, o3, none⟩) 2 c3) (w' := w') (by go_simp)
              refine ⟨fun a w' hJ hD K' hK => ?_, ?_⟩
              · obtain ⟨d0, -⟩ := hD
                have hx0 := raw (show a.eval (.tmp 46) = .slice (some ⟨b3, o3, none⟩) 2 c3 from d0)
                exact per_next fcF_below hnd rfl 10 47 (by decide) rfl (by decide) hJ (Nat.le_of_ble_eq_true rfl) hK _ _ (Below.refl _ _) rfl |> wp_val (v := .pointer (some ⟨b3, o3 + 2, none⟩)) (w' := w') (by go_simp)
              refine ⟨fun a w' hJ hD K' hK => ?_, ?_⟩
              · obtain ⟨d0, -⟩ := hD
                have hx0 := raw (show a.eval (.tmp 47) = .pointer (some ⟨b3, o3 + 2, none⟩) from d0)
                have e0 := (hJ.b.cell (p := ⟨b3, o3 + 2, none⟩) hb3l).trans w2'
                have e1 := (hJ.b.cell (p := ⟨b3, o3 + 2 + 1, none⟩) hb3l).trans w3'
                exact per_next fcF_below hnd rfl 11 48 (by decide) rfl (by decide) hJ (Nat.le_of_ble_eq_true rfl) hK _ _ (Below.refl _ _) rfl |> wp_val (v := (.agg #[.slice u'.a u'.n u'.c, .bool u'.op])) (w' := w') (by go_simp)
              refine ⟨fun a w' hJ hD K' hK => ?_, ?_⟩
              · obtain ⟨d0, -⟩ := hD
                have hx1 := raw (show a.eval (.tmp 48) = (.agg #[.slice u'.a u'.n u'.c, .bool u'.op]) from d0)
                refine wp_calls (f := 22) (args := #[(.agg #[.slice u'.a u'.n u'.c, .bool u'.op])]) (w' := w') (by go_simp) (inner_c u' t1 w.heap.size w' (HT1.out.below hJ.b) HOP1.out (Nat.le_trans HBCW.out.size hJ.b.size) (HG.out.g.below (below_call hJ.b HBCW.out)) (by omega)) ?_
                rintro e' w1 ⟨v6, rfl, ho6, hb6⟩
                obtain ⟨a6, c6, rfl⟩ := own_slice ho6
                exact ⟨_, rfl, per_next fcF_below hnd rfl 12 49 (by decide) rfl (by decide) hJ (Nat.le_of_ble_eq_true rfl) hK _ _ hb6 ⟨a6, _, c6, rfl, ho6⟩⟩
              refine ⟨fun a w' hJ hD K' hK => ?_, ?_⟩
              · obtain ⟨d0, d1, -⟩ := hD
                have s2 : Sl encS 1 w' (a.eval (.tmp 45)) [cv] := d0
                obtain ⟨a5, n5, c5, h5, ht5⟩ := d1
                have hx1 := raw (show a.eval (.tmp 49) = .slice a5 n5 c5 from h5)
                have hil := innerT_len t1
                refine wp_calls (f := 21) (args := #[a.eval (.tmp 45), .slice a5 n5 c5, .slice none 0 0]) (w' := w') (by go_simp) (tokens_s [cv] [] (innerT t1) (tokOf cv :: innerT t1) (by simp) _ _ _ w' s2 ht5.sl (Sl.nil _ _ _) (HG.out.g.below (below_call hJ.b HBCW.out)) (fun u hu => by rw [List.mem_singleton.1 hu]; omega) (by simp) (by simp) (by omega) (by simp)) ?_
                rintro e' w1 ⟨a6, n6, c6, rfl, ho6, hb6⟩
                exact ⟨_, rfl, per_next fcF_below hnd rfl 13 50 (by decide) rfl (by decide) hJ (Nat.le_of_ble_eq_true rfl) hK _ _ hb6 ⟨a6, n6, c6, rfl, ho6.base (Nat.le_trans HBCW.out.size hJ.b.size)⟩⟩
              refine ⟨fun a w' hJ hD K' hK => ?_, ?_⟩
              · obtain ⟨d0, d1, -⟩ := hD
                obtain ⟨a4, n4, c4, h4, ht4⟩ := d0
                obtain ⟨a5, n5, c5, h5, ht5⟩ := d1
                have hx0 := raw (show a.eval (.tmp 40) = .slice a4 n4 c4 from h4)
                have hx1 := raw (show a.eval (.tmp 50) = .slice a5 n5 c5 from h5)
                exact per_next fcF_below hnd rfl 14 51 (by decide) rfl (by decide) hJ (Nat.le_of_ble_eq_true rfl) hK _ _ (below_alloc (Below.refl _ _)) ⟨[.slice a4 n4 c4, .slice a5 n5 c5], Sl.lit (enc := fun u => [u]) (fun _ => rfl) w' #[.slice a4 n4 c4, .slice a5 n5 c5] 31 2 [.slice a4 n4 c4, .slice a5 n5 c5] rfl rfl (by simp), two_sl (ht4.sl.below (below_alloc (Below.refl _ _))) (ht5.sl.below (below_alloc (Below.refl _ _)))⟩ |> wp_val (v := .slice (some ⟨w'.heap.size, 0, none⟩) 2 2) (w' := w'.alloc (.cells #[.slice a4 n4 c4, .slice a5 n5 c5] 31)) (by go_simp)
              refine ⟨fun a w' hJ hD K' hK => ?_, ?_⟩
              · obtain ⟨d0, -⟩ := hD
                obtain ⟨vs2, hs2, hl2⟩ := d0
                have hil0 := innerT_len t0
                have hil1 := innerT_len t1
                refine wp_calls (f := 23) (args := #[a.eval (.tmp 51)]) (w' := w') (by go_simp) (concat_T _ vs2 [innerT t0, (tokOf cv :: innerT t1)] w' hs2 hl2 (by simp only [List.flatten_cons, List.flatten_nil, List.append_nil, List.length_append, List.length_cons]; omega)) ?_
                rintro e' w1 ⟨v6, rfl, ho6, hb6⟩
                have ho7 : TR w'.heap.size w1 v6 (innerT t0 ++ (tokOf cv :: innerT t1)) := by have h := ho6; simp only [List.flatten_cons, List.flatten_nil, List.append_nil] at h; exact h
                obtain ⟨a6, c6, rfl⟩ := own_slice ho7
                exact ⟨_, rfl, per_next fcF_below hnd rfl 15 52 (by decide) rfl (by decide) hJ (Nat.le_of_ble_eq_true rfl) hK _ _ hb6 ⟨a6, _, c6, rfl, ho7.base (Nat.le_trans HBCW.out.size hJ.b.size)⟩⟩
              refine ⟨fun a w' hJ hD K' hK => ?_, trivial⟩
              · obtain ⟨d0, -⟩ := hD
                obtain ⟨a6, n6, c6, h6, ht6⟩ := d0
                have hx1 := raw (show a.eval (.tmp 52) = .slice a6 n6 c6 from h6)
                exact per_next fcF_below hnd rfl 16 53 (by decide) rfl (by decide) hJ (Nat.le_of_ble_eq_true rfl) hK _ _ (Below.refl _ _) ⟨a6, n6, c6, rfl, ht6⟩ |> wp_val (v := .agg #[.slice a6 n6 c6, .bool true]) (w' := w') (by go_simp)
            · intro a' w' hJ hF K' hK
              obtain ⟨a6, n6, c6, h8', ht6⟩ := hF 16 (by decide) rfl
              have h8 : a'.eval (.tmp 53) = .agg #[.slice a6 n6 c6, .bool true] := h8'
              have h9 : a'.eval (.tmp 10) = .pointer (some ⟨B, 0, none⟩) := hJ.old 10 (by decide)
              have HB6 := Lib.hid hJ.b
              have hs6 := (HB6.out.block B hszc).trans HSC.out
              have HS6 := Lib.hid hs6
              obtain ⟨y0, y1⟩ := boxS hs6
              obtain ⟨i0, i1⟩ := iceS hs6
              have HT6 := Lib.hid ht6
              have HA := Lib.hid (act_per hJ)
              have hx8 := raw h8
              have hx9 := raw h9
              clear hs6 ht6 h8'
              refine wp_skip (w' := (w'.setCell ⟨B, 0, none⟩ (.slice a6 n6 c6)).setCell ⟨B, 1, none⟩ (.bool true)) (by go_simp) ?_
              show K' (a'.put none undef) _
              refine hK _ _ ?_
              show K0 a' _
              refine hK0 _ _ ?_
              have e' := HA.out
              clear HA hJ hF hK hx8 hx9
              obtain ⟨x37, hx37⟩ : ∃ v, a'.eval (.tmp 37) = v := ⟨_, rfl⟩
              obtain ⟨x38, hx38⟩ : ∃ v, a'.eval (.tmp 38) = v := ⟨_, rfl⟩
              obtain ⟨x39, hx39⟩ : ∃ v, a'.eval (.tmp 39) = v := ⟨_, rfl⟩
              obtain ⟨x40, hx40⟩ : ∃ v, a'.eval (.tmp 40) = v := ⟨_, rfl⟩
              obtain ⟨x41, hx41⟩ : ∃ v, a'.eval (.tmp 41) = v := ⟨_, rfl⟩
              obtain ⟨x42, hx42⟩ : ∃ v, a'.eval (.tmp 42) = v := ⟨_, rfl⟩
              obtain ⟨x43, hx43⟩ : ∃ v, a'.eval (.tmp 43) = v := ⟨_, rfl⟩
              obtain ⟨x44, hx44⟩ : ∃ v, a'.eval (.tmp 44) = v := ⟨_, rfl⟩
              obtain ⟨x45, hx45⟩ : ∃ v, a'.eval (.tmp 45) = v := ⟨_, rfl⟩
              obtain ⟨x46, hx46⟩ : ∃ v, a'.eval (.tmp 46) = v := ⟨_, rfl⟩
              obtain ⟨x47, hx47⟩ : ∃ v, a'.eval (.tmp 47) = v := ⟨_, rfl⟩
              obtain ⟨x48, hx48⟩ : ∃ v, a'.eval (.tmp 48) = v := ⟨_, rfl⟩
              obtain ⟨x49, hx49⟩ : ∃ v, a'.eval (.tmp 49) = v := ⟨_, rfl⟩
              obtain ⟨x50, hx50⟩ : ∃ v, a'.eval (.tmp 50) = v := ⟨_, rfl⟩
              obtain ⟨x51, hx51⟩ : ∃ v, a'.eval (.tmp 51) = v := ⟨_, rfl⟩
              obtain ⟨x52, hx52⟩ : ∃ v, a'.eval (.tmp 52) = v := ⟨_, rfl⟩
              simp only [patch, hx37, hx38, hx39, hx40, hx41, hx42, hx43, hx44, hx45, hx46, hx47, hx48, hx49, hx50, hx51, hx52, h8] at e'
              clear hx37 hx38 hx39 hx40 hx41 hx42 hx43 hx44 hx45 hx46 hx47 hx48 hx49 hx50 hx51 hx52 h8 h9
              simp only [List.set_cons_zero, List.set_cons_succ] at e'
              subst e'
              go_upto_region 27 with fail
              refine wp_cut (fun W => Below wr.heap.size wr W ∧ W.heap[B]? = some (.cells #[.slice a6 n6 c6, .bool true] 63 (0, 0)) ∧ TR w.heap.size W (.slice a6 n6 c6) (innerT t0 ++ (tokOf cv :: innerT t1))) ⟨below_set (by simp; omega) (below_set (by simp; omega) (below_call HB6.out HBC.out)), set_box1 (set_box0 HS6.out), (HT6.out.set HS6.out).set (set_box0 HS6.out)⟩ ?_
              rintro wd ⟨hbd, hsd, htr⟩
              have HTR := Lib.hid htr
              clear htr
              obtain ⟨y0, y1⟩ := boxS hsd
              have HSD := Lib.hid (HTK.out.below hbd)
              have HBD := Lib.hid hbd
              have hbz := hbd.size
              have hwz := HBW.out.size
              clear hsd hbd
              go_wp2_with (first
                | (at_builtin; refine wpList_app _ rfl (.tmp 146) (.tmp 148) 59 rfl w.heap.size 63 _ 2 32 Tryz.underlying59 info_sh rfl (by decide) encSh encSh_len one_Sh _ _ _ rfl (own_below HSD.out.row (below_alloc (Below.refl _ _))) _ [⟨a6, n6, c6, true⟩] rfl (by refine Sl.lit' ?_ _ _ _ _ _ _ ?_ ?_ ?_ ?_ <;> first | (intro _; rfl) | rfl | decide | (simp; done)) (by unfold maxLen; (try simp); (try omega)) (by (try simp); (try omega)) (by (try simp); (try omega)) ?_; intro v8 w8 ho8 hg8))
              go_roundg (L - (k + 1))
              case measure => omega
              case rel =>
                refine ⟨k + 1, by go_num, by omega, by omega, (show TkJ x w (k + 1) v8 w8 from ⟨below_grown (below_call (below_alloc (Below.refl _ _)) (below_call HBD.out HBW.out)) hg8 (own_ge HSD.out.row (Nat.le_refl _)), _, _, StkW.push (s := ⟨a6, n6, c6, true⟩) (t := ((innerT t0 ++ (tokOf cv :: innerT t1)), true)) (HSD.out.below (below_alloc (Below.refl _ _))) ((HTR.out).below (below_alloc (Below.refl _ _))) rfl ho8 hg8, HNY.out⟩)⟩
        · obtain rfl : 1 = n := by rw [← HN.out, e]; rfl
          have hvl1 : vs.length = m + 1 := by have := HM.out; omega
          obtain ⟨u, t0, hu, ht0, htr0, hop0, hmem0⟩ := HTOPS.out m (by omega)
          have hlt0 : t0.1.length ≤ 5 * k := HSM.out t0 hmem0
          have hdv : vs.drop m = [u] := drop_last1 hvl1 hu
          have HDS := Lib.hid (show ss.drop m = [t0] from drop_last1 (by rw [← HLN.out]; exact hvl1) ht0)
          have HT0 := Lib.hid (htr0.below HBC.out)
          rw [hdv] at htop
          obtain ⟨b3, o3, c3, rfl, hb3l, hc3, hsc3⟩ := shCells htop (n := 0) rfl
          obtain ⟨w0, w1⟩ := hsc3 0 u rfl
          rw [Nat.zero_mul, Nat.add_zero] at w0 w1
          have hc3z : (1 : Int) ≤ (c3 : Int) := by omega
          have HOP0 := Lib.hid hop0
          have HVL := Lib.hid hvl1
          clear hsc3 htop hdv hu ht0 hmem0 hvl1 htr0 hop0
          obtain ⟨tn, rfl⟩ : ∃ tn : Nat, t = tn := ⟨t.toNat, by omega⟩
          have q0 : p.k = 6 := by rw [e]; rfl
          have q2 : p.t = (tn : Int) := by rw [e]; rfl
          rw [q0] at z0
          rw [q2] at z2
          have HNY := Lib.hid (show ShI x (k + 1) (ss.take m ++ [((tokOf (convB (tn : Int)) :: tokOf ⟨#[40]⟩ :: (t0.1 ++ [tokOf ⟨#[41]⟩])), false)]) from by have h := HNX2.out; rw [HDS.out, show showP p [t0] = ((tokOf (convB (tn : Int)) :: tokOf ⟨#[40]⟩ :: (t0.1 ++ [tokOf ⟨#[41]⟩])), false) from by rw [e]; rfl] at h; exact h)
          have hcz := convB_size (tn : Int)
          have HCV := Lib.hid (fun W (hW : Below wc.heap.size wc W) => (HG.out.below (below_call hW HBCW.out)).conv tn (convB (tn : Int)) (conv_at tn (by omega) (by omega)))
          have htn5 : (tn : Int) < 5 := by omega
          have htn0 : (0 : Int) ≤ (tn : Int) := Int.natCast_nonneg _
          obtain ⟨cv, hcv⟩ : ∃ cv, convB (tn : Int) = cv := ⟨_, rfl⟩
          rw [hcv] at HCV HNY hcz
          clear e q0 q2 hcv h1 h2
          go_upto_region 24 with fail
          rename_i K0 hK0
          have hnd : [120, 121, 122, 123, 124, 125, 126, 127, 128, 129, 130, 131].Nodup := by decide
          refine wp_region_perF (by kernel_rfl) _ _ (dropLast_last _ (by simp)) [10, 11] [[], [0], [1], [2], [3], [], [5], [6], [7], [], [4, 8, 9], []] (by kernel_rfl) (fcF [.val (.pointer (some ⟨wr.heap.size, 2, none⟩)), .val (.int .i64 (tn : Int)), .val (.pointer (some ⟨0, tn, none⟩)), .val (.string cv), .txt [cv, ⟨#[40]⟩], .val (.slice (some ⟨b3, o3, none⟩) 1 c3), .val (.pointer (some ⟨b3, o3, none⟩)), .val (.pointer (some ⟨b3, o3, none⟩)), .val (.slice u.a u.n u.c), .txt [⟨#[41]⟩], .tok w.heap.size (tokOf cv :: tokOf ⟨#[40]⟩ :: (t0.1 ++ [tokOf ⟨#[41]⟩])), .val (.pointer (some ⟨B, 0, none⟩))]) [120, 121, 122, 123, 124, 125, 126, 127, 128, 129, 130, 131] 200 _ _ rfl ?_ ?_
          · dsimp only [List.dropLast]
            refine ⟨fun a w' hJ hD K' hK => ?_, ?_⟩
            · have hx0 := raw (show a.eval (.tmp 7) = .pointer (some ⟨wr.heap.size, 0, none⟩) from hJ.old 7 (by decide))
              exact per_next fcF_below hnd rfl 0 120 (by decide) rfl (by decide) hJ (Nat.le_of_ble_eq_true rfl) hK _ _ (Below.refl _ _) rfl |> wp_val (v := .pointer (some ⟨wr.heap.size, 2, none⟩)) (w' := w') (by go_simp)
            refine ⟨fun a w' hJ hD K' hK => ?_, ?_⟩
            · obtain ⟨d0, -⟩ := hD
              have hx0 := raw (show a.eval (.tmp 120) = .pointer (some ⟨wr.heap.size, 2, none⟩) from d0)
              have e2 := (hJ.b.cell (p := ⟨wr.heap.size, 2, none⟩) hPw).trans z2
              exact per_next fcF_below hnd rfl 1 121 (by decide) rfl (by decide) hJ (Nat.le_of_ble_eq_true rfl) hK _ _ (Below.refl _ _) rfl |> wp_val (v := .int .i64 (tn : Int)) (w' := w') (by go_simp)
            refine ⟨fun a w' hJ hD K' hK => ?_, ?_⟩
            · obtain ⟨d0, -⟩ := hD
              have hx0 := raw (show a.eval (.tmp 121) = .int .i64 (tn : Int) from d0)
              exact per_next fcF_below hnd rfl 2 122 (by decide) rfl (by decide) hJ (Nat.le_of_ble_eq_true rfl) hK _ _ (Below.refl _ _) rfl |> wp_val (v := .pointer (some ⟨0, tn, none⟩)) (w' := w') (by go_simp)
            refine ⟨fun a w' hJ hD K' hK => ?_, ?_⟩
            · obtain ⟨d0, -⟩ := hD
              have hx0 := raw (show a.eval (.tmp 122) = .pointer (some ⟨0, tn, none⟩) from d0)
              have ec := HCV.out w' hJ.b
              exact per_next fcF_below hnd rfl 3 123 (by decide) rfl (by decide) hJ (Nat.le_of_ble_eq_true rfl) hK _ _ (Below.refl _ _) rfl |> wp_val (v := .string cv) (w' := w') (by go_simp)
            refine ⟨fun a w' hJ hD K' hK => ?_, ?_⟩
            · obtain ⟨d0, -⟩ := hD
              have hx0 := raw (show a.eval (.tmp 123) = .string cv from d0)
              exact per_next fcF_below hnd rfl 4 124 (by decide) rfl (by decide) hJ (Nat.le_of_ble_eq_true rfl) hK _ _ (below_alloc (Below.refl _ _)) (Sl.lit encS_lenR w' #[.string cv, .string ⟨#[40]⟩] 9 2 [cv, ⟨#[40]⟩] rfl rfl (by simp)) |> wp_val (v := .slice (some ⟨w'.heap.size, 0, none⟩) 2 2) (w' := w'.alloc (.cells #[.string cv, .string ⟨#[40]⟩] 9)) (by go_simp)
            refine ⟨fun a w' hJ hD K' hK => ?_, ?_⟩
            · have hx0 := raw (show a.eval (.tmp 9) = .slice (some ⟨b3, o3, none⟩) 1 c3 from hJ.old 9 (by decide))
              exact per_next fcF_below hnd rfl 5 125 (by decide) rfl (by decide) hJ (Nat.le_of_ble_eq_true rfl) hK _ _ (Below.refl _ _) rfl |> wp_val (v := .slice (some ⟨b3, o3, none⟩) 1 c3) (w' := w') (by go_simp)
            refine ⟨fun a w' hJ hD K' hK => ?_, ?_⟩
            · obtain ⟨d0, -⟩ := hD
              have hx0 := raw (show a.eval (.tmp 125) = .slice (some ⟨b3, o3, none⟩) 1 c3 from d0)
              exact per_next fcF_below hnd rfl 6 126 (by decide) rfl (by decide) hJ (Nat.le_of_ble_eq_true rfl) hK _ _ (Below.refl _ _) rfl |> wp_val (v := .pointer (some ⟨b3, o3, none⟩)) (w' := w') (by go_simp)
            refine ⟨fun a w' hJ hD K' hK => ?_, ?_⟩
            · obtain ⟨d0, -⟩ := hD
              have hx0 := raw (show a.eval (.tmp 126) = .pointer (some ⟨b3, o3, none⟩) from d0)
              exact per_next fcF_below hnd rfl 7 127 (by decide) rfl (by decide) hJ (Nat.le_of_ble_eq_true rfl) hK _ _ (Below.refl _ _) rfl |> wp_val (v := .pointer (some ⟨b3, o3, none⟩)) (w' := w') (by go_simp)
            refine ⟨fun a w' hJ hD K' hK => ?_, ?_⟩
            · obtain ⟨d0, -⟩ := hD
              have hx0 := raw (show a.eval (.tmp 127) = .pointer (some ⟨b3, o3, none⟩) from d0)
              have e0 := (hJ.b.cell (p := ⟨b3, o3, none⟩) hb3l).trans w0
              exact per_next fcF_below hnd rfl 8 128 (by decide) rfl (by decide) hJ (Nat.le_of_ble_eq_true rfl) hK _ _ (Below.refl _ _) rfl |> wp_val (v := .slice u.a u.n u.c) (w' := w') (by go_simp)
            refine ⟨fun a w' hJ hD K' hK => ?_, ?_⟩
            · exact per_next fcF_below hnd rfl 9 129 (by decide) rfl (by decide) hJ (Nat.le_of_ble_eq_true rfl) hK _ _ (below_alloc (Below.refl _ _)) (Sl.lit encS_lenR w' #[.string ⟨#[41]⟩] 9 1 [⟨#[41]⟩] rfl rfl (by simp)) |> wp_val (v := .slice (some ⟨w'.heap.size, 0, none⟩) 1 1) (w' := w'.alloc (.cells #[.string ⟨#[41]⟩] 9)) (by go_simp)
            refine ⟨fun a w' hJ hD K' hK => ?_, ?_⟩
            · obtain ⟨d0, d1, d2, -⟩ := hD
              have s2 : Sl encS 1 w' (a.eval (.tmp 124)) [cv, ⟨#[40]⟩] := d0
              have hx1 := raw (show a.eval (.tmp 128) = .slice u.a u.n u.c from d1)
              have s7 : Sl encS 1 w' (a.eval (.tmp 129)) [⟨#[41]⟩] := d2
              refine wp_calls (f := 21) (args := #[a.eval (.tmp 124), .slice u.a u.n u.c, a.eval (.tmp 129)]) (w' := w') (by go_simp) (tokens_s [cv, ⟨#[40]⟩] [⟨#[41]⟩] t0.1 (tokOf cv :: tokOf ⟨#[40]⟩ :: (t0.1 ++ [tokOf ⟨#[41]⟩])) rfl _ _ _ w' s2 (HT0.out.below hJ.b).sl s7 (HG.out.g.below (below_call hJ.b HBCW.out)) (fun u hu => by simp only [List.mem_cons, List.not_mem_nil, or_false] at hu; rcases hu with rfl | rfl; (focus (omega)); (focus (decide))) (by decide) (by simp) (by omega) (by simp)) ?_
              rintro e' w1 ⟨a6, n6, c6, rfl, ho6, hb6⟩
              exact ⟨_, rfl, per_next fcF_below hnd rfl 10 130 (by decide) rfl (by decide) hJ (Nat.le_of_ble_eq_true rfl) hK _ _ hb6 ⟨a6, n6, c6, rfl, ho6.base (Nat.le_trans HBCW.out.size hJ.b.size)⟩⟩
            refine ⟨fun a w' hJ hD K' hK => ?_, trivial⟩
            · have hx0 := raw (show a.eval (.tmp 10) = .pointer (some ⟨B, 0, none⟩) from hJ.old 10 (by decide))
              exact per_next fcF_below hnd rfl 11 131 (by decide) rfl (by decide) hJ (Nat.le_of_ble_eq_true rfl) hK _ _ (Below.refl _ _) rfl |> wp_val (v := .pointer (some ⟨B, 0, none⟩)) (w' := w') (by go_simp)
          · intro a' w' hJ hF K' hK
            obtain ⟨a6, n6, c6, h8', ht6⟩ := hF 10 (by decide) rfl
            have h8 : a'.eval (.tmp 130) = .slice a6 n6 c6 := h8'
            have h9 : a'.eval (.tmp 131) = .pointer (some ⟨B, 0, none⟩) := hF 11 (by decide) rfl
            have HB6 := Lib.hid hJ.b
            have hs6 := (HB6.out.block B hszc).trans HSC.out
            have HS6 := Lib.hid hs6
            obtain ⟨y0, y1⟩ := boxS hs6
            obtain ⟨i0, i1⟩ := iceS hs6
            have HT6 := Lib.hid ht6
            have HA := Lib.hid (act_per hJ)
            have hx8 := raw h8
            have hx9 := raw h9
            clear hs6 ht6 h8'
            refine wp_skip (w' := w'.setCell ⟨B, 0, none⟩ (.slice a6 n6 c6)) (by go_simp) ?_
            show K' (a'.put none undef) _
            refine hK _ _ ?_
            show K0 a' _
            refine hK0 _ _ ?_
            have e' := HA.out
            clear HA hJ hF hK hx8 hx9
            obtain ⟨x120, hx120⟩ : ∃ v, a'.eval (.tmp 120) = v := ⟨_, rfl⟩
            obtain ⟨x121, hx121⟩ : ∃ v, a'.eval (.tmp 121) = v := ⟨_, rfl⟩
            obtain ⟨x122, hx122⟩ : ∃ v, a'.eval (.tmp 122) = v := ⟨_, rfl⟩
            obtain ⟨x123, hx123⟩ : ∃ v, a'.eval (.tmp 123) = v := ⟨_, rfl⟩
            obtain ⟨x124, hx124⟩ : ∃ v, a'.eval (.tmp 124) = v := ⟨_, rfl⟩
            obtain ⟨x125, hx125⟩ : ∃ v, a'.eval (.tmp 125) = v := ⟨_, rfl⟩
            obtain ⟨x126, hx126⟩ : ∃ v, a'.eval (.tmp 126) = v := ⟨_, rfl⟩
            obtain ⟨x127, hx127⟩ : ∃ v, a'.eval (.tmp 127) = v := ⟨_, rfl⟩
            obtain ⟨x128, hx128⟩ : ∃ v, a'.eval (.tmp 128) = v := ⟨_, rfl⟩
            obtain ⟨x129, hx129⟩ : ∃ v, a'.eval (.tmp 129) = v := ⟨_, rfl⟩
            simp only [patch, hx120, hx121, hx122, hx123, hx124, hx125, hx126, hx127, hx128, hx129, h8, h9] at e'
            clear hx120 hx121 hx122 hx123 hx124 hx125 hx126 hx127 hx128 hx129 h8 h9
            simp only [List.set_cons_zero, List.set_cons_succ] at e'
            subst e'
            go_upto_region 27 with fail
            refine wp_cut (fun W => Below wr.heap.size wr W ∧ W.heap[B]? = some (.cells #[.slice a6 n6 c6, .bool false] 63 (0, 0)) ∧ TR w.heap.size W (.slice a6 n6 c6) (tokOf cv :: tokOf ⟨#[40]⟩ :: (t0.1 ++ [tokOf ⟨#[41]⟩]))) ⟨below_set (by simp; omega) (below_call HB6.out HBC.out), set_box0 HS6.out, HT6.out.set HS6.out⟩ ?_
            rintro wd ⟨hbd, hsd, htr⟩
            have HTR := Lib.hid htr
            clear htr
            obtain ⟨y0, y1⟩ := boxS hsd
            have HSD := Lib.hid (HTK.out.below hbd)
            have HBD := Lib.hid hbd
            have hbz := hbd.size
            have hwz := HBW.out.size
            clear hsd hbd
            go_wp2_with (first
              | (at_builtin; refine wpList_app _ rfl (.tmp 146) (.tmp 148) 59 rfl w.heap.size 63 _ 2 32 Tryz.underlying59 info_sh rfl (by decide) encSh encSh_len one_Sh _ _ _ rfl (own_below HSD.out.row (below_alloc (Below.refl _ _))) _ [⟨a6, n6, c6, false⟩] rfl (by refine Sl.lit' ?_ _ _ _ _ _ _ ?_ ?_ ?_ ?_ <;> first | (intro _; rfl) | rfl | decide | (simp; done)) (by unfold maxLen; (try simp); (try omega)) (by (try simp); (try omega)) (by (try simp); (try omega)) ?_; intro v8 w8 ho8 hg8))
            go_roundg (L - (k + 1))
            case measure => omega
            case rel =>
              refine ⟨k + 1, by go_num, by omega, by omega, (show TkJ x w (k + 1) v8 w8 from ⟨below_grown (below_call (below_alloc (Below.refl _ _)) (below_call HBD.out HBW.out)) hg8 (own_ge HSD.out.row (Nat.le_refl _)), _, _, StkW.push (s := ⟨a6, n6, c6, false⟩) (t := ((tokOf cv :: tokOf ⟨#[40]⟩ :: (t0.1 ++ [tokOf ⟨#[41]⟩])), false)) (HSD.out.below (below_alloc (Below.refl _ _))) ((HTR.out).below (below_alloc (Below.refl _ _))) rfl ho8 hg8, HNY.out⟩)⟩
    · obtain rfl : k = L := by omega
      have hltz : ¬ (k : Int) < (k : Int) := by omega
      obtain ⟨bw, vs, ss, hst, hsi⟩ := HJ.out
      obtain ⟨s1, rfl, hs1⟩ := HDN.out ss hsi
      have hvl := hst.len
      obtain ⟨u, rfl⟩ := List.length_eq_one_iff.1 (show vs.length = 1 from hvl)
      have htr := (hst.tok 0 u s1 rfl rfl).1
      rw [hs1] at htr
      have HTR := Lib.hid htr
      have HBW := Lib.hid bw
      obtain ⟨b3, o3, c3, rfl, hb3l, hc3, hsc3⟩ := shCells (Sl.own encSh_len hst.row rfl) (n := 0) rfl
      obtain ⟨w0, w1⟩ := hsc3 0 u rfl
      rw [Nat.zero_mul, Nat.add_zero] at w0 w1
      have hc3z : (1 : Int) ≤ (c3 : Int) := by omega
      clear hsc3 hst hsi hvl htr bw
      go_wp2
      go_ret2
      exact ⟨⟨_, rfl, HTR.out⟩, HBW.out⟩
end Go.Proofs.YtbnelgniekcjdaaGreatDoor
