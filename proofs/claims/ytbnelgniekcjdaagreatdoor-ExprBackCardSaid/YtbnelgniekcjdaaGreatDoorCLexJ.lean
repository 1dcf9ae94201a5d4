/- lex.Tokens of a plain text. -/
import Derived.Test.YtbnelgniekcjdaaGreatDoorCLexI
set_option linter.unusedSimpArgs false
set_option linter.unusedVariables false
namespace Go.Proofs.YtbnelgniekcjdaaGreatDoor
open Go.RowKit Cap
set_option maxRecDepth 1000000

/-- What Tokens hands back, of a plain text. -/
def ToksR (l : List Tok) (w : World) (e : Ending) (w' : World) : Prop :=
  ∃ v, e = .returned (.tuple #[v, .agg #[.int .i64 0, .int .i64 0]]) ∧ w'.ownsRow w.heap.size 38 5 v l.length (l.flatMap encTok) ∧ Below w.heap.size w w'
theorem own_wk {w : World} {base base' : Nat} {e : TypeId} {k : Nat} {v : Value} {n : Nat} {xs : List Value} (h : w.ownsRow base e k v n xs) (hb : base' ≤ base) : w.ownsRow base' e k v n xs := by
  refine ⟨h.1, ?_⟩
  rcases h.2 with h | ⟨g, cap, cur, rfl, hg, rest⟩
  · exact .inl h
  · exact .inr ⟨g, cap, cur, rfl, Nat.le_trans hb hg, rest⟩
theorem own_ch {xb : Nat} {w w' : World} {base : Nat} {e : TypeId} {k : Nat} {v : Value} {n : Nat} {xs : List Value} (h : w.ownsRow base e k v n xs) (hx : xb < base) (hc : Ch xb w w') : w'.ownsRow base e k v n xs :=
  own_keep h fun g hg => by
    have := own_lt h g hg
    exact hc.keeps g this.2 (by omega)
theorem trim_at (L : List UInt8) (a : Nat) (q : List UInt8) (hq : q = (L.drop a).dropWhile isBl) : L.drop (L.length - q.length) = q ∧ q.length ≤ L.length - a := by
  obtain ⟨t, ht⟩ := List.dropWhile_suffix isBl (l := L.drop a)
  rw [← hq] at ht
  have h2 : L = (L.take a ++ t) ++ q := by rw [List.append_assoc, ht, List.take_append_drop]
  refine ⟨drop_back _ _ h2, ?_⟩
  have h3 : (t ++ q).length = (L.drop a).length := by rw [ht]
  rw [List.length_append, List.length_drop] at h3
  omega
theorem res_toks (tmps : Array Value) (W : World) (B : Nat) {v f c : Value} (h : W.heap[B]? = some (.cells #[f, c] 34 (0, 0))) (h2 : tmps.getD 2 undef = v) (h3 : tmps.getD 3 undef = .pointer (some ⟨B, 0, none⟩)) :
    (results Tryz.f15 tmps).run Tryz.prog W = .ok (.tuple #[v, .agg #[f, c]]) W := by
  have c0 := cell_of_row _ _ 0 _ _ _ h
  have c1 := cell_of_row _ _ 1 _ _ _ h
  simp at c0 c1
  have e : (results Tryz.f15 tmps).run Tryz.prog W = ((asAddr (tmps.getD 3 undef)).run Tryz.prog W).andThen fun a w₁ => ((loadVar 34 a).run Tryz.prog w₁).andThen fun x w₂ => .ok (.tuple #[tmps.getD 2 undef, x]) w₂ := by
    simp only [results, Tryz.results15]
    simp [Sem.run_bind, Result.andThen]
  rw [e, h2, h3]
  go_simp
set_option maxHeartbeats 16000000 in
theorem tokens_c (s : ByteArray) (l : List Tok) (w : World) (hG : GL w) (hl : textToks s = some l) : Calls Tryz.prog 15 #[.string s] w (ToksR l w) := by
  unfold textToks at hl
  have hs : s.size < 4096 := by
    by_cases h : s.size < 4096
    · exact h
    · rw [if_neg h] at hl; cases hl
  rw [if_pos hs] at hl
  have HG := Lib.hid hG
  have HL := Lib.hid hl
  have hsz : ¬ (65536 : Int) < (s.size : Int) := by omega
  have hs0 : (0 : Int) ≤ (s.size : Int) := Int.natCast_nonneg _
  have hsz' : (s.size : Int) < 4096 := by omega
  clear hG hl
  go_enter Tryz.func15, Tryz.ntmps15
  go_upto_region 5 with fail
  have hx0 : ((w.alloc (.cells #[.int .i64 0, .int .i64 0] 34)).alloc (.cells #[.string s, .int .i64 0] 78)).heap[w.heap.size + 1]? = some (.cells #[.string s, .int .i64 0] 78 (0, 0)) := by
    have h := heap_alloc_new (w.alloc (.cells #[.int .i64 0, .int .i64 0] 34)) (.cells #[.string s, .int .i64 0] 78)
    rwa [World.size_alloc] at h
  have hf0 : ((w.alloc (.cells #[.int .i64 0, .int .i64 0] 34)).alloc (.cells #[.string s, .int .i64 0] 78)).heap[w.heap.size]? = some (.cells #[.int .i64 0, .int .i64 0] 34 (0, 0)) := hpA (heap_alloc_new _ _)
  have HX0 := Lib.hid hx0
  have HF0 := Lib.hid hf0
  clear hx0 hf0
  go_loopg [5] (s.size + 1) (fun gg s5 wr => ∃ (p f : Nat) (d r : List Tok), f ≤ gg ∧ p ≤ s.size ∧ d.length ≤ p ∧ Aside (Below w.heap.size w wr) ∧ Aside (w.heap.size + 1 + 1 ≤ wr.heap.size) ∧ Aside (wr.heap[w.heap.size]? = some (.cells #[.int .i64 0, .int .i64 0] 34 (0, 0))) ∧ Aside (Sc (w.heap.size + 1) s p wr) ∧ Aside (wr.ownsRow (w.heap.size + 1 + 1) 38 5 s5 d.length (d.flatMap encTok)) ∧ Aside (tokS f p (s.data.toList.drop p) = some r) ∧ Aside (d ++ r = l))
  case atStart => exact ⟨0, s.size + 1, [], l, by omega, Nat.zero_le _, Nat.zero_le _, (show Below w.heap.size w _ by (repeat' (first | (with_reducible exact Below.refl _ _) | (with_reducible refine below_alloc ?_) | (with_reducible refine below_drew ?_) | (with_reducible refine below_drewN ?_) | (with_reducible refine below_set (by first | (simp; done) | (simp; omega)) ?_) | (with_reducible refine below_call (by with_reducible assumption) ?_)))), (show _ ≤ _ by simp), HF0.out, HX0.out, (show World.ownsRow _ _ _ _ _ _ _ from World.ownsRow_nil _ _ _ _), HL.out, rfl⟩
  case round =>
    obtain ⟨p, f, d, r, hf, hp, hdp, HB, HZ, HFR, HS, HO, HT, HE⟩ := hrel
    cases f with
    | zero => cases HT.out
    | succ f =>
      have ht := HT.out
      rw [tokS] at ht
      obtain ⟨q, hq⟩ : ∃ q, (s.data.toList.drop p).dropWhile isBl = q := ⟨_, rfl⟩
      obtain ⟨hd1, hd2⟩ := trim_at s.data.toList p q hq.symm
      have hsl : s.data.toList.length = s.size := by simp
      rw [hsl] at hd1 hd2
      simp only [hq, List.length_drop, hsl] at ht
      obtain ⟨n, hn⟩ : ∃ n, s.size - q.length = n := ⟨_, rfl⟩
      have hpn : p + (s.size - p - q.length) = n := by omega
      rw [hpn] at ht
      rw [hn] at hd1
      have hnote : isNote q = false := by
        cases h : isNote q with
        | false => rfl
        | true => rw [h, if_pos rfl] at ht; cases ht
      rw [if_neg (by rw [hnote]; decide)] at ht
      have HSK := Lib.hid (skip_c (w.heap.size + 1) s p wr HS.out (by omega) hp q hq.symm hnote)
      rw [hn] at HSK
      have hns : n ≤ s.size := by omega
      have hpn' : p ≤ n := by omega
      have hn0 : (0 : Int) ≤ (n : Int) := Int.natCast_nonneg _
      have hb := HB.out
      have hfr := HFR.out
      have hdlt : ¬ (4096 : Int) ≤ (d.length : Int) := by omega
      obtain ⟨A, cc, hv⟩ := own_slice HO.out
      subst hv
      have HO' := Lib.hid HO.out
      have HD1 := Lib.hid hd1
      have hz := HZ.out
      have hown : ∀ g, (Value.slice A d.length cc).ownBlock = some g → w.heap.size + 1 + 1 ≤ g := fun g e => (own_lt HO'.out g e).1
      have hnef : (Value.slice A d.length cc).ownBlock ≠ some w.heap.size := fun e => by have := hown _ e; omega
      have HOW := Lib.hid hown
      have HNF := Lib.hid hnef
      have HE' := Lib.hid HE.out
      have HSKP := Lib.hid (show ∀ w1, Ch (w.heap.size + 1) wr w1 → Below w.heap.size w w1 ∧ w1.heap[w.heap.size]? = some (.cells #[.int .i64 0, .int .i64 0] 34 (0, 0)) ∧ w1.ownsRow (w.heap.size + 1 + 1) 38 5 (.slice A d.length cc) d.length (d.flatMap encTok) ∧ w.heap.size + 1 + 1 ≤ w1.heap.size from fun w1 hc =>
        ⟨hb.trans (hc.below (by omega) (by have := hb.size; omega)), hc.block hfr (by omega), own_ch HO'.out (by omega) hc, Nat.le_trans hz hc.size⟩)
      clear hown hnef HT HE HO HS HFR hfr HB HZ
      cases q with
      | nil =>
        simp only at ht
        have hnn : n = s.size := by rw [← hn]; simp
        have hnz : ((n : Int) == (s.size : Int)) = true := by rw [hnn]; simp
        have HR := Lib.hid (show r = [⟨4, ⟨#[]⟩, 0, 0, n⟩] from (Option.some.inj ht).symm)
        clear ht hnn hd1 hd2 hq hpn hn hnote
        go_wp2_with (first
          | (go_at_call 29; refine HSK.out.mono ?_; rintro e w1 ⟨rfl, hc1, hs1⟩; obtain ⟨x0, x1, x2⟩ := hs1.cells; obtain ⟨hb1, hf1, ho1, hz1⟩ := HSKP.out _ hc1)
          | (at_builtin; refine wpList_app _ rfl (.tmp 39) (.tmp 42) 31 rfl (w.heap.size + 1 + 1) 38 _ 5 48 Tryz.underlying31 info_tok rfl (by decide) encTok encTok_len one_Tok (.slice A d.length cc) d.length (d.flatMap encTok) rfl (own_below ho1 (by (repeat' (first | (with_reducible exact Below.refl _ _) | (with_reducible refine below_alloc ?_) | (with_reducible refine below_drew ?_) | (with_reducible refine below_drewN ?_) | (with_reducible refine below_set (by first | (simp; done) | (simp; omega)) ?_) | (with_reducible refine below_call (by with_reducible assumption) ?_))))) _ [⟨4, ⟨#[]⟩, 0, 0, n⟩] rfl (by refine Sl.lit' ?_ _ _ _ _ _ _ ?_ ?_ ?_ ?_ <;> first | (intro _; rfl) | rfl | decide | (simp; done)) (by unfold maxLen; simp; omega) (by simp; omega) (by simp; omega) ?_; intro v2 w2 ho2 hg2; have hf2 := hpG hg2 HNF.out (hpA hf1); have g20 := cell_of_row _ _ 0 _ _ _ hf2; have g21 := cell_of_row _ _ 1 _ _ _ hf2; have g22 := frozen_of_row _ _ 0 _ _ hf2; have g23 := frozen_of_row _ _ 1 _ _ hf2; simp at g20 g21))
        refine bodyPost_ret (res_toks _ _ w.heap.size (heap_setCell_same _ _ 1 _ _ _ (heap_setCell_same w2 w.heap.size 0 _ _ _ hf2)) rfl rfl) rfl ⟨v2, rfl, ?_, ?_⟩
        · rw [← HE'.out, HR.out, List.length_append, List.flatMap_append]
          refine own_wk (own_keep ho2 fun g hg => ?_) (show w.heap.size ≤ w.heap.size + 1 + 1 by omega)
          have hge := (own_lt ho2 g hg).1
          exact (heap_setCell_other _ ⟨w.heap.size, 1, none⟩ g _ (by show g ≠ w.heap.size; omega)).trans (heap_setCell_other w2 ⟨w.heap.size, 0, none⟩ g _ (by show g ≠ w.heap.size; omega))
        · exact below_set (Nat.le_refl _) (below_set (Nat.le_refl _) (below_grown (below_alloc hb1) hg2 fun g hg => by have := HOW.out g hg; omega))
      | cons c q' =>
        simp only at ht
        cases h1 : oneS (c :: q') with
        | none => rw [h1] at ht; cases ht
        | some tm =>
          obtain ⟨⟨tk, ts, tn, ty, tp⟩, m⟩ := tm
          rw [h1] at ht
          simp only at ht
          cases h2 : tokS f (n + m) ((c :: q').drop m) with
          | none => rw [h2] at ht; cases ht
          | some r' =>
            rw [h2] at ht
            simp only at ht
            obtain ⟨hm1, hm2, hm3⟩ := oneS_len h1
            simp only at hm3
            subst hm3
            have hlq : (c :: q').length = s.size - n := by omega
            have hnm : n + m ≤ s.size := by omega
            have hnz : ((n : Int) == (s.size : Int)) = false := by
              rw [beq_eq_false_iff_ne]
              intro h
              have : (c :: q').length = 0 := by omega
              simp at this
            have HR := Lib.hid (show r = ⟨tk, ts, tn, ty, n⟩ :: r' from (Option.some.inj ht).symm)
            have HT2 := Lib.hid (show tokS f (n + m) (s.data.toList.drop (n + m)) = some r' from by rw [← List.drop_drop, hd1]; exact h2)
            have HON := Lib.hid (fun w1 (hc : Ch (w.heap.size + 1) wr w1) (hs1 : Sc (w.heap.size + 1) s n w1) => one_c (w.heap.size + 1) s n w1 hs1 (by omega) (HG.out.below (HSKP.out _ hc).1) ⟨tk, ts, tn, ty, 0⟩ m (by rw [hd1]; exact h1))
            have hm0 : (0 : Int) ≤ (m : Int) := Int.natCast_nonneg _
            have hm2' : m ≤ s.size := by omega
            clear ht hd1 hd2 hq hpn hn hnote h1 h2 hm2 hlq
            unfold tokV at HON
            simp only at HON
            go_wp2_with (first
              | (go_at_call 29; refine HSK.out.mono ?_; rintro e w1 ⟨rfl, hc1, hs1⟩; obtain ⟨x0, x1, x2⟩ := hs1.cells)
              | (go_at_call 30; refine (HON.out _ hc1 hs1).mono ?_; rintro e w3 ⟨rfl, hc3, hs3⟩; obtain ⟨hb1, hf1, ho1, hz1⟩ := HSKP.out _ (hc1.trans hc3))
              | (at_builtin; refine wpList_app _ rfl (.tmp 56) (.tmp 58) 31 rfl (w.heap.size + 1 + 1) 38 _ 5 48 Tryz.underlying31 info_tok rfl (by decide) encTok encTok_len one_Tok (.slice A d.length cc) d.length (d.flatMap encTok) rfl (own_below ho1 (by (repeat' (first | (with_reducible exact Below.refl _ _) | (with_reducible refine below_alloc ?_) | (with_reducible refine below_drew ?_) | (with_reducible refine below_drewN ?_) | (with_reducible refine below_set (by first | (simp; done) | (simp; omega)) ?_) | (with_reducible refine below_call (by with_reducible assumption) ?_))))) _ [⟨tk, ts, tn, ty, n⟩] rfl (by refine Sl.lit' ?_ _ _ _ _ _ _ ?_ ?_ ?_ ?_ <;> first | (intro _; rfl) | rfl | decide | (simp; done)) (by unfold maxLen; simp; omega) (by simp; omega) (by simp; omega) ?_; intro v2 w2 ho2 hg2))
            have hstep : ∀ X : World, Below w3.heap.size w3 X → X.grownBy w2 (Value.slice A d.length cc).ownBlock → Below w.heap.size w w2 ∧ w.heap.size + 1 + 1 ≤ w2.heap.size ∧ w2.heap[w.heap.size]? = some (.cells #[.int .i64 0, .int .i64 0] 34 (0, 0)) ∧ Sc (w.heap.size + 1) s (n + m) w2 := fun X hX hg =>
              ⟨below_grown (below_call hX hb1) hg (fun g hg => by have := HOW.out g hg; omega), Nat.le_trans (Nat.le_trans hz1 hX.size) hg.size,
               hpG hg HNF.out ((hX.block _ (Array.getElem?_eq_some_iff.1 hf1).1).trans hf1), hpG hg (fun e => by have := HOW.out _ e; omega) (hs3.below hX)⟩
            obtain ⟨r1, r2, r3, r4⟩ := hstep _ (by (repeat' (first | (with_reducible exact Below.refl _ _) | (with_reducible refine below_alloc ?_) | (with_reducible refine below_drew ?_) | (with_reducible refine below_drewN ?_) | (with_reducible refine below_set (by first | (simp; done) | (simp; omega)) ?_) | (with_reducible refine below_call (by with_reducible assumption) ?_)))) hg2
            have HR1 := Lib.hid r1
            have HR3 := Lib.hid r3
            have HR4 := Lib.hid r4
            have HR5 := Lib.hid ho2
            clear r1 r3 r4 ho2 hg2 hstep
            go_roundg f
            case measure => omega
            case rel =>
              refine ⟨n + m, f, d ++ [⟨tk, ts, tn, ty, n⟩], r', Nat.le_refl _, hnm, ?_, (show Below _ _ _ from HR1.out), (show _ ≤ _ from r2), (show _ = _ from HR3.out), (show Sc _ _ _ _ from HR4.out), (show World.ownsRow _ _ _ _ _ _ _ from ?_), (show _ = _ from HT2.out), (show _ = _ from ?_)⟩
              · rw [List.length_append, List.length_singleton]; omega
              · rw [List.length_append, List.flatMap_append]; exact HR5.out
              · rw [← HE'.out, HR.out, List.append_assoc]; rfl
end Go.Proofs.YtbnelgniekcjdaaGreatDoor
