/- capstanref09: fit, whole, counts, one: what each call answers. -/
import Derived.Test.YtenjkplijblcoaaGreatDoorCRplain
import Derived.Test.YtenjkplijblcoaaGreatDoorCRfour
import Derived.Test.YtenjkplijblcoaaGreatDoorCFTyped
import Derived.Test.YtenjkplijblcoaaGreatDoorCRdist
set_option linter.unusedSimpArgs false
set_option linter.unusedVariables false
namespace Go.Proofs.YtenjkplijblcoaaGreatDoor
open Go.RowKit Cap
set_option maxRecDepth 100000

theorem rwhole_c (t : Int) (w : World) : Calls Tryz.prog 48 #[.int .i64 t] w fun e w' => e = .returned (.bool (whole t)) ∧ w = w' := by
  by_cases h2 : t = 2
  · subst h2
    go_enter Tryz.func48, Tryz.ntmps48
    go_wp2
    go_ret
    exact ⟨rfl, rfl⟩
  by_cases h3 : t = 3
  · subst h3
    go_enter Tryz.func48, Tryz.ntmps48
    go_wp2
    go_ret
    exact ⟨rfl, rfl⟩
  have b2 := ne_i h2
  have b3 := ne_i h3
  go_enter Tryz.func48, Tryz.ntmps48
  go_wp2
  go_ret
  exact ⟨by simp [whole, h2, h3], rfl⟩
set_option maxHeartbeats 1000000 in
theorem rfit_c (l : List Int) (t : Int) (v : Value) (w : World) (hl : Sl encI 1 w v l) :
    Calls Tryz.prog 49 #[v, .int .i64 t] w fun e w' => e = .returned (.bool (fitR l t)) ∧ Below w.heap.size w w' := by
  obtain ⟨A, c, rfl, hln, hm, hc⟩ := hl
  have HC := Lib.hid hc
  clear hc
  go_enter Tryz.func49, Tryz.ntmps49
  go_wp2
  go_loopg [5] l.length (fun gg s5 wr => ∃ k : Nat, s5 = .int .i64 k ∧ k ≤ l.length ∧ l.length - k ≤ gg ∧ Aside (Below w.heap.size w wr) ∧ Aside (fitR (l.drop k) t = fitR l t))
  case atStart => exact ⟨0, rfl, Nat.zero_le _, by omega, (show Below w.heap.size w _ from Below.refl _ _), (show fitR (l.drop 0) t = fitR l t by rw [List.drop_zero])⟩
  case round =>
    obtain ⟨k, rfl, hk, hg, HB, HA⟩ := hrel
    have hB := HB.out
    by_cases hlt : k < l.length
    · have hltz : (k : Int) < (l.length : Int) := by omega
      have hk0 : (0 : Int) ≤ (k : Int) := Int.natCast_nonneg _
      obtain ⟨n, hn⟩ : ∃ n, l[k]? = some n := ⟨l[k], List.getElem?_eq_getElem hlt⟩
      obtain ⟨b, off, rfl, hb, hcx⟩ := HC.out k n hn
      have c0 : wr.cell? ⟨b, off + k, none⟩ = some (.int .i64 n) := (hB.cell (p := ⟨b, off + k, none⟩) hb).trans (by simpa using hcx 0 _ rfl)
      have HN := Lib.hid (show (fits t n && fitR (l.drop (k + 1)) t) = fitR l t by rw [← HA.out, drop_cons hn]; rfl)
      clear hcx hn
      have HF := Lib.hid (fun W => rfits_c t n W)
      obtain ⟨q, hq⟩ : ∃ q, fits t n = q := ⟨_, rfl⟩
      rw [hq] at HF HN
      clear hq
      cases q
      · go_wp2_with (go_at_call 72; refine (HF.out _).mono ?_; rintro e w1 ⟨rfl, rfl⟩)
        go_ret
        exact ⟨by rw [← HN.out]; rfl, by (repeat' (first | (with_reducible exact Below.refl _ _) | (with_reducible refine below_alloc ?_) | (with_reducible refine below_drew ?_) | (with_reducible refine below_drewN ?_) | (with_reducible refine below_set (by first | (simp; done) | (simp; omega)) ?_) | (with_reducible refine below_call (by with_reducible assumption) ?_)))⟩
      · go_wp2_with (go_at_call 72; refine (HF.out _).mono ?_; rintro e w1 ⟨rfl, rfl⟩)
        go_roundg (l.length - (k + 1))
        case measure => omega
        case rel => exact ⟨k + 1, by go_num, by omega, by omega, (show Below w.heap.size w _ from by (repeat' (first | (with_reducible exact Below.refl _ _) | (with_reducible refine below_alloc ?_) | (with_reducible refine below_drew ?_) | (with_reducible refine below_drewN ?_) | (with_reducible refine below_set (by first | (simp; done) | (simp; omega)) ?_) | (with_reducible refine below_call (by with_reducible assumption) ?_)))), (show fitR (l.drop (k + 1)) t = fitR l t by rw [← HN.out]; rfl)⟩
    · obtain rfl : k = l.length := by omega
      have hltz : ¬ (l.length : Int) < (l.length : Int) := by omega
      have HZ := Lib.hid (show fitR l t = true by rw [← HA.out, List.drop_length]; rfl)
      go_wp2
      go_ret
      exact ⟨by rw [HZ.out]; rfl, by (repeat' (first | (with_reducible exact Below.refl _ _) | (with_reducible refine below_alloc ?_) | (with_reducible refine below_drew ?_) | (with_reducible refine below_drewN ?_) | (with_reducible refine below_set (by first | (simp; done) | (simp; omega)) ?_) | (with_reducible refine below_call (by with_reducible assumption) ?_)))⟩
theorem rcounts_c (t : Int) (l : List Int) (A : Option Addr) (c : Nat) (tm : Bool) (w : World) (hl : Sl encI 1 w (.slice A l.length c) l) :
    Calls Tryz.prog 114 #[.agg #[.int .i64 t, .slice A l.length c], .bool tm] w fun e w' => e = .returned (.int .i64 (countsR ⟨t, l⟩ tm)) ∧ Below w.heap.size w w' := by
  have HF := Lib.hid (fun W (hW : Below w.heap.size w W) => rfit_c l 3 (.slice A l.length c) W (hl.below hW))
  have HW := Lib.hid (fun W => rwhole_c t W)
  unfold countsR
  simp only
  obtain ⟨q, hq⟩ : ∃ q, fitR l 3 = q := ⟨_, rfl⟩
  obtain ⟨u, hu⟩ : ∃ q, whole t = q := ⟨_, rfl⟩
  rw [hq] at HF ⊢
  rw [hu] at HW ⊢
  clear hq hu
  by_cases h0 : t = 0
  · subst h0
    cases q
    all_goals go_enter Tryz.func114, Tryz.ntmps114
    all_goals go_wp2_with (go_at_call 49; refine (HF.out _ (by (repeat' (first | (with_reducible exact Below.refl _ _) | (with_reducible refine below_alloc ?_) | (with_reducible refine below_drew ?_) | (with_reducible refine below_drewN ?_) | (with_reducible refine below_set (by first | (simp; done) | (simp; omega)) ?_) | (with_reducible refine below_call (by with_reducible assumption) ?_))))).mono ?_; rintro e w1 ⟨rfl, hb1⟩)
    all_goals go_ret
    all_goals exact ⟨rfl, by (repeat' (first | (with_reducible exact Below.refl _ _) | (with_reducible refine below_alloc ?_) | (with_reducible refine below_drew ?_) | (with_reducible refine below_drewN ?_) | (with_reducible refine below_set (by first | (simp; done) | (simp; omega)) ?_) | (with_reducible refine below_call (by with_reducible assumption) ?_)))⟩
  · have h0b := ne_i h0
    rw [if_neg h0]
    by_cases h4 : t = 4
    · subst h4
      cases u <;> cases tm
      all_goals go_enter Tryz.func114, Tryz.ntmps114
      all_goals go_wp2_with (go_at_call 48; refine (HW.out _).mono ?_; rintro e w1 ⟨rfl, rfl⟩)
      all_goals go_ret
      all_goals exact ⟨rfl, by (repeat' (first | (with_reducible exact Below.refl _ _) | (with_reducible refine below_alloc ?_) | (with_reducible refine below_drew ?_) | (with_reducible refine below_drewN ?_) | (with_reducible refine below_set (by first | (simp; done) | (simp; omega)) ?_) | (with_reducible refine below_call (by with_reducible assumption) ?_)))⟩
    · have h4b := ne_i h4
      cases u <;> cases tm
      all_goals go_enter Tryz.func114, Tryz.ntmps114
      all_goals go_wp2_with (go_at_call 48; refine (HW.out _).mono ?_; rintro e w1 ⟨rfl, rfl⟩)
      all_goals go_ret
      all_goals exact ⟨by simp, by (repeat' (first | (with_reducible exact Below.refl _ _) | (with_reducible refine below_alloc ?_) | (with_reducible refine below_drew ?_) | (with_reducible refine below_drewN ?_) | (with_reducible refine below_set (by first | (simp; done) | (simp; omega)) ?_) | (with_reducible refine below_call (by with_reducible assumption) ?_)))⟩
/-- A list of numbers in a row of numbers. -/
def Nums (w : World) (A : Option Addr) (c : Nat) (l : List Int) : Prop :=
  Sl encI 1 w (.slice A l.length c) l ∧ (l ≠ [] → ∀ g, (Value.slice A l.length c).ownBlock = some g → ∃ cs fr, w.heap[g]? = some (.cells cs 2 fr))
theorem Nums.nil (w : World) : Nums w none 0 [] := ⟨Sl.nil _ _ _, fun h => absurd rfl h⟩
theorem Nums.below {w w' : World} {A : Option Addr} {c : Nat} {l : List Int} (h : Nums w A c l) (hb : Below w.heap.size w w') : Nums w' A c l :=
  ⟨h.1.below hb, fun hl g hg => by
    obtain ⟨cs, fr, he⟩ := h.2 hl g hg
    exact ⟨cs, fr, (hb.block g (Array.getElem?_eq_some_iff.1 he).1).trans he⟩⟩
/-- A store into what is no row of numbers leaves it. -/
theorem Nums.set {w : World} {A : Option Addr} {c : Nat} {l : List Int} (h : Nums w A c l) {q : Addr} {u : Value} (hq : ∀ cs fr, w.heap[q.block]? = some (.cells cs 2 fr) → False) : Nums (w.setCell q u) A c l := by
  refine ⟨?_, fun hl g hg => ?_⟩
  · by_cases hl : l = []
    · subst hl
      obtain ⟨A', c', e, h1, h2, h3⟩ := h.1
      exact ⟨A', c', e, h1, h2, fun i x hx => by simp at hx⟩
    · obtain ⟨A', c', e, h1, h2, h3⟩ := h.1
      refine ⟨A', c', e, h1, h2, fun i x hx => ?_⟩
      obtain ⟨b, off, rfl, hb, hc⟩ := h3 i x hx
      refine ⟨b, off, rfl, by simpa using hb, fun j v hv => ?_⟩
      rw [World.cell?_setCell_other]
      · exact hc j v hv
      · rintro rfl
        injection e with e1 e2 e3
        subst e1
        obtain ⟨cs, fr, he⟩ := h.2 hl b (by simp [Value.ownBlock])
        exact hq cs fr he
  · obtain ⟨cs, fr, he⟩ := h.2 hl g hg
    refine ⟨cs, fr, ?_⟩
    rw [Below.heap_setCell]
    · exact he
    · rintro rfl
      exact hq cs fr he
/-- The two cells of a value are set. -/
theorem Nums.put {w : World} {A : Option Addr} {c : Nat} {l : List Int} (h : Nums w A c l) {B : Nat} {cs : Array Value} {T : TypeId} (hX : w.heap[B]? = some (.cells cs T (0, 0))) (hT : T ≠ 2) (i j : Nat) (u v : Value) : Nums ((w.setCell ⟨B, i, none⟩ u).setCell ⟨B, j, none⟩ v) A c l := by
  have key : ∀ (W : World) (cs : Array Value), W.heap[B]? = some (.cells cs T (0, 0)) → ∀ cs' fr, W.heap[B]? = some (.cells cs' 2 fr) → False := by
    intro W cs hW cs' fr h
    rw [hW] at h
    injection h with h
    injection h with _ h
    exact hT h
  exact (h.set (key w cs hX)).set (key _ _ (heap_setCell_same w B i cs T u hX))
theorem Nums.own {w : World} {base : Nat} {A : Option Addr} {n c : Nat} {l : List Int} (h : w.ownsRow base 2 1 (.slice A n c) n (l.flatMap encI)) (hn : n = l.length) : Nums w A c l := by
  subst hn
  refine ⟨Sl.own encI_len h rfl, fun hl g hg => ?_⟩
  rcases h.2 with ⟨e, h0⟩ | ⟨g', cap, cur, e, hb, hg', hc, hm, hs, ht⟩
  · exact absurd (List.eq_nil_of_length_eq_zero h0) hl
  · rw [e] at hg
    simp [Value.ownBlock] at hg
    subst hg
    exact ⟨_, _, hg'⟩
/-- What a function of values hands back. -/
def RvR (w : World) (q : Rv × Int) (e : Ending) (w' : World) : Prop :=
  ∃ A c, e = .returned (.tuple #[.agg #[.int .i64 q.1.t, .slice A q.1.nums.length c], .int .i64 q.2]) ∧ Nums w' A c q.1.nums ∧ Below w.heap.size w w'
theorem rone9_c (op t : Int) (l : List Int) (A : Option Addr) (c : Nat) (w : World) (hl : Nums w A c l) :
    Calls Tryz.prog 115 #[.int .i64 op, .agg #[.int .i64 t, .slice A l.length c]] w (RvR w (oneRv op ⟨t, l⟩)) := by
  have HL := Lib.hid hl
  have HX := Lib.hid (show oneRv op ⟨t, l⟩ = if hasR op (if t = 0 then 3 else t) 1 = false then (⟨0, []⟩, 40) else (⟨t, l⟩, 0) from rfl)
  have HH := Lib.hid (fun q W => rhas_c op q 1 W)
  clear hl
  by_cases h0 : t = 0
  · subst h0
    rw [if_pos rfl] at HX
    have HH := Lib.hid (fun W => HH.out 3 W)
    obtain ⟨q, hq⟩ : ∃ q, hasR op 3 1 = q := ⟨_, rfl⟩
    rw [hq] at HH HX
    clear hq
    cases q
    · go_enter Tryz.func115, Tryz.ntmps115
      go_wp2_with (go_at_call 122; refine (HH.out _).mono ?_; rintro e w1 ⟨rfl, rfl⟩)
      ((try simp only [Exit.inBlock, Exit.then]); refine bodyPost_ret (v := ?_) ?_ rfl ?_; rotate_left; (focus (rw [results_cell_tmp rfl]; go_simp; (first | rfl | exact ⟨rfl, rfl⟩))))
      rw [HX.out]
      exact ⟨none, 0, rfl, Nums.nil _, by (repeat' (first | (with_reducible exact Below.refl _ _) | (with_reducible refine below_alloc ?_) | (with_reducible refine below_drew ?_) | (with_reducible refine below_drewN ?_) | (with_reducible refine below_set (by first | (simp; done) | (simp; omega)) ?_) | (with_reducible refine below_call (by with_reducible assumption) ?_)))⟩
    · go_enter Tryz.func115, Tryz.ntmps115
      go_wp2_with (go_at_call 122; refine (HH.out _).mono ?_; rintro e w1 ⟨rfl, rfl⟩)
      ((try simp only [Exit.inBlock, Exit.then]); refine bodyPost_ret (v := ?_) ?_ rfl ?_; rotate_left; (focus (rw [results_cell_tmp rfl]; go_simp; (first | rfl | exact ⟨rfl, rfl⟩))))
      rw [HX.out]
      exact ⟨A, c, rfl, HL.out.below (by (repeat' (first | (with_reducible exact Below.refl _ _) | (with_reducible refine below_alloc ?_) | (with_reducible refine below_drew ?_) | (with_reducible refine below_drewN ?_) | (with_reducible refine below_set (by first | (simp; done) | (simp; omega)) ?_) | (with_reducible refine below_call (by with_reducible assumption) ?_)))), by (repeat' (first | (with_reducible exact Below.refl _ _) | (with_reducible refine below_alloc ?_) | (with_reducible refine below_drew ?_) | (with_reducible refine below_drewN ?_) | (with_reducible refine below_set (by first | (simp; done) | (simp; omega)) ?_) | (with_reducible refine below_call (by with_reducible assumption) ?_)))⟩
  · have h0b := ne_i h0
    rw [if_neg h0] at HX
    have HH := Lib.hid (fun W => HH.out t W)
    obtain ⟨q, hq⟩ : ∃ q, hasR op t 1 = q := ⟨_, rfl⟩
    rw [hq] at HH HX
    clear hq
    cases q
    · go_enter Tryz.func115, Tryz.ntmps115
      go_wp2_with (go_at_call 122; refine (HH.out _).mono ?_; rintro e w1 ⟨rfl, rfl⟩)
      ((try simp only [Exit.inBlock, Exit.then]); refine bodyPost_ret (v := ?_) ?_ rfl ?_; rotate_left; (focus (rw [results_cell_tmp rfl]; go_simp; (first | rfl | exact ⟨rfl, rfl⟩))))
      rw [HX.out]
      exact ⟨none, 0, rfl, Nums.nil _, by (repeat' (first | (with_reducible exact Below.refl _ _) | (with_reducible refine below_alloc ?_) | (with_reducible refine below_drew ?_) | (with_reducible refine below_drewN ?_) | (with_reducible refine below_set (by first | (simp; done) | (simp; omega)) ?_) | (with_reducible refine below_call (by with_reducible assumption) ?_)))⟩
    · go_enter Tryz.func115, Tryz.ntmps115
      go_wp2_with (go_at_call 122; refine (HH.out _).mono ?_; rintro e w1 ⟨rfl, rfl⟩)
      ((try simp only [Exit.inBlock, Exit.then]); refine bodyPost_ret (v := ?_) ?_ rfl ?_; rotate_left; (focus (rw [results_cell_tmp rfl]; go_simp; (first | rfl | exact ⟨rfl, rfl⟩))))
      rw [HX.out]
      exact ⟨A, c, rfl, HL.out.below (by (repeat' (first | (with_reducible exact Below.refl _ _) | (with_reducible refine below_alloc ?_) | (with_reducible refine below_drew ?_) | (with_reducible refine below_drewN ?_) | (with_reducible refine below_set (by first | (simp; done) | (simp; omega)) ?_) | (with_reducible refine below_call (by with_reducible assumption) ?_)))), by (repeat' (first | (with_reducible exact Below.refl _ _) | (with_reducible refine below_alloc ?_) | (with_reducible refine below_drew ?_) | (with_reducible refine below_drewN ?_) | (with_reducible refine below_set (by first | (simp; done) | (simp; omega)) ?_) | (with_reducible refine below_call (by with_reducible assumption) ?_)))⟩
end Go.Proofs.YtenjkplijblcoaaGreatDoor

/- capstanref09: none2, two: what each call answers. -/
namespace Go.Proofs.YtenjkplijblcoaaGreatDoor
open Go.RowKit Cap
set_option maxRecDepth 100000

theorem info_i64 : InfoIs Tryz.prog 2 (.int .i64 0) 1 8 := by unfold InfoIs; kernel_rfl
/-- What each operation of none2's appends leaves. -/
def n2F (bx base : Nat) (la lb : List Int) (va vb : Value) : Nat → Value → World → Prop
  | 0, v, w => LitAt base 2 w v
  | 1, v, _ => v = .pointer (some ⟨bx, 1, none⟩)
  | 2, v, _ => v = va
  | 3, v, w => w.ownsRow base 2 1 v la.length (la.flatMap encI)
  | 4, v, _ => v = .pointer (some ⟨bx + 1, 1, none⟩)
  | 5, v, _ => v = vb
  | 6, v, w => w.ownsRow base 2 1 v (la.length + lb.length) (la.flatMap encI ++ lb.flatMap encI)
  | _, _, _ => True
theorem n2F_below {bx base : Nat} {la lb : List Int} {va vb : Value} (i : Nat) (v : Value) (w w' : World) (h : n2F bx base la lb va vb i v w) (hb : Below w.heap.size w w') : n2F bx base la lb va vb i v w' := by
  (revert h; unfold n2F; split <;> intro h <;> first | exact h | exact LitAt.below h hb | exact own_below h hb | exact Sl.below h hb)
set_option maxHeartbeats 2000000 in
theorem rnone2_c (op ta tb : Int) (la lb : List Int) (Aa Ab : Option Addr) (ca cb : Nat) (w : World) (ha : Sl encI 1 w (.slice Aa la.length ca) la) (hb : Sl encI 1 w (.slice Ab lb.length cb) lb) (hn : la.length + lb.length ≤ 1000) :
    Calls Tryz.prog 148 #[.int .i64 op, .agg #[.int .i64 ta, .slice Aa la.length ca], .agg #[.int .i64 tb, .slice Ab lb.length cb]] w (RvR w (none2R op ⟨ta, la⟩ ⟨tb, lb⟩)) := by
  have HA := Lib.hid ha
  have HB := Lib.hid hb
  have HH := Lib.hid (fun W => rhas_c op 3 2 W)
  have HX := Lib.hid (show none2R op ⟨ta, la⟩ ⟨tb, lb⟩ = if hasR op 3 2 = false then (⟨0, []⟩, 40) else if op < 9 then (⟨0, la ++ lb⟩, 0) else if fitR (la ++ lb) 3 = false then (⟨0, []⟩, 1) else (⟨1, []⟩, 0) from rfl)
  obtain ⟨q, hq⟩ : ∃ q, hasR op 3 2 = q := ⟨_, rfl⟩
  rw [hq] at HH HX
  clear hq ha hb
  cases q
  · go_enter Tryz.func148, Tryz.ntmps148
    go_wp2_with (go_at_call 122; refine (HH.out _).mono ?_; rintro e w1 ⟨rfl, rfl⟩)
    ((try simp only [Exit.inBlock, Exit.then]); refine bodyPost_ret (v := ?_) ?_ rfl ?_; rotate_left; (focus (rw [results_cell_tmp rfl]; go_simp; (first | rfl | exact ⟨rfl, rfl⟩))))
    rw [HX.out]
    exact ⟨none, 0, rfl, Nums.nil _, by (repeat' (first | (with_reducible exact Below.refl _ _) | (with_reducible refine below_alloc ?_) | (with_reducible refine below_drew ?_) | (with_reducible refine below_drewN ?_) | (with_reducible refine below_set (by first | (simp; done) | (simp; omega)) ?_) | (with_reducible refine below_call (by with_reducible assumption) ?_)))⟩
  · go_enter Tryz.func148, Tryz.ntmps148
    go_upto_region 3 with (go_at_call 122; refine (HH.out _).mono ?_; rintro e w1 ⟨rfl, rfl⟩)
    have c1 : (((w.alloc (.cells #[.int .i64 ta, .slice Aa la.length ca] 83)).alloc (.cells #[.int .i64 tb, .slice Ab lb.length cb] 83)).alloc (.cells #[.int .i64 0, .slice none 0 0] 83)).cell? ⟨w.heap.size, 1, none⟩ = some (.slice Aa la.length ca) := by
      rw [World.cell?_alloc_old _ _ _ (by simp; omega), World.cell?_alloc_old _ _ _ (by simp), World.cell?_alloc_at _ _ _ _ rfl]
      rfl
    have c2 : (((w.alloc (.cells #[.int .i64 ta, .slice Aa la.length ca] 83)).alloc (.cells #[.int .i64 tb, .slice Ab lb.length cb] 83)).alloc (.cells #[.int .i64 0, .slice none 0 0] 83)).cell? ⟨w.heap.size + 1, 1, none⟩ = some (.slice Ab lb.length cb) := by
      rw [World.cell?_alloc_old _ _ _ (by simp), World.cell?_alloc_at _ _ _ _ (by simp)]
      rfl
    have c3 : (((w.alloc (.cells #[.int .i64 ta, .slice Aa la.length ca] 83)).alloc (.cells #[.int .i64 tb, .slice Ab lb.length cb] 83)).alloc (.cells #[.int .i64 0, .slice none 0 0] 83)).heap[w.heap.size + 1 + 1]? = some (.cells #[.int .i64 0, .slice none 0 0] 83 (0, 0)) := by
      have h := heap_alloc_new ((w.alloc (.cells #[.int .i64 ta, .slice Aa la.length ca] 83)).alloc (.cells #[.int .i64 tb, .slice Ab lb.length cb] 83)) (.cells #[.int .i64 0, .slice none 0 0] 83)
      simpa using h
    have hBW : Below w.heap.size w (((w.alloc (.cells #[.int .i64 ta, .slice Aa la.length ca] 83)).alloc (.cells #[.int .i64 tb, .slice Ab lb.length cb] 83)).alloc (.cells #[.int .i64 0, .slice none 0 0] 83)) := by (repeat' (first | (with_reducible exact Below.refl _ _) | (with_reducible refine below_alloc ?_) | (with_reducible refine below_drew ?_) | (with_reducible refine below_drewN ?_) | (with_reducible refine below_set (by first | (simp; done) | (simp; omega)) ?_) | (with_reducible refine below_call (by with_reducible assumption) ?_)))
    have hsz : (((w.alloc (.cells #[.int .i64 ta, .slice Aa la.length ca] 83)).alloc (.cells #[.int .i64 tb, .slice Ab lb.length cb] 83)).alloc (.cells #[.int .i64 0, .slice none 0 0] 83)).heap.size = w.heap.size + 3 := by simp
    generalize (((w.alloc (.cells #[.int .i64 ta, .slice Aa la.length ca] 83)).alloc (.cells #[.int .i64 tb, .slice Ab lb.length cb] 83)).alloc (.cells #[.int .i64 0, .slice none 0 0] 83)) = W at c1 c2 c3 hBW hsz ⊢
    rename_i K0 hK0
    refine wp_region_treeF (by kernel_rfl) _ _ (dropLast_last _ (by simp)) (by kernel_rfl) (by simp) (n2F w.heap.size W.heap.size la lb (.slice Aa la.length ca) (.slice Ab lb.length cb)) 13 _ _ ?_ ?_
    · dsimp only [List.dropLast]
      refine ⟨fun a w' hJ hD K' hK => ?_, ?_⟩
      · exact tree_next n2F_below hJ (Nat.le_of_ble_eq_true rfl) (Nat.le_of_ble_eq_true rfl) hK _ _ (below_alloc (Below.refl _ _)) ⟨_, rfl, hJ.b.size, heap_alloc_new _ _⟩ |> wp_val (v := .slice (some ⟨w'.heap.size, 0, none⟩) 0 0) (w' := w'.alloc (.cells #[] 2)) (by go_simp)
      refine ⟨fun a w' hJ hD K' hK => ?_, ?_⟩
      · have hx := raw (show a.eval (.tmp 4) = .pointer (some ⟨w.heap.size, 0, none⟩) from hJ.old 4 (.inl (by decide)))
        exact tree_next n2F_below hJ (Nat.le_of_ble_eq_true rfl) (Nat.le_of_ble_eq_true rfl) hK _ _ (Below.refl _ _) rfl |> wp_val (v := .pointer (some ⟨w.heap.size, 1, none⟩)) (w' := w') (by go_simp)
      refine ⟨fun a w' hJ hD K' hK => ?_, ?_⟩
      · obtain ⟨d0, -⟩ := hD
        have hx := raw (show a.eval (.tmp 14) = .pointer (some ⟨w.heap.size, 1, none⟩) from d0 rfl)
        have hc := (hJ.b.cell (p := ⟨w.heap.size, 1, none⟩) (by simp; omega)).trans c1
        exact tree_next n2F_below hJ (Nat.le_of_ble_eq_true rfl) (Nat.le_of_ble_eq_true rfl) hK _ _ (Below.refl _ _) rfl |> wp_val (v := .slice Aa la.length ca) (w' := w') (by go_simp)
      refine ⟨fun a w' hJ hD K' hK => ?_, ?_⟩
      · obtain ⟨d0, d1, -⟩ := hD
        have hl : LitAt W.heap.size 2 w' (a.eval (.tmp 13)) := d0 rfl
        have hsrc : a.eval (.tmp 15) = .slice Aa la.length ca := d1 rfl
        refine wp_lit_app w' (.tmp 13) (.tmp 15) 81 rfl W.heap.size 2 _ 1 8 Tryz.underlying81 info_i64 rfl (by decide) encI encI_len one_I hl la (by rw [hsrc]; exact HA.out.below (below_call hJ.b hBW)) (by unfold maxLen; omega) (by omega) ?_
        intro v1 w1 ho hb
        exact tree_next n2F_below hJ (Nat.le_of_ble_eq_true rfl) (Nat.le_of_ble_eq_true rfl) hK _ _ hb ho
      refine ⟨fun a w' hJ hD K' hK => ?_, ?_⟩
      · have hx := raw (show a.eval (.tmp 5) = .pointer (some ⟨w.heap.size + 1, 0, none⟩) from hJ.old 5 (.inl (by decide)))
        exact tree_next n2F_below hJ (Nat.le_of_ble_eq_true rfl) (Nat.le_of_ble_eq_true rfl) hK _ _ (Below.refl _ _) rfl |> wp_val (v := .pointer (some ⟨w.heap.size + 1, 1, none⟩)) (w' := w') (by go_simp)
      refine ⟨fun a w' hJ hD K' hK => ?_, ?_⟩
      · obtain ⟨d0, -⟩ := hD
        have hx := raw (show a.eval (.tmp 17) = .pointer (some ⟨w.heap.size + 1, 1, none⟩) from d0 rfl)
        have hc := (hJ.b.cell (p := ⟨w.heap.size + 1, 1, none⟩) (by simp; omega)).trans c2
        exact tree_next n2F_below hJ (Nat.le_of_ble_eq_true rfl) (Nat.le_of_ble_eq_true rfl) hK _ _ (Below.refl _ _) rfl |> wp_val (v := .slice Ab lb.length cb) (w' := w') (by go_simp)
      refine ⟨fun a w' hJ hD K' hK => ?_, trivial⟩
      · obtain ⟨d3, d5, -⟩ := hD
        have ho3 : w'.ownsRow W.heap.size 2 1 (a.eval (.tmp 16)) la.length (la.flatMap encI) := d3 rfl
        have hsrc : a.eval (.tmp 18) = .slice Ab lb.length cb := d5 rfl
        refine wp_own_app w' (.tmp 16) (.tmp 18) 81 rfl W.heap.size 2 _ 1 8 Tryz.underlying81 info_i64 rfl (by decide) encI encI_len one_I _ _ _ rfl ho3 _ lb hsrc (HB.out.below (below_call hJ.b hBW)) (by unfold maxLen; omega) (by omega) hJ.b.size ?_
        intro v1 w1 ho hg
        exact tree_root hJ (Nat.le_of_ble_eq_true rfl) (Nat.le_of_ble_eq_true rfl) (by kernel_rfl) hK _ _ ((Below.refl _ _).grown hg hJ.b.size (own_ge ho3 (Nat.le_refl _))) ho
    · intro a' w' hJ hF K' hK
      refine wp_assign (x := .tmp 19) rfl ?_
      change K' (a'.put (some 8) (a'.eval (.tmp 19))) w'
      refine hK _ _ ?_
      show K0 _ _
      change w'.ownsRow W.heap.size 2 1 (a'.eval (.tmp 19)) (la.length + lb.length) (la.flatMap encI ++ lb.flatMap encI) at hF
      generalize a'.eval (.tmp 19) = v at hF ⊢
      (obtain ⟨tl, htl, rfl⟩ := act_tree hJ (by simp); simp only [List.dropLast, List.length_cons, List.length_nil, Nat.reduceAdd, Nat.reduceSub] at htl; (iterate 7 (have htl2 := list_cons_of htl; clear htl; obtain ⟨_, tl, htl, rfl⟩ := htl2)); obtain rfl := List.eq_nil_of_length_eq_zero htl; simp only [Act.put, List.dropLast, List.length_cons, List.length_nil, Nat.reduceAdd, List.take_succ_cons, List.take_zero, List.drop_succ_cons, List.drop_zero, List.drop_nil, List.append_nil, List.cons_append, List.nil_append, List.setIfInBounds_toArray, List.set_cons_zero, List.set_cons_succ])
      have hwz := hJ.b.size
      have hX := (hJ.b.block (w.heap.size + 1 + 1) (by omega)).trans c3
      have hBw := below_call hJ.b hBW
      obtain ⟨A, c, rfl⟩ := own_slice hF
      have HS := Lib.hid (Nums.own (l := la ++ lb) (by rw [List.flatMap_append]; exact hF) (by simp))
      rw [show la.length + lb.length = (la ++ lb).length by simp] at hF ⊢
      have HFT := Lib.hid (rfit_c (la ++ lb) 3 _ w' HS.out.1)
      have HXR := Lib.hid hX
      have r0 := cell_of_row _ _ 0 _ _ _ hX
      have r1 := cell_of_row _ _ 1 _ _ _ hX
      have f0 := frozen_row 0 hX
      have f1 := frozen_row 1 hX
      simp at r0 r1
      have hszx : w.heap.size + 1 + 1 < w'.heap.size := by omega
      obtain ⟨n, hn'⟩ : ∃ n, (la ++ lb).length = n := ⟨_, rfl⟩
      have HNL := Lib.hid hn'
      obtain ⟨bq, hbq⟩ : ∃ q, fitR (la ++ lb) 3 = q := ⟨_, rfl⟩
      rw [hbq] at HFT
      rw [hbq] at HX
      rw [hn'] at HFT ⊢
      clear hJ hF hX hbq hn' c1 c2 c3
      refine hK0 _ _ ?_
      by_cases h9 : op < 9
      · have HX2 := Lib.hid (show none2R op ⟨ta, la⟩ ⟨tb, lb⟩ = (⟨0, la ++ lb⟩, 0) by rw [HX.out]; simp [h9])
        clear HX
        go_wp2
        ((try simp only [Exit.inBlock, Exit.then]); refine bodyPost_ret (v := ?_) ?_ rfl ?_; rotate_left; (focus (rw [results_cell_tmp rfl]; go_simp; (first | rfl | exact ⟨rfl, rfl⟩))))
        rw [HX2.out]
        exact ⟨A, c, by rw [HNL.out], HS.out.put HXR.out (by decide) _ _ _ _, by (repeat' (first | (with_reducible exact Below.refl _ _) | (with_reducible refine below_alloc ?_) | (with_reducible refine below_drew ?_) | (with_reducible refine below_drewN ?_) | (with_reducible refine below_set (by first | (simp; done) | (simp; omega)) ?_) | (with_reducible refine below_call (by with_reducible assumption) ?_)))⟩
      · cases bq
        · have HX2 := Lib.hid (show none2R op ⟨ta, la⟩ ⟨tb, lb⟩ = (⟨0, []⟩, 1) by rw [HX.out]; simp [h9])
          clear HX
          go_wp2_with (go_at_call 49; refine HFT.out.mono ?_; rintro e w4 ⟨rfl, hb4⟩; obtain ⟨hc4, hf4⟩ := bcell hb4; have hz4 := hb4.size)
          ((try simp only [Exit.inBlock, Exit.then]); refine bodyPost_ret (v := ?_) ?_ rfl ?_; rotate_left; (focus (rw [results_cell_tmp rfl]; go_simp; (first | rfl | exact ⟨rfl, rfl⟩))))
          rw [HX2.out]
          exact ⟨none, 0, rfl, Nums.nil _, by (repeat' (first | (with_reducible exact Below.refl _ _) | (with_reducible refine below_alloc ?_) | (with_reducible refine below_drew ?_) | (with_reducible refine below_drewN ?_) | (with_reducible refine below_set (by first | (simp; done) | (simp; omega)) ?_) | (with_reducible refine below_call (by with_reducible assumption) ?_)))⟩
        · have HX2 := Lib.hid (show none2R op ⟨ta, la⟩ ⟨tb, lb⟩ = (⟨1, []⟩, 0) by rw [HX.out]; simp [h9])
          clear HX
          go_wp2_with (go_at_call 49; refine HFT.out.mono ?_; rintro e w4 ⟨rfl, hb4⟩; obtain ⟨hc4, hf4⟩ := bcell hb4; have hz4 := hb4.size)
          ((try simp only [Exit.inBlock, Exit.then]); refine bodyPost_ret (v := ?_) ?_ rfl ?_; rotate_left; (focus (rw [results_cell_tmp rfl]; go_simp; (first | rfl | exact ⟨rfl, rfl⟩))))
          rw [HX2.out]
          exact ⟨none, 0, rfl, Nums.nil _, by (repeat' (first | (with_reducible exact Below.refl _ _) | (with_reducible refine below_alloc ?_) | (with_reducible refine below_drew ?_) | (with_reducible refine below_drewN ?_) | (with_reducible refine below_set (by first | (simp; done) | (simp; omega)) ?_) | (with_reducible refine below_call (by with_reducible assumption) ?_)))⟩

set_option maxHeartbeats 8000000 in
theorem rtwo9_c (op ta tb : Int) (la lb : List Int) (Aa Ab : Option Addr) (ca cb : Nat) (w : World) (ha : Sl encI 1 w (.slice Aa la.length ca) la) (hb : Sl encI 1 w (.slice Ab lb.length cb) lb) (hn : la.length + lb.length ≤ 1000) :
    Calls Tryz.prog 116 #[.int .i64 op, .agg #[.int .i64 ta, .slice Aa la.length ca], .agg #[.int .i64 tb, .slice Ab lb.length cb]] w (RvR w (twoRv op ⟨ta, la⟩ ⟨tb, lb⟩)) := by
  have HN2 := Lib.hid (fun W (hW : Below w.heap.size w W) => rnone2_c op ta tb la lb Aa Ab ca cb W (ha.below hW) (hb.below hW) hn)
  have HFA := Lib.hid (fun W (hW : Below w.heap.size w W) => rfit_c la (max ta tb) _ W (ha.below hW))
  have HFB := Lib.hid (fun W (hW : Below w.heap.size w W) => rfit_c lb (max ta tb) _ W (hb.below hW))
  have HW := Lib.hid (fun W => rwhole_c (max ta tb) W)
  have HH := Lib.hid (fun W => rhas_c op (max ta tb) 2 W)
  have HR := Lib.hid (fun W => rresult_c op (max ta tb) W)
  have HX := Lib.hid (show twoRv op ⟨ta, la⟩ ⟨tb, lb⟩ = if ta = 0 ∧ tb = 0 then none2R op ⟨ta, la⟩ ⟨tb, lb⟩
    else if ((ta ≠ 0 ∧ tb ≠ 0) ∧ ta ≠ tb) ∨ ((ta = 0 ∨ tb = 0) ∧ whole (max ta tb) = false) ∨ hasR op (max ta tb) 2 = false then (⟨0, []⟩, 40)
    else if (ta = 0 ∧ fitR la (max ta tb) = false) ∨ (tb = 0 ∧ fitR lb (max ta tb) = false) then (⟨0, []⟩, 1)
    else (⟨(result op (max ta tb)).1, []⟩, 0) from rfl)
  clear ha hb
  by_cases h0 : ta = 0 ∧ tb = 0
  · obtain ⟨rfl, rfl⟩ := h0
    have HX2 := Lib.hid (show twoRv op ⟨0, la⟩ ⟨0, lb⟩ = none2R op ⟨0, la⟩ ⟨0, lb⟩ by rw [HX.out, if_pos ⟨rfl, rfl⟩])
    clear HX HFA HFB HW HH HR
    generalize none2R op ⟨0, la⟩ ⟨0, lb⟩ = rr at HN2 HX2
    obtain ⟨⟨rt, rl⟩, re⟩ := rr
    unfold RvR at HN2
    go_enter Tryz.func116, Tryz.ntmps116
    go_wp2_with (go_at_call 148; refine (HN2.out _ (by (repeat' (first | (with_reducible exact Below.refl _ _) | (with_reducible refine below_alloc ?_) | (with_reducible refine below_drew ?_) | (with_reducible refine below_drewN ?_) | (with_reducible refine below_set (by first | (simp; done) | (simp; omega)) ?_) | (with_reducible refine below_call (by with_reducible assumption) ?_))))).mono ?_; rintro e w1 ⟨A, c, rfl, hS, hb1⟩; have HS := Lib.hid hS; have hX := (hb1.block (w.heap.size + 1 + 1) (by simp)).trans (box3 _ _ _ _); have HXR := Lib.hid hX; have r0 := cell_of_row _ _ 0 _ _ _ hX; have r1 := cell_of_row _ _ 1 _ _ _ hX; have f0 := frozen_row 0 hX; have f1 := frozen_row 1 hX; simp at r0 r1; clear hX hS; have hz1 := hb1.size; simp at hz1; have hzx : w.heap.size + 1 + 1 < w1.heap.size := by omega)
    ((try simp only [Exit.inBlock, Exit.then]); refine bodyPost_ret (v := ?_) ?_ rfl ?_; rotate_left; (focus (rw [results_cell_tmp rfl]; go_simp; (first | rfl | exact ⟨rfl, rfl⟩))))
    rw [HX2.out]
    exact ⟨A, c, rfl, HS.out.put HXR.out (by decide) _ _ _ _, by (repeat' (first | (with_reducible exact Below.refl _ _) | (with_reducible refine below_alloc ?_) | (with_reducible refine below_drew ?_) | (with_reducible refine below_drewN ?_) | (with_reducible refine below_set (by first | (simp; done) | (simp; omega)) ?_) | (with_reducible refine below_call (by with_reducible assumption) ?_)))⟩
  · rw [if_neg h0] at HX
    obtain ⟨m, hm⟩ : ∃ m, max ta tb = m := ⟨_, rfl⟩
    obtain ⟨u, hu⟩ : ∃ q, whole m = q := ⟨_, rfl⟩
    obtain ⟨h, hh⟩ : ∃ q, hasR op m 2 = q := ⟨_, rfl⟩
    obtain ⟨fa, hfa⟩ : ∃ q, fitR la m = q := ⟨_, rfl⟩
    obtain ⟨fb, hfb⟩ : ∃ q, fitR lb m = q := ⟨_, rfl⟩
    obtain ⟨⟨rt, re⟩, hrr⟩ : ∃ q, result op m = q := ⟨_, rfl⟩
    rw [hm] at HFA HFB HW HH HR HX
    rw [hu] at HW HX
    rw [hh] at HH HX
    rw [hfa] at HFA HX
    rw [hfb] at HFB HX
    rw [hrr] at HR HX
    simp only at HR HX
    clear hu hh hfa hfb hrr HN2
    by_cases ha : ta = 0
    · subst ha
      have hb : ¬ tb = 0 := fun h => h0 ⟨rfl, h⟩
      have hbb := ne_i hb
      have hbn : (tb != 0) = true := by simpa using hb
      clear HFB
      cases u
      · have HX2 := Lib.hid (show twoRv op ⟨0, la⟩ ⟨tb, lb⟩ = (⟨0, []⟩, 40) by rw [HX.out, if_pos]; simp)
        clear HX
        go_enter Tryz.func116, Tryz.ntmps116
        go_wp2_with (first | (go_at_call 48; refine (HW.out _).mono ?_; rintro e w1 ⟨rfl, rfl⟩) | (go_at_call 122; refine (HH.out _).mono ?_; rintro e w2 ⟨rfl, rfl⟩) | (go_at_call 79; refine (HR.out _).mono ?_; rintro e w3 ⟨rfl, rfl⟩) | (go_at_call 49; refine (HFA.out _ (by (repeat' (first | (with_reducible exact Below.refl _ _) | (with_reducible refine below_alloc ?_) | (with_reducible refine below_drew ?_) | (with_reducible refine below_drewN ?_) | (with_reducible refine below_set (by first | (simp; done) | (simp; omega)) ?_) | (with_reducible refine below_call (by with_reducible assumption) ?_))))).mono ?_; rintro e w4 ⟨rfl, hb4⟩; have hX := (hb4.block (w.heap.size + 1 + 1) (by simp)).trans (box3 _ _ _ _); have HXR := Lib.hid hX; have r0 := cell_of_row _ _ 0 _ _ _ hX; have r1 := cell_of_row _ _ 1 _ _ _ hX; have f0 := frozen_row 0 hX; have f1 := frozen_row 1 hX; simp at r0 r1; have hXa := (hb4.block w.heap.size (by simp; omega)).trans (box3a _ _ _ _); have s0 := cell_of_row _ _ 0 _ _ _ hXa; have s1 := cell_of_row _ _ 1 _ _ _ hXa; have hXb := (hb4.block (w.heap.size + 1) (by simp)).trans (box3b _ _ _ _); have q0 := cell_of_row _ _ 0 _ _ _ hXb; have q1 := cell_of_row _ _ 1 _ _ _ hXb; simp at s0 s1 q0 q1; clear hX hXa hXb; have hz1 := hb4.size; simp at hz1; have hzx : w.heap.size + 1 + 1 < w4.heap.size := by omega))
        ((try simp only [Exit.inBlock, Exit.then]); refine bodyPost_ret (v := ?_) ?_ rfl ?_; rotate_left; (focus (rw [results_cell_tmp rfl]; go_simp; (first | rfl | exact ⟨rfl, rfl⟩))))
        rw [HX2.out]
        exact ⟨none, 0, rfl, Nums.nil _, by (repeat' (first | (with_reducible exact Below.refl _ _) | (with_reducible refine below_alloc ?_) | (with_reducible refine below_drew ?_) | (with_reducible refine below_drewN ?_) | (with_reducible refine below_set (by first | (simp; done) | (simp; omega)) ?_) | (with_reducible refine below_call (by with_reducible assumption) ?_)))⟩
      cases h
      · have HX2 := Lib.hid (show twoRv op ⟨0, la⟩ ⟨tb, lb⟩ = (⟨0, []⟩, 40) by rw [HX.out, if_pos]; simp)
        clear HX
        go_enter Tryz.func116, Tryz.ntmps116
        go_wp2_with (first | (go_at_call 48; refine (HW.out _).mono ?_; rintro e w1 ⟨rfl, rfl⟩) | (go_at_call 122; refine (HH.out _).mono ?_; rintro e w2 ⟨rfl, rfl⟩) | (go_at_call 79; refine (HR.out _).mono ?_; rintro e w3 ⟨rfl, rfl⟩) | (go_at_call 49; refine (HFA.out _ (by (repeat' (first | (with_reducible exact Below.refl _ _) | (with_reducible refine below_alloc ?_) | (with_reducible refine below_drew ?_) | (with_reducible refine below_drewN ?_) | (with_reducible refine below_set (by first | (simp; done) | (simp; omega)) ?_) | (with_reducible refine below_call (by with_reducible assumption) ?_))))).mono ?_; rintro e w4 ⟨rfl, hb4⟩; have hX := (hb4.block (w.heap.size + 1 + 1) (by simp)).trans (box3 _ _ _ _); have HXR := Lib.hid hX; have r0 := cell_of_row _ _ 0 _ _ _ hX; have r1 := cell_of_row _ _ 1 _ _ _ hX; have f0 := frozen_row 0 hX; have f1 := frozen_row 1 hX; simp at r0 r1; have hXa := (hb4.block w.heap.size (by simp; omega)).trans (box3a _ _ _ _); have s0 := cell_of_row _ _ 0 _ _ _ hXa; have s1 := cell_of_row _ _ 1 _ _ _ hXa; have hXb := (hb4.block (w.heap.size + 1) (by simp)).trans (box3b _ _ _ _); have q0 := cell_of_row _ _ 0 _ _ _ hXb; have q1 := cell_of_row _ _ 1 _ _ _ hXb; simp at s0 s1 q0 q1; clear hX hXa hXb; have hz1 := hb4.size; simp at hz1; have hzx : w.heap.size + 1 + 1 < w4.heap.size := by omega))
        ((try simp only [Exit.inBlock, Exit.then]); refine bodyPost_ret (v := ?_) ?_ rfl ?_; rotate_left; (focus (rw [results_cell_tmp rfl]; go_simp; (first | rfl | exact ⟨rfl, rfl⟩))))
        rw [HX2.out]
        exact ⟨none, 0, rfl, Nums.nil _, by (repeat' (first | (with_reducible exact Below.refl _ _) | (with_reducible refine below_alloc ?_) | (with_reducible refine below_drew ?_) | (with_reducible refine below_drewN ?_) | (with_reducible refine below_set (by first | (simp; done) | (simp; omega)) ?_) | (with_reducible refine below_call (by with_reducible assumption) ?_)))⟩
      cases fa
      · have HX2 := Lib.hid (show twoRv op ⟨0, la⟩ ⟨tb, lb⟩ = (⟨0, []⟩, 1) by rw [HX.out, if_neg (by simp), if_pos (by simp)])
        clear HX
        go_enter Tryz.func116, Tryz.ntmps116
        go_wp2_with (first | (go_at_call 48; refine (HW.out _).mono ?_; rintro e w1 ⟨rfl, rfl⟩) | (go_at_call 122; refine (HH.out _).mono ?_; rintro e w2 ⟨rfl, rfl⟩) | (go_at_call 79; refine (HR.out _).mono ?_; rintro e w3 ⟨rfl, rfl⟩) | (go_at_call 49; refine (HFA.out _ (by (repeat' (first | (with_reducible exact Below.refl _ _) | (with_reducible refine below_alloc ?_) | (with_reducible refine below_drew ?_) | (with_reducible refine below_drewN ?_) | (with_reducible refine below_set (by first | (simp; done) | (simp; omega)) ?_) | (with_reducible refine below_call (by with_reducible assumption) ?_))))).mono ?_; rintro e w4 ⟨rfl, hb4⟩; have hX := (hb4.block (w.heap.size + 1 + 1) (by simp)).trans (box3 _ _ _ _); have HXR := Lib.hid hX; have r0 := cell_of_row _ _ 0 _ _ _ hX; have r1 := cell_of_row _ _ 1 _ _ _ hX; have f0 := frozen_row 0 hX; have f1 := frozen_row 1 hX; simp at r0 r1; have hXa := (hb4.block w.heap.size (by simp; omega)).trans (box3a _ _ _ _); have s0 := cell_of_row _ _ 0 _ _ _ hXa; have s1 := cell_of_row _ _ 1 _ _ _ hXa; have hXb := (hb4.block (w.heap.size + 1) (by simp)).trans (box3b _ _ _ _); have q0 := cell_of_row _ _ 0 _ _ _ hXb; have q1 := cell_of_row _ _ 1 _ _ _ hXb; simp at s0 s1 q0 q1; clear hX hXa hXb; have hz1 := hb4.size; simp at hz1; have hzx : w.heap.size + 1 + 1 < w4.heap.size := by omega))
        ((try simp only [Exit.inBlock, Exit.then]); refine bodyPost_ret (v := ?_) ?_ rfl ?_; rotate_left; (focus (rw [results_cell_tmp rfl]; go_simp; (first | rfl | exact ⟨rfl, rfl⟩))))
        rw [HX2.out]
        exact ⟨none, 0, rfl, Nums.nil _, by (repeat' (first | (with_reducible exact Below.refl _ _) | (with_reducible refine below_alloc ?_) | (with_reducible refine below_drew ?_) | (with_reducible refine below_drewN ?_) | (with_reducible refine below_set (by first | (simp; done) | (simp; omega)) ?_) | (with_reducible refine below_call (by with_reducible assumption) ?_)))⟩
      · have HX2 := Lib.hid (show twoRv op ⟨0, la⟩ ⟨tb, lb⟩ = (⟨rt, []⟩, 0) by rw [HX.out, if_neg (by simp), if_neg (by simp [hb])])
        clear HX
        go_enter Tryz.func116, Tryz.ntmps116
        go_wp2_with (first | (go_at_call 48; refine (HW.out _).mono ?_; rintro e w1 ⟨rfl, rfl⟩) | (go_at_call 122; refine (HH.out _).mono ?_; rintro e w2 ⟨rfl, rfl⟩) | (go_at_call 79; refine (HR.out _).mono ?_; rintro e w3 ⟨rfl, rfl⟩) | (go_at_call 49; refine (HFA.out _ (by (repeat' (first | (with_reducible exact Below.refl _ _) | (with_reducible refine below_alloc ?_) | (with_reducible refine below_drew ?_) | (with_reducible refine below_drewN ?_) | (with_reducible refine below_set (by first | (simp; done) | (simp; omega)) ?_) | (with_reducible refine below_call (by with_reducible assumption) ?_))))).mono ?_; rintro e w4 ⟨rfl, hb4⟩; have hX := (hb4.block (w.heap.size + 1 + 1) (by simp)).trans (box3 _ _ _ _); have HXR := Lib.hid hX; have r0 := cell_of_row _ _ 0 _ _ _ hX; have r1 := cell_of_row _ _ 1 _ _ _ hX; have f0 := frozen_row 0 hX; have f1 := frozen_row 1 hX; simp at r0 r1; have hXa := (hb4.block w.heap.size (by simp; omega)).trans (box3a _ _ _ _); have s0 := cell_of_row _ _ 0 _ _ _ hXa; have s1 := cell_of_row _ _ 1 _ _ _ hXa; have hXb := (hb4.block (w.heap.size + 1) (by simp)).trans (box3b _ _ _ _); have q0 := cell_of_row _ _ 0 _ _ _ hXb; have q1 := cell_of_row _ _ 1 _ _ _ hXb; simp at s0 s1 q0 q1; clear hX hXa hXb; have hz1 := hb4.size; simp at hz1; have hzx : w.heap.size + 1 + 1 < w4.heap.size := by omega))
        ((try simp only [Exit.inBlock, Exit.then]); refine bodyPost_ret (v := ?_) ?_ rfl ?_; rotate_left; (focus (rw [results_cell_tmp rfl]; go_simp; (first | rfl | exact ⟨rfl, rfl⟩))))
        rw [HX2.out]
        exact ⟨none, 0, rfl, Nums.nil _, by (repeat' (first | (with_reducible exact Below.refl _ _) | (with_reducible refine below_alloc ?_) | (with_reducible refine below_drew ?_) | (with_reducible refine below_drewN ?_) | (with_reducible refine below_set (by first | (simp; done) | (simp; omega)) ?_) | (with_reducible refine below_call (by with_reducible assumption) ?_)))⟩
    · have hab := ne_i ha
      have han : (ta != 0) = true := by simpa using ha
      by_cases hb : tb = 0
      · subst hb
        clear HFA
        cases u
        · have HX2 := Lib.hid (show twoRv op ⟨ta, la⟩ ⟨0, lb⟩ = (⟨0, []⟩, 40) by rw [HX.out, if_pos]; simp)
          clear HX
          go_enter Tryz.func116, Tryz.ntmps116
          go_wp2_with (first | (go_at_call 48; refine (HW.out _).mono ?_; rintro e w1 ⟨rfl, rfl⟩) | (go_at_call 122; refine (HH.out _).mono ?_; rintro e w2 ⟨rfl, rfl⟩) | (go_at_call 79; refine (HR.out _).mono ?_; rintro e w3 ⟨rfl, rfl⟩) | (go_at_call 49; refine (HFB.out _ (by (repeat' (first | (with_reducible exact Below.refl _ _) | (with_reducible refine below_alloc ?_) | (with_reducible refine below_drew ?_) | (with_reducible refine below_drewN ?_) | (with_reducible refine below_set (by first | (simp; done) | (simp; omega)) ?_) | (with_reducible refine below_call (by with_reducible assumption) ?_))))).mono ?_; rintro e w4 ⟨rfl, hb4⟩; have hX := (hb4.block (w.heap.size + 1 + 1) (by simp)).trans (box3 _ _ _ _); have HXR := Lib.hid hX; have r0 := cell_of_row _ _ 0 _ _ _ hX; have r1 := cell_of_row _ _ 1 _ _ _ hX; have f0 := frozen_row 0 hX; have f1 := frozen_row 1 hX; simp at r0 r1; have hXa := (hb4.block w.heap.size (by simp; omega)).trans (box3a _ _ _ _); have s0 := cell_of_row _ _ 0 _ _ _ hXa; have s1 := cell_of_row _ _ 1 _ _ _ hXa; have hXb := (hb4.block (w.heap.size + 1) (by simp)).trans (box3b _ _ _ _); have q0 := cell_of_row _ _ 0 _ _ _ hXb; have q1 := cell_of_row _ _ 1 _ _ _ hXb; simp at s0 s1 q0 q1; clear hX hXa hXb; have hz1 := hb4.size; simp at hz1; have hzx : w.heap.size + 1 + 1 < w4.heap.size := by omega))
          ((try simp only [Exit.inBlock, Exit.then]); refine bodyPost_ret (v := ?_) ?_ rfl ?_; rotate_left; (focus (rw [results_cell_tmp rfl]; go_simp; (first | rfl | exact ⟨rfl, rfl⟩))))
          rw [HX2.out]
          exact ⟨none, 0, rfl, Nums.nil _, by (repeat' (first | (with_reducible exact Below.refl _ _) | (with_reducible refine below_alloc ?_) | (with_reducible refine below_drew ?_) | (with_reducible refine below_drewN ?_) | (with_reducible refine below_set (by first | (simp; done) | (simp; omega)) ?_) | (with_reducible refine below_call (by with_reducible assumption) ?_)))⟩
        cases h
        · have HX2 := Lib.hid (show twoRv op ⟨ta, la⟩ ⟨0, lb⟩ = (⟨0, []⟩, 40) by rw [HX.out, if_pos]; simp)
          clear HX
          go_enter Tryz.func116, Tryz.ntmps116
          go_wp2_with (first | (go_at_call 48; refine (HW.out _).mono ?_; rintro e w1 ⟨rfl, rfl⟩) | (go_at_call 122; refine (HH.out _).mono ?_; rintro e w2 ⟨rfl, rfl⟩) | (go_at_call 79; refine (HR.out _).mono ?_; rintro e w3 ⟨rfl, rfl⟩) | (go_at_call 49; refine (HFB.out _ (by (repeat' (first | (with_reducible exact Below.refl _ _) | (with_reducible refine below_alloc ?_) | (with_reducible refine below_drew ?_) | (with_reducible refine below_drewN ?_) | (with_reducible refine below_set (by first | (simp; done) | (simp; omega)) ?_) | (with_reducible refine below_call (by with_reducible assumption) ?_))))).mono ?_; rintro e w4 ⟨rfl, hb4⟩; have hX := (hb4.block (w.heap.size + 1 + 1) (by simp)).trans (box3 _ _ _ _); have HXR := Lib.hid hX; have r0 := cell_of_row _ _ 0 _ _ _ hX; have r1 := cell_of_row _ _ 1 _ _ _ hX; have f0 := frozen_row 0 hX; have f1 := frozen_row 1 hX; simp at r0 r1; have hXa := (hb4.block w.heap.size (by simp; omega)).trans (box3a _ _ _ _); have s0 := cell_of_row _ _ 0 _ _ _ hXa; have s1 := cell_of_row _ _ 1 _ _ _ hXa; have hXb := (hb4.block (w.heap.size + 1) (by simp)).trans (box3b _ _ _ _); have q0 := cell_of_row _ _ 0 _ _ _ hXb; have q1 := cell_of_row _ _ 1 _ _ _ hXb; simp at s0 s1 q0 q1; clear hX hXa hXb; have hz1 := hb4.size; simp at hz1; have hzx : w.heap.size + 1 + 1 < w4.heap.size := by omega))
          ((try simp only [Exit.inBlock, Exit.then]); refine bodyPost_ret (v := ?_) ?_ rfl ?_; rotate_left; (focus (rw [results_cell_tmp rfl]; go_simp; (first | rfl | exact ⟨rfl, rfl⟩))))
          rw [HX2.out]
          exact ⟨none, 0, rfl, Nums.nil _, by (repeat' (first | (with_reducible exact Below.refl _ _) | (with_reducible refine below_alloc ?_) | (with_reducible refine below_drew ?_) | (with_reducible refine below_drewN ?_) | (with_reducible refine below_set (by first | (simp; done) | (simp; omega)) ?_) | (with_reducible refine below_call (by with_reducible assumption) ?_)))⟩
        cases fb
        · have HX2 := Lib.hid (show twoRv op ⟨ta, la⟩ ⟨0, lb⟩ = (⟨0, []⟩, 1) by rw [HX.out, if_neg (by simp), if_pos (by simp)])
          clear HX
          go_enter Tryz.func116, Tryz.ntmps116
          go_wp2_with (first | (go_at_call 48; refine (HW.out _).mono ?_; rintro e w1 ⟨rfl, rfl⟩) | (go_at_call 122; refine (HH.out _).mono ?_; rintro e w2 ⟨rfl, rfl⟩) | (go_at_call 79; refine (HR.out _).mono ?_; rintro e w3 ⟨rfl, rfl⟩) | (go_at_call 49; refine (HFB.out _ (by (repeat' (first | (with_reducible exact Below.refl _ _) | (with_reducible refine below_alloc ?_) | (with_reducible refine below_drew ?_) | (with_reducible refine below_drewN ?_) | (with_reducible refine below_set (by first | (simp; done) | (simp; omega)) ?_) | (with_reducible refine below_call (by with_reducible assumption) ?_))))).mono ?_; rintro e w4 ⟨rfl, hb4⟩; have hX := (hb4.block (w.heap.size + 1 + 1) (by simp)).trans (box3 _ _ _ _); have HXR := Lib.hid hX; have r0 := cell_of_row _ _ 0 _ _ _ hX; have r1 := cell_of_row _ _ 1 _ _ _ hX; have f0 := frozen_row 0 hX; have f1 := frozen_row 1 hX; simp at r0 r1; have hXa := (hb4.block w.heap.size (by simp; omega)).trans (box3a _ _ _ _); have s0 := cell_of_row _ _ 0 _ _ _ hXa; have s1 := cell_of_row _ _ 1 _ _ _ hXa; have hXb := (hb4.block (w.heap.size + 1) (by simp)).trans (box3b _ _ _ _); have q0 := cell_of_row _ _ 0 _ _ _ hXb; have q1 := cell_of_row _ _ 1 _ _ _ hXb; simp at s0 s1 q0 q1; clear hX hXa hXb; have hz1 := hb4.size; simp at hz1; have hzx : w.heap.size + 1 + 1 < w4.heap.size := by omega))
          ((try simp only [Exit.inBlock, Exit.then]); refine bodyPost_ret (v := ?_) ?_ rfl ?_; rotate_left; (focus (rw [results_cell_tmp rfl]; go_simp; (first | rfl | exact ⟨rfl, rfl⟩))))
          rw [HX2.out]
          exact ⟨none, 0, rfl, Nums.nil _, by (repeat' (first | (with_reducible exact Below.refl _ _) | (with_reducible refine below_alloc ?_) | (with_reducible refine below_drew ?_) | (with_reducible refine below_drewN ?_) | (with_reducible refine below_set (by first | (simp; done) | (simp; omega)) ?_) | (with_reducible refine below_call (by with_reducible assumption) ?_)))⟩
        · have HX2 := Lib.hid (show twoRv op ⟨ta, la⟩ ⟨0, lb⟩ = (⟨rt, []⟩, 0) by rw [HX.out, if_neg (by simp), if_neg (by simp [ha])])
          clear HX
          go_enter Tryz.func116, Tryz.ntmps116
          go_wp2_with (first | (go_at_call 48; refine (HW.out _).mono ?_; rintro e w1 ⟨rfl, rfl⟩) | (go_at_call 122; refine (HH.out _).mono ?_; rintro e w2 ⟨rfl, rfl⟩) | (go_at_call 79; refine (HR.out _).mono ?_; rintro e w3 ⟨rfl, rfl⟩) | (go_at_call 49; refine (HFB.out _ (by (repeat' (first | (with_reducible exact Below.refl _ _) | (with_reducible refine below_alloc ?_) | (with_reducible refine below_drew ?_) | (with_reducible refine below_drewN ?_) | (with_reducible refine below_set (by first | (simp; done) | (simp; omega)) ?_) | (with_reducible refine below_call (by with_reducible assumption) ?_))))).mono ?_; rintro e w4 ⟨rfl, hb4⟩; have hX := (hb4.block (w.heap.size + 1 + 1) (by simp)).trans (box3 _ _ _ _); have HXR := Lib.hid hX; have r0 := cell_of_row _ _ 0 _ _ _ hX; have r1 := cell_of_row _ _ 1 _ _ _ hX; have f0 := frozen_row 0 hX; have f1 := frozen_row 1 hX; simp at r0 r1; have hXa := (hb4.block w.heap.size (by simp; omega)).trans (box3a _ _ _ _); have s0 := cell_of_row _ _ 0 _ _ _ hXa; have s1 := cell_of_row _ _ 1 _ _ _ hXa; have hXb := (hb4.block (w.heap.size + 1) (by simp)).trans (box3b _ _ _ _); have q0 := cell_of_row _ _ 0 _ _ _ hXb; have q1 := cell_of_row _ _ 1 _ _ _ hXb; simp at s0 s1 q0 q1; clear hX hXa hXb; have hz1 := hb4.size; simp at hz1; have hzx : w.heap.size + 1 + 1 < w4.heap.size := by omega))
          ((try simp only [Exit.inBlock, Exit.then]); refine bodyPost_ret (v := ?_) ?_ rfl ?_; rotate_left; (focus (rw [results_cell_tmp rfl]; go_simp; (first | rfl | exact ⟨rfl, rfl⟩))))
          rw [HX2.out]
          exact ⟨none, 0, rfl, Nums.nil _, by (repeat' (first | (with_reducible exact Below.refl _ _) | (with_reducible refine below_alloc ?_) | (with_reducible refine below_drew ?_) | (with_reducible refine below_drewN ?_) | (with_reducible refine below_set (by first | (simp; done) | (simp; omega)) ?_) | (with_reducible refine below_call (by with_reducible assumption) ?_)))⟩
      · have hbb := ne_i hb
        have hbn : (tb != 0) = true := by simpa using hb
        clear HFA HFB
        by_cases hab2 : ta = tb
        · subst hab2
          cases h
          · have HX2 := Lib.hid (show twoRv op ⟨ta, la⟩ ⟨ta, lb⟩ = (⟨0, []⟩, 40) by rw [HX.out, if_pos]; simp)
            clear HX
            go_enter Tryz.func116, Tryz.ntmps116
            go_wp2_with (first | (go_at_call 48; refine (HW.out _).mono ?_; rintro e w1 ⟨rfl, rfl⟩) | (go_at_call 122; refine (HH.out _).mono ?_; rintro e w2 ⟨rfl, rfl⟩) | (go_at_call 79; refine (HR.out _).mono ?_; rintro e w3 ⟨rfl, rfl⟩) | (go_at_call 49; refine (HW.out _ (by (repeat' (first | (with_reducible exact Below.refl _ _) | (with_reducible refine below_alloc ?_) | (with_reducible refine below_drew ?_) | (with_reducible refine below_drewN ?_) | (with_reducible refine below_set (by first | (simp; done) | (simp; omega)) ?_) | (with_reducible refine below_call (by with_reducible assumption) ?_))))).mono ?_; rintro e w4 ⟨rfl, hb4⟩; have hX := (hb4.block (w.heap.size + 1 + 1) (by simp)).trans (box3 _ _ _ _); have HXR := Lib.hid hX; have r0 := cell_of_row _ _ 0 _ _ _ hX; have r1 := cell_of_row _ _ 1 _ _ _ hX; have f0 := frozen_row 0 hX; have f1 := frozen_row 1 hX; simp at r0 r1; have hXa := (hb4.block w.heap.size (by simp; omega)).trans (box3a _ _ _ _); have s0 := cell_of_row _ _ 0 _ _ _ hXa; have s1 := cell_of_row _ _ 1 _ _ _ hXa; have hXb := (hb4.block (w.heap.size + 1) (by simp)).trans (box3b _ _ _ _); have q0 := cell_of_row _ _ 0 _ _ _ hXb; have q1 := cell_of_row _ _ 1 _ _ _ hXb; simp at s0 s1 q0 q1; clear hX hXa hXb; have hz1 := hb4.size; simp at hz1; have hzx : w.heap.size + 1 + 1 < w4.heap.size := by omega))
            ((try simp only [Exit.inBlock, Exit.then]); refine bodyPost_ret (v := ?_) ?_ rfl ?_; rotate_left; (focus (rw [results_cell_tmp rfl]; go_simp; (first | rfl | exact ⟨rfl, rfl⟩))))
            rw [HX2.out]
            exact ⟨none, 0, rfl, Nums.nil _, by (repeat' (first | (with_reducible exact Below.refl _ _) | (with_reducible refine below_alloc ?_) | (with_reducible refine below_drew ?_) | (with_reducible refine below_drewN ?_) | (with_reducible refine below_set (by first | (simp; done) | (simp; omega)) ?_) | (with_reducible refine below_call (by with_reducible assumption) ?_)))⟩
          · have HX2 := Lib.hid (show twoRv op ⟨ta, la⟩ ⟨ta, lb⟩ = (⟨rt, []⟩, 0) by rw [HX.out, if_neg (by simp [ha]), if_neg (by simp [ha])])
            clear HX
            go_enter Tryz.func116, Tryz.ntmps116
            go_wp2_with (first | (go_at_call 48; refine (HW.out _).mono ?_; rintro e w1 ⟨rfl, rfl⟩) | (go_at_call 122; refine (HH.out _).mono ?_; rintro e w2 ⟨rfl, rfl⟩) | (go_at_call 79; refine (HR.out _).mono ?_; rintro e w3 ⟨rfl, rfl⟩) | (go_at_call 49; refine (HW.out _ (by (repeat' (first | (with_reducible exact Below.refl _ _) | (with_reducible refine below_alloc ?_) | (with_reducible refine below_drew ?_) | (with_reducible refine below_drewN ?_) | (with_reducible refine below_set (by first | (simp; done) | (simp; omega)) ?_) | (with_reducible refine below_call (by with_reducible assumption) ?_))))).mono ?_; rintro e w4 ⟨rfl, hb4⟩; have hX := (hb4.block (w.heap.size + 1 + 1) (by simp)).trans (box3 _ _ _ _); have HXR := Lib.hid hX; have r0 := cell_of_row _ _ 0 _ _ _ hX; have r1 := cell_of_row _ _ 1 _ _ _ hX; have f0 := frozen_row 0 hX; have f1 := frozen_row 1 hX; simp at r0 r1; have hXa := (hb4.block w.heap.size (by simp; omega)).trans (box3a _ _ _ _); have s0 := cell_of_row _ _ 0 _ _ _ hXa; have s1 := cell_of_row _ _ 1 _ _ _ hXa; have hXb := (hb4.block (w.heap.size + 1) (by simp)).trans (box3b _ _ _ _); have q0 := cell_of_row _ _ 0 _ _ _ hXb; have q1 := cell_of_row _ _ 1 _ _ _ hXb; simp at s0 s1 q0 q1; clear hX hXa hXb; have hz1 := hb4.size; simp at hz1; have hzx : w.heap.size + 1 + 1 < w4.heap.size := by omega))
            ((try simp only [Exit.inBlock, Exit.then]); refine bodyPost_ret (v := ?_) ?_ rfl ?_; rotate_left; (focus (rw [results_cell_tmp rfl]; go_simp; (first | rfl | exact ⟨rfl, rfl⟩))))
            rw [HX2.out]
            exact ⟨none, 0, rfl, Nums.nil _, by (repeat' (first | (with_reducible exact Below.refl _ _) | (with_reducible refine below_alloc ?_) | (with_reducible refine below_drew ?_) | (with_reducible refine below_drewN ?_) | (with_reducible refine below_set (by first | (simp; done) | (simp; omega)) ?_) | (with_reducible refine below_call (by with_reducible assumption) ?_)))⟩
        · have hne := ne_i hab2
          have hnn : (ta != tb) = true := by simpa using hab2
          have HX2 := Lib.hid (show twoRv op ⟨ta, la⟩ ⟨tb, lb⟩ = (⟨0, []⟩, 40) by rw [HX.out, if_pos]; exact .inl ⟨⟨ha, hb⟩, hab2⟩)
          clear HX
          go_enter Tryz.func116, Tryz.ntmps116
          go_wp2_with (first | (go_at_call 48; refine (HW.out _).mono ?_; rintro e w1 ⟨rfl, rfl⟩) | (go_at_call 122; refine (HH.out _).mono ?_; rintro e w2 ⟨rfl, rfl⟩) | (go_at_call 79; refine (HR.out _).mono ?_; rintro e w3 ⟨rfl, rfl⟩) | (go_at_call 49; refine (HW.out _ (by (repeat' (first | (with_reducible exact Below.refl _ _) | (with_reducible refine below_alloc ?_) | (with_reducible refine below_drew ?_) | (with_reducible refine below_drewN ?_) | (with_reducible refine below_set (by first | (simp; done) | (simp; omega)) ?_) | (with_reducible refine below_call (by with_reducible assumption) ?_))))).mono ?_; rintro e w4 ⟨rfl, hb4⟩; have hX := (hb4.block (w.heap.size + 1 + 1) (by simp)).trans (box3 _ _ _ _); have HXR := Lib.hid hX; have r0 := cell_of_row _ _ 0 _ _ _ hX; have r1 := cell_of_row _ _ 1 _ _ _ hX; have f0 := frozen_row 0 hX; have f1 := frozen_row 1 hX; simp at r0 r1; have hXa := (hb4.block w.heap.size (by simp; omega)).trans (box3a _ _ _ _); have s0 := cell_of_row _ _ 0 _ _ _ hXa; have s1 := cell_of_row _ _ 1 _ _ _ hXa; have hXb := (hb4.block (w.heap.size + 1) (by simp)).trans (box3b _ _ _ _); have q0 := cell_of_row _ _ 0 _ _ _ hXb; have q1 := cell_of_row _ _ 1 _ _ _ hXb; simp at s0 s1 q0 q1; clear hX hXa hXb; have hz1 := hb4.size; simp at hz1; have hzx : w.heap.size + 1 + 1 < w4.heap.size := by omega))
          ((try simp only [Exit.inBlock, Exit.then]); refine bodyPost_ret (v := ?_) ?_ rfl ?_; rotate_left; (focus (rw [results_cell_tmp rfl]; go_simp; (first | rfl | exact ⟨rfl, rfl⟩))))
          rw [HX2.out]
          exact ⟨none, 0, rfl, Nums.nil _, by (repeat' (first | (with_reducible exact Below.refl _ _) | (with_reducible refine below_alloc ?_) | (with_reducible refine below_drew ?_) | (with_reducible refine below_drewN ?_) | (with_reducible refine below_set (by first | (simp; done) | (simp; omega)) ?_) | (with_reducible refine below_call (by with_reducible assumption) ?_)))⟩
end Go.Proofs.YtenjkplijblcoaaGreatDoor
