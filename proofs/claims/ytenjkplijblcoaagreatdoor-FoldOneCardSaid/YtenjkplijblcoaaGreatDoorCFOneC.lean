/- capstanlaw10.FoldOne: the walk. -/
import Derived.Test.YtenjkplijblcoaaGreatDoorCFWorks
namespace Cap
open Go Go.RowKit
theorem two_zero {k t a b : Int} (h : (two k t a b).2 ≠ 0) : (two k t a b).1 = 0 := by
  unfold two does at *
  by_cases h1 : isOp k = false
  · rw [if_pos h1]
  · rw [if_neg h1] at *
    by_cases h2 : (oneOf k == false) = false
    · rw [if_pos h2]
    · rw [if_neg h2] at *
      by_cases h3 : hasK (kindsOf k) t = false
      · rw [if_pos h3]
      · rw [if_neg h3] at *
        by_cases h4 : fits t a = false
        · rw [if_pos h4]
        · rw [if_neg h4] at *
          by_cases h5 : fits t b = false
          · rw [if_pos h5]
          · rw [if_neg h5] at *
            by_cases h6 : (k = 4 ∨ k = 5) ∧ b = 0
            · rw [if_pos h6]
            · rw [if_neg h6] at h
              split at h <;> simp at h
end Cap
namespace Go.Proofs.YtenjkplijblcoaaGreatDoor
open Go.RowKit Cap
set_option maxRecDepth 100000

theorem value_len {x : List Prt} {a t : Int} (h : valueX x t = (a, 0)) : x.length ≤ 500 := by
  unfold valueX at h
  by_cases hc : checkX x ≠ 0
  · rw [if_pos hc] at h
    injection h with _ h
    exact absurd h hc
  · exact (checkX_ok (by omega)).1
theorem one_own {w : World} {base n : Nat} {v : Value} {x y : List Prt} {q : Prt} (hn : (x ++ y ++ [q]).length = n) (h : w.ownsRow base 38 5 v (0 + x.length + y.length + [q].length) ([] ++ x.flatMap encPrt ++ y.flatMap encPrt ++ [q].flatMap encPrt)) : w.ownsRow base 38 5 v n ((x ++ y ++ [q]).flatMap encPrt) := by
  subst hn
  rw [List.flatMap_append, List.flatMap_append, List.length_append, List.length_append]
  rw [Nat.zero_add, List.nil_append] at h
  exact h
theorem one_ok {x y : List Prt} (hx : ∀ p ∈ x, PrtOk p) (hy : ∀ p ∈ y, PrtOk p) (k : Int) : ∀ p ∈ x ++ y ++ [opP k], PrtOk p := fun p hp => by
  rw [List.mem_append, List.mem_append, List.mem_singleton] at hp
  rcases hp with (hp | hp) | rfl
  · exact hx p hp
  · exact hy p hp
  · exact prt_ok0 (show (⟨#[]⟩ : ByteArray).size ≤ 24 by decide) (show (⟨#[]⟩ : ByteArray).size ≤ 24 by decide)
theorem kind_bounds (kind : Int) : 1 ≤ wrap64 (1 + wrap64 ((IntKind.u64.wrap kind).tmod 8)) ∧ wrap64 (1 + wrap64 ((IntKind.u64.wrap kind).tmod 8)) ≤ 8 := by
  have h0 : 0 ≤ IntKind.u64.wrap kind := by
    unfold IntKind.wrap
    simp only [IntKind.bits, IntKind.signed]
    simp
    omega
  have h1 := Int.tmod_nonneg 8 h0
  have h2 := Int.tmod_lt_of_pos (IntKind.u64.wrap kind) (show (0 : Int) < 8 by decide)
  generalize (IntKind.u64.wrap kind).tmod 8 = r at *
  unfold wrap64
  omega
set_option maxHeartbeats 8000000 in
theorem foldOne_c (x y : List Prt) (kind : Int) (vx vy : Value) (w : World) (hx : Sl encPrt 5 w vx x) (hy : Sl encPrt 5 w vy y) (hox : ∀ p ∈ x, PrtOk p) (hoy : ∀ p ∈ y, PrtOk p) (hG : G w) :
    Calls Tryz.prog 6 #[vx, vy, .int .i64 kind] w fun e w' => e = .returned (.bool true) ∧ Below w.heap.size w w' := by
  have HWK := Lib.hid (fun W (hW : Below w.heap.size w W) => works_c W (hG.below hW))
  have HVX := Lib.hid (fun W (hW : Below w.heap.size w W) => value_c x 3 vx W (hx.below hW) hox (hG.below hW))
  have HVY := Lib.hid (fun W (hW : Below w.heap.size w W) => value_c y 3 vy W (hy.below hW) hoy (hG.below hW))
  have HX := Lib.hid hx
  have HY := Lib.hid hy
  have HG := Lib.hid hG
  obtain ⟨Ax, cx, rfl, -, -, -⟩ := hx
  obtain ⟨Ay, cy, rfl, -, -, -⟩ := hy
  obtain ⟨⟨a, e⟩, hae⟩ : ∃ q, valueX x 3 = q := ⟨_, rfl⟩
  obtain ⟨⟨b, f⟩, hbf⟩ : ∃ q, valueX y 3 = q := ⟨_, rfl⟩
  rw [hae] at HVX
  rw [hbf] at HVY
  simp only at HVX HVY
  by_cases he : e = 0
  case neg =>
    have hb := ne_i he
    have hn : (e != 0) = true := by simpa using he
    clear hG hox hoy hae hbf
    go_enter Tryz.func6, Tryz.ntmps6
    go_wp2_with (first | (go_at_call 15; refine (HWK.out _ (by (repeat' (first | (with_reducible exact Below.refl _ _) | (with_reducible refine below_alloc ?_) | (with_reducible refine below_drew ?_) | (with_reducible refine below_drewN ?_) | (with_reducible refine below_set (by first | (simp; done) | (simp; omega)) ?_) | (with_reducible refine below_call (by with_reducible assumption) ?_))))).mono ?_; rintro e' w1 ⟨rfl, hb1⟩) | (go_at_call_of 16 (Value.slice Ax x.length cx); refine (HVX.out _ (by (repeat' (first | (with_reducible exact Below.refl _ _) | (with_reducible refine below_alloc ?_) | (with_reducible refine below_drew ?_) | (with_reducible refine below_drewN ?_) | (with_reducible refine below_set (by first | (simp; done) | (simp; omega)) ?_) | (with_reducible refine below_call (by with_reducible assumption) ?_))))).mono ?_; rintro e' w2 ⟨rfl, hb2⟩) | (go_at_call 16; refine (HVY.out _ (by (repeat' (first | (with_reducible exact Below.refl _ _) | (with_reducible refine below_alloc ?_) | (with_reducible refine below_drew ?_) | (with_reducible refine below_drewN ?_) | (with_reducible refine below_set (by first | (simp; done) | (simp; omega)) ?_) | (with_reducible refine below_call (by with_reducible assumption) ?_))))).mono ?_; rintro e' w3 ⟨rfl, hb3⟩))
    go_ret
    exact ⟨rfl, by (repeat' (first | (with_reducible exact Below.refl _ _) | (with_reducible refine below_alloc ?_) | (with_reducible refine below_drew ?_) | (with_reducible refine below_drewN ?_) | (with_reducible refine below_set (by first | (simp; done) | (simp; omega)) ?_) | (with_reducible refine below_call (by with_reducible assumption) ?_)))⟩
  subst he
  by_cases hf : f = 0
  case neg =>
    have hb := ne_i hf
    have hn : (f != 0) = true := by simpa using hf
    clear hG hox hoy hae hbf
    go_enter Tryz.func6, Tryz.ntmps6
    go_wp2_with (first | (go_at_call 15; refine (HWK.out _ (by (repeat' (first | (with_reducible exact Below.refl _ _) | (with_reducible refine below_alloc ?_) | (with_reducible refine below_drew ?_) | (with_reducible refine below_drewN ?_) | (with_reducible refine below_set (by first | (simp; done) | (simp; omega)) ?_) | (with_reducible refine below_call (by with_reducible assumption) ?_))))).mono ?_; rintro e' w1 ⟨rfl, hb1⟩) | (go_at_call_of 16 (Value.slice Ax x.length cx); refine (HVX.out _ (by (repeat' (first | (with_reducible exact Below.refl _ _) | (with_reducible refine below_alloc ?_) | (with_reducible refine below_drew ?_) | (with_reducible refine below_drewN ?_) | (with_reducible refine below_set (by first | (simp; done) | (simp; omega)) ?_) | (with_reducible refine below_call (by with_reducible assumption) ?_))))).mono ?_; rintro e' w2 ⟨rfl, hb2⟩) | (go_at_call 16; refine (HVY.out _ (by (repeat' (first | (with_reducible exact Below.refl _ _) | (with_reducible refine below_alloc ?_) | (with_reducible refine below_drew ?_) | (with_reducible refine below_drewN ?_) | (with_reducible refine below_set (by first | (simp; done) | (simp; omega)) ?_) | (with_reducible refine below_call (by with_reducible assumption) ?_))))).mono ?_; rintro e' w3 ⟨rfl, hb3⟩))
    go_ret
    exact ⟨rfl, by (repeat' (first | (with_reducible exact Below.refl _ _) | (with_reducible refine below_alloc ?_) | (with_reducible refine below_drew ?_) | (with_reducible refine below_drewN ?_) | (with_reducible refine below_set (by first | (simp; done) | (simp; omega)) ?_) | (with_reducible refine below_call (by with_reducible assumption) ?_)))⟩
  subst hf
  go_enter Tryz.func6, Tryz.ntmps6
  go_upto_region 8 with (first | (go_at_call 15; refine (HWK.out _ (by (repeat' (first | (with_reducible exact Below.refl _ _) | (with_reducible refine below_alloc ?_) | (with_reducible refine below_drew ?_) | (with_reducible refine below_drewN ?_) | (with_reducible refine below_set (by first | (simp; done) | (simp; omega)) ?_) | (with_reducible refine below_call (by with_reducible assumption) ?_))))).mono ?_; rintro e' w1 ⟨rfl, hb1⟩) | (go_at_call_of 16 (Value.slice Ax x.length cx); refine (HVX.out _ (by (repeat' (first | (with_reducible exact Below.refl _ _) | (with_reducible refine below_alloc ?_) | (with_reducible refine below_drew ?_) | (with_reducible refine below_drewN ?_) | (with_reducible refine below_set (by first | (simp; done) | (simp; omega)) ?_) | (with_reducible refine below_call (by with_reducible assumption) ?_))))).mono ?_; clear HVX; rintro e' w2 ⟨rfl, hb2⟩) | (go_at_call 16; refine (HVY.out _ (by (repeat' (first | (with_reducible exact Below.refl _ _) | (with_reducible refine below_alloc ?_) | (with_reducible refine below_drew ?_) | (with_reducible refine below_drewN ?_) | (with_reducible refine below_set (by first | (simp; done) | (simp; omega)) ?_) | (with_reducible refine below_call (by with_reducible assumption) ?_))))).mono ?_; rintro e' w3 ⟨rfl, hb3⟩))
  obtain ⟨hk1, hk8⟩ := kind_bounds kind
  generalize wrap64 (1 + wrap64 ((IntKind.u64.wrap kind).tmod 8)) = k at hk1 hk8 ⊢
  have hlx := value_len hae
  have hly := value_len hbf
  have HLAW := Lib.hid (one_law hk1 hk8 hae hbf)
  have HB3 := Lib.hid (show Below w.heap.size w w3 by (repeat' (first | (with_reducible exact Below.refl _ _) | (with_reducible refine below_alloc ?_) | (with_reducible refine below_drew ?_) | (with_reducible refine below_drewN ?_) | (with_reducible refine below_set (by first | (simp; done) | (simp; omega)) ?_) | (with_reducible refine below_call (by with_reducible assumption) ?_))))
  obtain ⟨n7, hn7⟩ : ∃ n, (x ++ y ++ [opP k]).length = n := ⟨_, rfl⟩
  have HN7 := Lib.hid hn7
  clear hG hae hbf hb1 hb2 hb3 HWK HVY hn7
  go_upto_region 9 with (first
    | (at_builtin; refine wpList_app _ rfl _ _ 23 rfl w3.heap.size 38 _ 5 56 Tryz.underlying23 info_prt rfl (by decide) encPrt encPrt_len one_Prt (.slice (some ⟨w3.heap.size, 0, none⟩) 0 0) 0 [] rfl (World.ownsRow_lit w3 #[] 0 (Nat.le_refl _) (by decide) (by rfl)) _ x rfl (HX.out.below (below_alloc HB3.out)) (by unfold maxLen; omega) (by omega) (by simp) ?_; intro v4 w4 ho4 hg4; have hb4 := below_grown (w := w3) (below_alloc (Below.refl _ _)) hg4 (fun g hg => by simp [Value.ownBlock] at hg; omega))
    | (at_builtin; refine wpList_app _ rfl _ _ 23 rfl w3.heap.size 38 _ 5 56 Tryz.underlying23 info_prt rfl (by decide) encPrt encPrt_len one_Prt v4 _ _ rfl ho4 _ y rfl (HY.out.below (below_call hb4 HB3.out)) (by unfold maxLen; omega) (by omega) hb4.size ?_; intro v5 w5 ho5 hg5; have hb5 := below_grown (w := w3) hb4 hg5 (own_ge ho4 (Nat.le_refl _)))
    | (at_builtin; refine wpList_app _ rfl _ _ 23 rfl w3.heap.size 38 _ 5 56 Tryz.underlying23 info_prt rfl (by decide) encPrt encPrt_len one_Prt v5 _ _ rfl (own_below ho5 (below_alloc hb6)) _ [opP k] rfl (by refine Sl.lit' ?_ _ _ _ _ _ _ ?_ ?_ ?_ ?_ <;> first | (intro _; rfl) | rfl | decide | (simp; done)) (by unfold maxLen; simp; omega) (by simp; omega) (by have h1 := hb5.size; have h2 := hb6.size; simp; omega) ?_; intro v7 w7 ho7 hg7; have ho8 := one_own HN7.out ho7; have hb7 := below_grown (w := w3) (below_alloc (below_call hb6 hb5)) hg7 (own_ge ho5 (Nat.le_refl _)); obtain ⟨A7, c7, rfl⟩ := own_slice ho8)
    | (go_at_call 20; refine (lawop_c _ _).mono ?_; unfold prtV opP; rintro e' w6 ⟨rfl, hb6⟩))
  have HVZ := Lib.hid (value_c (x ++ y ++ [opP k]) 3 _ w7 (Sl.own encPrt_len ho8 HN7.out.symm) (one_ok hox hoy k) (HG.out.below (below_call hb7 HB3.out)))
  have HB7 := Lib.hid (show Below w.heap.size w w7 from below_call hb7 HB3.out)
  obtain ⟨⟨c, g⟩, hcg⟩ : ∃ q, valueX (x ++ y ++ [opP k]) 3 = q := ⟨_, rfl⟩
  rw [hcg] at HVZ HLAW
  simp only at HVZ HLAW
  obtain ⟨⟨tv, te⟩, htv⟩ : ∃ q, two k 3 a b = q := ⟨_, rfl⟩
  have HTW := Lib.hid (fun W => two_c k 3 a b W)
  have hz := @two_zero k 3 a b
  have HFT := Lib.hid (fun W => fits_c 3 a W)
  rw [htv] at HTW HLAW hz
  simp only at HTW hz
  obtain ⟨bf, hbf⟩ : ∃ q, fits 3 a = q := ⟨_, rfl⟩
  rw [hbf] at HFT HLAW
  clear hcg htv hbf ho7 ho8 hg7 hb7 hb6 ho5 hg5 hb5 ho4 hg4 hb4 hox hoy
  by_cases hg0 : g = 0
  · subst hg0
    rcases HLAW.out with h | ⟨rfl, h⟩
    · exact absurd rfl h.1
    · injection h with h1 h2
      subst h1 h2
      clear hz HLAW
      go_wp2_with (first | (go_at_call 16; refine HVZ.out.mono ?_; rintro e' w8 ⟨rfl, hb8⟩) | (go_at_call 21; refine (HTW.out _).mono ?_; rintro e' w9 ⟨rfl, hb9⟩) | (go_at_call 19; refine (HFT.out _).mono ?_; rintro e' w10 ⟨rfl, rfl⟩))
      go_ret
      exact ⟨rfl, below_call (by (repeat' (first | (with_reducible exact Below.refl _ _) | (with_reducible refine below_alloc ?_) | (with_reducible refine below_drew ?_) | (with_reducible refine below_drewN ?_) | (with_reducible refine below_set (by first | (simp; done) | (simp; omega)) ?_) | (with_reducible refine below_call (by with_reducible assumption) ?_)))) HB7.out⟩
  · have hgb := ne_i hg0
    have hgn : (g != 0) = true := by simpa using hg0
    by_cases hg1 : g = 41
    · subst hg1
      rcases HLAW.out with h | ⟨rfl, h⟩
      · exact absurd rfl h.2.1
      · injection h with h1 h2
        subst h1 h2
        clear hz HLAW
        go_wp2_with (first | (go_at_call 16; refine HVZ.out.mono ?_; rintro e' w8 ⟨rfl, hb8⟩) | (go_at_call 21; refine (HTW.out _).mono ?_; rintro e' w9 ⟨rfl, hb9⟩) | (go_at_call 19; refine (HFT.out _).mono ?_; rintro e' w10 ⟨rfl, rfl⟩))
        go_ret
        exact ⟨rfl, below_call (by (repeat' (first | (with_reducible exact Below.refl _ _) | (with_reducible refine below_alloc ?_) | (with_reducible refine below_drew ?_) | (with_reducible refine below_drewN ?_) | (with_reducible refine below_set (by first | (simp; done) | (simp; omega)) ?_) | (with_reducible refine below_call (by with_reducible assumption) ?_)))) HB7.out⟩
    · have hgb1 := ne_i hg1
      have hgn1 : (g != 41) = true := by simpa using hg1
      have hc0 : c = 0 := by
        rcases HLAW.out with h | ⟨_, h⟩
        · exact h.2.2
        · injection h with h1 h2
          rw [h1]
          exact hz (by rw [← h2]; exact hg0)
      subst hc0
      clear hz HLAW
      go_wp2_with (first | (go_at_call 16; refine HVZ.out.mono ?_; rintro e' w8 ⟨rfl, hb8⟩))
      go_ret
      exact ⟨rfl, below_call (by (repeat' (first | (with_reducible exact Below.refl _ _) | (with_reducible refine below_alloc ?_) | (with_reducible refine below_drew ?_) | (with_reducible refine below_drewN ?_) | (with_reducible refine below_set (by first | (simp; done) | (simp; omega)) ?_) | (with_reducible refine below_call (by with_reducible assumption) ?_)))) HB7.out⟩
end Go.Proofs.YtenjkplijblcoaaGreatDoor
