/- capstanlaw06.ExprNames: the walk. -/
import Derived.Test.YtbnelgniekcjdaaGreatDoorCE06A
import Derived.Test.YtbnelgniekcjdaaGreatDoorCE06H
import Derived.Test.YtbnelgniekcjdaaGreatDoorCE06N
import Derived.Test.YtbnelgniekcjdaaGreatDoorCFNames
import Derived.Test.YtbnelgniekcjdaaGreatDoorCLit
import Derived.Test.YtbnelgniekcjdaaGreatDoorCStr
set_option linter.unusedSimpArgs false
set_option linter.unusedVariables false
namespace Cap
open Go Go.RowKit
theorem nameOf_app {x y : List Prt} {k : Int} {s : List UInt8} : nameOf (x ++ y ++ [opP k]) s ↔ nameOf x s ∨ nameOf y s := by
  unfold nameOf
  constructor
  · rintro ⟨p, hp, h1, h2⟩
    rw [List.mem_append, List.mem_append, List.mem_singleton] at hp
    rcases hp with (hp | hp) | rfl
    · exact .inl ⟨p, hp, h1, h2⟩
    · exact .inr ⟨p, hp, h1, h2⟩
    · exact absurd h1 (by unfold namedP opP; rw [show (⟨#[]⟩ : ByteArray).toList = [] by kernel_rfl]; decide)
  · rintro (⟨p, hp, h1, h2⟩ | ⟨p, hp, h1, h2⟩)
    · exact ⟨p, by simp [hp], h1, h2⟩
    · exact ⟨p, by simp [hp], h1, h2⟩
theorem names_rise (x : List Prt) {i : Nat} {s s' : List UInt8} (h : (namesL x)[i]? = some s) (h' : (namesL x)[i + 1]? = some s') : ¬ s' ≤ s := by
  obtain ⟨h1, h2, -⟩ := namesL_spec x
  obtain ⟨hi, rfl⟩ := List.getElem?_eq_some_iff.1 h
  obtain ⟨hi', rfl⟩ := List.getElem?_eq_some_iff.1 h'
  have g1 := List.pairwise_iff_getElem.1 h1 i (i + 1) hi hi' (by omega)
  have g2 := List.pairwise_iff_getElem.1 h2 i (i + 1) hi hi' (by omega)
  exact fun h3 => g1 (List.le_antisymm g2 h3)
theorem namesL_le (x : List Prt) : (namesL x).length ≤ x.length := by
  obtain ⟨h1, -, h3⟩ := namesL_spec x
  have h := Go.Proofs.YtbnelgniekcjdaaGreatDoor.nodup_le (namesL x) (x.map fun p => p.s.data.toList) h1 (fun s hs => by
    obtain ⟨p, hp, _, h5⟩ := (h3 s).1 hs
    exact List.mem_map.2 ⟨p, hp, h5⟩)
  rwa [List.length_map] at h
end Cap
namespace Go.Proofs.YtbnelgniekcjdaaGreatDoor
open Go.RowKit Cap Go.Maps Go.Sort
set_option maxRecDepth 100000
theorem info_prtN : InfoIs Tryz.prog 44 (.agg #[.int .i64 0, .int .i64 0, .int .i64 0, .string ⟨#[]⟩, .string ⟨#[]⟩]) 5 56 := by unfold InfoIs; kernel_rfl
theorem one_PrtN (p : Prt) : ∀ u ∈ encPrt p, u.oneCell' = true := fun u hu => by
  unfold encPrt at hu
  simp only [List.mem_cons, List.not_mem_nil, or_false] at hu
  rcases hu with rfl | rfl | rfl | rfl | rfl <;> rfl
theorem one_St (s : List UInt8) : ∀ u ∈ encSt s, u.oneCell' = true := fun u hu => by
  unfold encSt at hu
  rw [List.mem_singleton] at hu
  subst hu
  rfl
theorem hasL_in {x y : List Prt} {k : Int} {i : Nat} {s : List UInt8} (h : (namesL (x ++ y ++ [opP k]))[i]? = some s) : hasL (namesL x) s = true ∨ hasL (namesL y) s = true := by
  have h1 := ((namesL_spec _).2.2 s).1 (List.mem_of_getElem? h)
  rcases nameOf_app.1 h1 with h2 | h2
  · exact .inl (hasL_mem.2 (((namesL_spec x).2.2 s).2 h2))
  · exact .inr (hasL_mem.2 (((namesL_spec y).2.2 s).2 h2))
theorem hasL_back {x y : List Prt} {k : Int} {i : Nat} {s : List UInt8} (h : (namesL x ++ namesL y)[i]? = some s) : hasL (namesL (x ++ y ++ [opP k])) s = true := by
  refine hasL_mem.2 (((namesL_spec _).2.2 s).2 (nameOf_app.2 ?_))
  rcases List.mem_append.1 (List.mem_of_getElem? h) with h2 | h2
  · exact .inl (((namesL_spec x).2.2 s).1 h2)
  · exact .inr (((namesL_spec y).2.2 s).1 h2)
theorem nop_own {w : World} {base n : Nat} {v : Value} {x y : List Prt} {q : Prt} (hn : (x ++ y ++ [q]).length = n) (h : w.ownsRow base 44 5 v (0 + x.length + y.length + [q].length) ([] ++ x.flatMap encPrt ++ y.flatMap encPrt ++ [q].flatMap encPrt)) : w.ownsRow base 44 5 v n ((x ++ y ++ [q]).flatMap encPrt) := by
  subst hn
  rw [List.flatMap_append, List.flatMap_append, List.length_append, List.length_append]
  rw [Nat.zero_add, List.nil_append] at h
  exact h
theorem nop_ok {x y : List Prt} (hx : ∀ p ∈ x, PrtOk p) (hy : ∀ p ∈ y, PrtOk p) (k : Int) : ∀ p ∈ x ++ y ++ [opP k], PrtOk p := fun p hp => by
  rw [List.mem_append, List.mem_append, List.mem_singleton] at hp
  rcases hp with (hp | hp) | rfl
  · exact hx p hp
  · exact hy p hp
  · exact ⟨show (⟨#[]⟩ : ByteArray).size ≤ 140737488351232 by decide, show (⟨#[]⟩ : ByteArray).size ≤ 140737488351232 by decide⟩
theorem less_of {s t : List UInt8} (h : ¬ s ≤ t) : (Op.bytesLess s t || s == t) = false := by
  rw [Bool.or_eq_false_iff]
  constructor
  · rw [bytesLess_eq]
    exact decide_eq_false fun h2 => h (List.le_of_lt h2)
  · simp only [beq_eq_false_iff_ne]
    rintro rfl
    exact h (List.le_refl _)
theorem two_own {w : World} {base n : Nat} {v : Value} {x y : List (List UInt8)} (hn : (x ++ y).length = n) (h : w.ownsRow base 9 1 v (0 + x.length + y.length) ([] ++ x.flatMap encSt ++ y.flatMap encSt)) : w.ownsRow base 9 1 v n ((x ++ y).flatMap encSt) := by
  subst hn
  rw [List.flatMap_append, List.length_append]
  rw [Nat.zero_add, List.nil_append] at h
  exact h
theorem has_is {l : List (List UInt8)} {v : Value} {t : ByteArray} {W : World} {s : List UInt8} {r : Bool} (h : Sl encSt 1 W v l) (hs : t.toList = s) (hr : hasL l s = r) :
    Calls Tryz.prog 14 #[v, .string t] W fun e w' => e = .returned (.bool r) ∧ w' = W := by
  subst hs hr
  exact has_c l v t W h
theorem cell_St {w w' : World} {A : Option Addr} {n c : Nat} {l : List (List UInt8)} (h : Sl encSt 1 w (.slice A n c) l) (hb : Below w.heap.size w w') {k : Nat} {s : List UInt8} (hk : l[k]? = some s) : ∃ b o S, A = some ⟨b, o, none⟩ ∧ w'.cell? ⟨b, o + k, none⟩ = some (.string S) ∧ S.toList = s := by
  obtain ⟨_, _, hve, -, -, h3⟩ := h
  injection hve with e1 e2 e3
  subst e1
  obtain ⟨b, o, rfl, hlt, hc⟩ := h3 k s hk
  have h0 := hc 0 (encStr s) rfl
  rw [Nat.mul_one, Nat.add_zero] at h0
  obtain ⟨S, hS, hSt⟩ := encStr_is s
  exact ⟨b, o, S, rfl, by rw [(hb.cell (p := ⟨b, o + k, none⟩) hlt), h0, hS], hSt⟩
set_option maxHeartbeats 8000000 in
theorem exprNames_c (x y : List Prt) (op : Int) (vx vy : Value) (w : World) (hx : Sl encPrt 5 w vx x) (hy : Sl encPrt 5 w vy y) (hox : ∀ p ∈ x, PrtOk p) (hoy : ∀ p ∈ y, PrtOk p) (hxl : x.length ≤ 1048576) (hyl : y.length ≤ 1048576) (hG : GE w) :
    Calls Tryz.prog 6 #[vx, vy, .int .i64 op] w fun e w' => e = .returned (.bool true) ∧ Below w.heap.size w w' := by
  have HG := Lib.hid hG
  have HWK := Lib.hid (works_c w hG)
  have HNX := Lib.hid (fun W (hW : Below w.heap.size w W) => names_c x vx W (hx.below hW) (hG.x.g.below hW) hox)
  have HNY := Lib.hid (fun W (hW : Below w.heap.size w W) => names_c y vy W (hy.below hW) (hG.x.g.below hW) hoy)
  have HX := Lib.hid hx
  have HY := Lib.hid hy
  obtain ⟨Ax, cx, rfl, -, -, -⟩ := hx
  obtain ⟨Ay, cy, rfl, -, -, -⟩ := hy
  clear hG
  go_enter Tryz.func6, Tryz.ntmps6
  go_upto_region 3 with (first | (go_at_call 7; refine HWK.out.mono ?_; rintro e' w3 ⟨rfl, hb3⟩))
  obtain ⟨k, hk⟩ : ∃ k, k = wrap64 (1 + wrap64 ((IntKind.u64.wrap op).tmod 14)) := ⟨_, rfl⟩
  have HK := Lib.hid hk
  clear hk
  have HB3 := Lib.hid (show Below w.heap.size w w3 from hb3)
  obtain ⟨n7, hn7⟩ : ∃ n, (x ++ y ++ [opP k]).length = n := ⟨_, rfl⟩
  have HN7 := Lib.hid hn7
  clear hb3 HWK hn7
  go_upto_region 4 with (first
    | (at_builtin; refine wpList_app _ rfl _ _ 26 rfl w3.heap.size 44 _ 5 56 Tryz.underlying26 info_prtN rfl (by decide) encPrt encPrt_len one_PrtN (.slice (some ⟨w3.heap.size, 0, none⟩) 0 0) 0 [] rfl (World.ownsRow_lit w3 #[] 0 (Nat.le_refl _) (by decide) (by rfl)) _ x rfl (HX.out.below (below_alloc HB3.out)) (by unfold maxLen; omega) (by omega) (by simp) ?_; intro v4 w4 ho4 hg4; have hb4 := below_grown (w := w3) (below_alloc (Below.refl _ _)) hg4 (fun g hg => by simp [Value.ownBlock] at hg; omega))
    | (at_builtin; refine wpList_app _ rfl _ _ 26 rfl w3.heap.size 44 _ 5 56 Tryz.underlying26 info_prtN rfl (by decide) encPrt encPrt_len one_PrtN v4 _ _ rfl ho4 _ y rfl (HY.out.below (below_call hb4 HB3.out)) (by unfold maxLen; omega) (by omega) hb4.size ?_; intro v5 w5 ho5 hg5; have hb5 := below_grown (w := w3) hb4 hg5 (own_ge ho4 (Nat.le_refl _)))
    | (at_builtin; refine wpList_app _ rfl _ _ 26 rfl w3.heap.size 44 _ 5 56 Tryz.underlying26 info_prtN rfl (by decide) encPrt encPrt_len one_PrtN v5 _ _ rfl (own_below ho5 (below_alloc (Below.refl _ _))) _ [opP k] rfl (by refine Sl.lit' ?_ _ _ _ _ _ _ ?_ ?_ ?_ ?_ <;> first | (intro _; rfl) | (rw [HK.out]; rfl) | rfl | decide | (simp; done)) (by unfold maxLen; simp; omega) (by simp; omega) (by have h1 := hb5.size; simp; omega) ?_; intro v7 w7 ho7 hg7; have ho8 := nop_own HN7.out ho7; have hb7 := below_grown (w := w3) (below_alloc hb5) hg7 (own_ge ho5 (Nat.le_refl _)); obtain ⟨A7, c7, rfl⟩ := own_slice ho8))
  have HB7 := Lib.hid (show Below w.heap.size w w7 from below_call hb7 HB3.out)
  have HZ := Lib.hid (Sl.own encPrt_len ho8 HN7.out.symm)
  have HCZ := Lib.hid (fun (W : World) (hW : Below w7.heap.size w7 W) => checkX_c _ _ W (HZ.out.below hW) ((HG.out.x.g.below HB7.out).below hW) (nop_ok hox hoy k))
  have HNZ := Lib.hid (fun (W : World) (hW : Below w7.heap.size w7 W) => names_c _ _ W (HZ.out.below hW) ((HG.out.x.g.below HB7.out).below hW) (nop_ok hox hoy k))
  have HNX := Lib.hid (fun (W : World) (hW : Below w7.heap.size w7 W) => HNX.out W (below_call hW HB7.out))
  have HNY := Lib.hid (fun (W : World) (hW : Below w7.heap.size w7 W) => HNY.out W (below_call hW HB7.out))
  unfold NamesR at HNX HNY HNZ
  have HIN := Lib.hid (fun (i : Nat) (s : List UInt8) h => @hasL_in x y k i s h)
  have HBK := Lib.hid (fun (i : Nat) (s : List UInt8) h => @hasL_back x y k i s h)
  have HRI := Lib.hid (fun (i : Nat) (s s' : List UInt8) h h' => @names_rise (x ++ y ++ [opP k]) i s s' h h')
  obtain ⟨lx, hlx⟩ : ∃ l, namesL x = l := ⟨_, rfl⟩
  obtain ⟨ly, hly⟩ : ∃ l, namesL y = l := ⟨_, rfl⟩
  have hlxn := namesL_le x
  have hlyn := namesL_le y
  obtain ⟨z, hz⟩ : ∃ z, x ++ y ++ [opP k] = z := ⟨_, rfl⟩
  obtain ⟨cx0, hcx⟩ : ∃ c, checkX x = c := ⟨_, rfl⟩
  obtain ⟨cy0, hcy⟩ : ∃ c, checkX y = c := ⟨_, rfl⟩
  obtain ⟨cz0, hcz⟩ : ∃ c, checkX z = c := ⟨_, rfl⟩
  obtain ⟨lz, hlz⟩ : ∃ l, namesL z = l := ⟨_, rfl⟩
  rw [hz] at HIN HBK HRI HNZ HCZ
  rw [hlx, hly, hlz] at HIN HBK
  rw [hlz] at HRI
  rw [hcz, hlz] at HNZ
  rw [hcz] at HCZ
  rw [hcx, hlx] at HNX
  rw [hcy, hly] at HNY
  rw [hlx] at hlxn
  rw [hly] at hlyn
  have hlx0 : lx.length ≤ 1048576 := by omega
  have hly0 : ly.length ≤ 1048576 := by omega
  have HSX := Lib.hid hlx0
  have HSY := Lib.hid hly0
  clear hlx hly hlz hcx hcy hcz hz hlxn hlyn hox hoy ho7 ho8 hg7 hb7 ho5 hg5 hb5 ho4 hg4 hb4 hxl hyl HX HY HG HK HN7 HZ HB3 hlx0 hly0
  by_cases h1 : cx0 = 0
  case neg =>
    have n1 := ne_i h1
    have n1' : (cx0 != 0) = true := by simpa using h1
    simp only [ne_eq, h1, not_false_eq_true, if_true] at HNX
    by_cases h2 : cy0 = 0
    · subst h2
      simp only [ne_eq, not_true_eq_false, if_false] at HNY
      clear h1
      go_upto_region 5 with (first | (go_at_call 12; refine (HNX.out _ (by (repeat' (first | (with_reducible exact Below.refl _ _) | (with_reducible refine below_alloc ?_) | (with_reducible refine below_drew ?_) | (with_reducible refine below_drewN ?_) | (with_reducible refine below_set (by first | (simp; done) | (simp; omega)) ?_) | (with_reducible refine below_call (by with_reducible assumption) ?_))))).mono ?_; clear HNX; rintro e' w8 ⟨rfl, hb8⟩))
      go_upto_region 6 with (first | (go_at_call 12; refine (HNY.out _ (by (repeat' (first | (with_reducible exact Below.refl _ _) | (with_reducible refine below_alloc ?_) | (with_reducible refine below_drew ?_) | (with_reducible refine below_drewN ?_) | (with_reducible refine below_set (by first | (simp; done) | (simp; omega)) ?_) | (with_reducible refine below_call (by with_reducible assumption) ?_))))).mono ?_; clear HNY; rintro e' w9 ⟨⟨v9, rfl, -, -⟩, hb9⟩))
      go_wp2
      go_ret
      exact ⟨rfl, below_call (by (repeat' (first | (with_reducible exact Below.refl _ _) | (with_reducible refine below_alloc ?_) | (with_reducible refine below_drew ?_) | (with_reducible refine below_drewN ?_) | (with_reducible refine below_set (by first | (simp; done) | (simp; omega)) ?_) | (with_reducible refine below_call (by with_reducible assumption) ?_)))) HB7.out⟩
    · simp only [ne_eq, h2, not_false_eq_true, if_true] at HNY
      have n2 := ne_i h2
      have n2' : (cy0 != 0) = true := by simpa using h2
      clear h1 h2
      go_upto_region 5 with (first | (go_at_call 12; refine (HNX.out _ (by (repeat' (first | (with_reducible exact Below.refl _ _) | (with_reducible refine below_alloc ?_) | (with_reducible refine below_drew ?_) | (with_reducible refine below_drewN ?_) | (with_reducible refine below_set (by first | (simp; done) | (simp; omega)) ?_) | (with_reducible refine below_call (by with_reducible assumption) ?_))))).mono ?_; clear HNX; rintro e' w8 ⟨rfl, hb8⟩))
      go_upto_region 6 with (first | (go_at_call 12; refine (HNY.out _ (by (repeat' (first | (with_reducible exact Below.refl _ _) | (with_reducible refine below_alloc ?_) | (with_reducible refine below_drew ?_) | (with_reducible refine below_drewN ?_) | (with_reducible refine below_set (by first | (simp; done) | (simp; omega)) ?_) | (with_reducible refine below_call (by with_reducible assumption) ?_))))).mono ?_; clear HNY; rintro e' w9 ⟨rfl, hb9⟩))
      go_wp2
      go_ret
      exact ⟨rfl, below_call (by (repeat' (first | (with_reducible exact Below.refl _ _) | (with_reducible refine below_alloc ?_) | (with_reducible refine below_drew ?_) | (with_reducible refine below_drewN ?_) | (with_reducible refine below_set (by first | (simp; done) | (simp; omega)) ?_) | (with_reducible refine below_call (by with_reducible assumption) ?_)))) HB7.out⟩
  subst h1
  simp only [ne_eq, not_true_eq_false, if_false] at HNX
  by_cases h2 : cy0 = 0
  case neg =>
    have n2 := ne_i h2
    have n2' : (cy0 != 0) = true := by simpa using h2
    simp only [ne_eq, h2, not_false_eq_true, if_true] at HNY
    clear h2
    go_upto_region 5 with (first | (go_at_call 12; refine (HNX.out _ (by (repeat' (first | (with_reducible exact Below.refl _ _) | (with_reducible refine below_alloc ?_) | (with_reducible refine below_drew ?_) | (with_reducible refine below_drewN ?_) | (with_reducible refine below_set (by first | (simp; done) | (simp; omega)) ?_) | (with_reducible refine below_call (by with_reducible assumption) ?_))))).mono ?_; clear HNX; rintro e' w8 ⟨⟨v8, rfl, -, -⟩, hb8⟩))
    go_upto_region 6 with (first | (go_at_call 12; refine (HNY.out _ (by (repeat' (first | (with_reducible exact Below.refl _ _) | (with_reducible refine below_alloc ?_) | (with_reducible refine below_drew ?_) | (with_reducible refine below_drewN ?_) | (with_reducible refine below_set (by first | (simp; done) | (simp; omega)) ?_) | (with_reducible refine below_call (by with_reducible assumption) ?_))))).mono ?_; clear HNY; rintro e' w9 ⟨rfl, hb9⟩))
    go_wp2
    go_ret
    exact ⟨rfl, below_call (by (repeat' (first | (with_reducible exact Below.refl _ _) | (with_reducible refine below_alloc ?_) | (with_reducible refine below_drew ?_) | (with_reducible refine below_drewN ?_) | (with_reducible refine below_set (by first | (simp; done) | (simp; omega)) ?_) | (with_reducible refine below_call (by with_reducible assumption) ?_)))) HB7.out⟩
  subst h2
  simp only [ne_eq, not_true_eq_false, if_false] at HNY
  by_cases h3 : cz0 = 0
  case neg =>
    have n3 := ne_i h3
    have n3' : (cz0 != 0) = true := by simpa using h3
    clear h3 HNZ
    go_upto_region 5 with (first | (go_at_call 12; refine (HNX.out _ (by (repeat' (first | (with_reducible exact Below.refl _ _) | (with_reducible refine below_alloc ?_) | (with_reducible refine below_drew ?_) | (with_reducible refine below_drewN ?_) | (with_reducible refine below_set (by first | (simp; done) | (simp; omega)) ?_) | (with_reducible refine below_call (by with_reducible assumption) ?_))))).mono ?_; clear HNX; rintro e' w8 ⟨⟨v8, rfl, -, -⟩, hb8⟩))
    go_upto_region 6 with (first | (go_at_call 12; refine (HNY.out _ (by (repeat' (first | (with_reducible exact Below.refl _ _) | (with_reducible refine below_alloc ?_) | (with_reducible refine below_drew ?_) | (with_reducible refine below_drewN ?_) | (with_reducible refine below_set (by first | (simp; done) | (simp; omega)) ?_) | (with_reducible refine below_call (by with_reducible assumption) ?_))))).mono ?_; clear HNY; rintro e' w9 ⟨⟨v9, rfl, -, -⟩, hb9⟩))
    go_wp2_with (first | (go_at_call 13; refine (HCZ.out _ (by (repeat' (first | (with_reducible exact Below.refl _ _) | (with_reducible refine below_alloc ?_) | (with_reducible refine below_drew ?_) | (with_reducible refine below_drewN ?_) | (with_reducible refine below_set (by first | (simp; done) | (simp; omega)) ?_) | (with_reducible refine below_call (by with_reducible assumption) ?_))))).mono ?_; rintro e' w10 ⟨rfl, hb10⟩))
    go_ret
    exact ⟨rfl, below_call (by (repeat' (first | (with_reducible exact Below.refl _ _) | (with_reducible refine below_alloc ?_) | (with_reducible refine below_drew ?_) | (with_reducible refine below_drewN ?_) | (with_reducible refine below_set (by first | (simp; done) | (simp; omega)) ?_) | (with_reducible refine below_call (by with_reducible assumption) ?_)))) HB7.out⟩
  subst h3
  simp only [ne_eq, not_true_eq_false, if_false] at HNZ
  go_upto_region 5 with (first | (go_at_call 12; refine (HNX.out _ (by (repeat' (first | (with_reducible exact Below.refl _ _) | (with_reducible refine below_alloc ?_) | (with_reducible refine below_drew ?_) | (with_reducible refine below_drewN ?_) | (with_reducible refine below_set (by first | (simp; done) | (simp; omega)) ?_) | (with_reducible refine below_call (by with_reducible assumption) ?_))))).mono ?_; clear HNX; rintro e' w8 ⟨⟨v8, rfl, ho8, -⟩, hb8⟩; have HS8 := Lib.hid (Sl.own encSt_len ho8 rfl); obtain ⟨A8, c8, rfl⟩ := own_slice ho8; clear ho8))
  go_upto_region 6 with (first | (go_at_call 12; refine (HNY.out _ (by (repeat' (first | (with_reducible exact Below.refl _ _) | (with_reducible refine below_alloc ?_) | (with_reducible refine below_drew ?_) | (with_reducible refine below_drewN ?_) | (with_reducible refine below_set (by first | (simp; done) | (simp; omega)) ?_) | (with_reducible refine below_call (by with_reducible assumption) ?_))))).mono ?_; clear HNY; rintro e' w9 ⟨⟨v9, rfl, ho9, -⟩, hb9⟩; have HS9 := Lib.hid (Sl.own encSt_len ho9 rfl); obtain ⟨A9, c9, rfl⟩ := own_slice ho9; clear ho9))
  go_upto_region 11 with (first | (go_at_call 13; refine (HCZ.out _ (by (repeat' (first | (with_reducible exact Below.refl _ _) | (with_reducible refine below_alloc ?_) | (with_reducible refine below_drew ?_) | (with_reducible refine below_drewN ?_) | (with_reducible refine below_set (by first | (simp; done) | (simp; omega)) ?_) | (with_reducible refine below_call (by with_reducible assumption) ?_))))).mono ?_; clear HCZ; rintro e' w10 ⟨rfl, hb10⟩) | (go_at_call 12; refine (HNZ.out _ (by (repeat' (first | (with_reducible exact Below.refl _ _) | (with_reducible refine below_alloc ?_) | (with_reducible refine below_drew ?_) | (with_reducible refine below_drewN ?_) | (with_reducible refine below_set (by first | (simp; done) | (simp; omega)) ?_) | (with_reducible refine below_call (by with_reducible assumption) ?_))))).mono ?_; clear HNZ; rintro e' w11 ⟨⟨v11, rfl, ho11, -⟩, hb11⟩; have HS11 := Lib.hid (Sl.own encSt_len ho11 rfl); obtain ⟨A11, c11, rfl⟩ := own_slice ho11; clear ho11))
  have HB11 := Lib.hid (show Below w7.heap.size w7 w11 by (repeat' (first | (with_reducible exact Below.refl _ _) | (with_reducible refine below_alloc ?_) | (with_reducible refine below_drew ?_) | (with_reducible refine below_drewN ?_) | (with_reducible refine below_set (by first | (simp; done) | (simp; omega)) ?_) | (with_reducible refine below_call (by with_reducible assumption) ?_))))
  have HS8 := Lib.hid (HS8.out.below (show Below w8.heap.size w8 w11 by (repeat' (first | (with_reducible exact Below.refl _ _) | (with_reducible refine below_alloc ?_) | (with_reducible refine below_drew ?_) | (with_reducible refine below_drewN ?_) | (with_reducible refine below_set (by first | (simp; done) | (simp; omega)) ?_) | (with_reducible refine below_call (by with_reducible assumption) ?_)))))
  have HS9 := Lib.hid (HS9.out.below (show Below w9.heap.size w9 w11 by (repeat' (first | (with_reducible exact Below.refl _ _) | (with_reducible refine below_alloc ?_) | (with_reducible refine below_drew ?_) | (with_reducible refine below_drewN ?_) | (with_reducible refine below_set (by first | (simp; done) | (simp; omega)) ?_) | (with_reducible refine below_call (by with_reducible assumption) ?_)))))
  have hmax : lz.length ≤ 9223372036854775807 := by
    obtain ⟨_, _, hve, h1, h2, -⟩ := HS11.out
    omega
  have HL := Lib.hid (show ∀ k, k < lz.length → ∃ s, lz[k]? = some s from fun k hk => ⟨lz[k], List.getElem?_eq_getElem hk⟩)
  obtain ⟨L, hL⟩ : ∃ L, lz.length = L := ⟨_, rfl⟩
  rw [hL] at HL HS11 hmax ⊢
  clear hL hb8 hb9 hb10 hb11
  go_wp2
  go_loopg [62] L (fun gg s62 wr => ∃ k : Nat, s62 = .int .i64 k ∧ k ≤ L ∧ L - k ≤ gg ∧ Aside (Below w11.heap.size w11 wr))
  case atStart => exact ⟨0, rfl, Nat.zero_le _, by omega, (show Below w11.heap.size w11 w11 from Below.refl _ _)⟩
  case round =>
    obtain ⟨k, rfl, hk, hg, HBR⟩ := hrel
    by_cases hlt : k < L
    · obtain ⟨s, hs⟩ := HL.out k hlt
      obtain ⟨b, o, S, rfl, h4, hSt⟩ := cell_St HS11.out HBR.out hs
      have hin := HIN.out k s hs
      have hltz : (k : Int) < (L : Int) := by omega
      have hk0 : (0 : Int) ≤ (k : Int) := Int.natCast_nonneg _
      have HR0 := Lib.hid (fun (j : Nat) (s0 : List UInt8) (h : lz[j]? = some s0) (h' : lz[j + 1]? = some s) => HRI.out j s0 s h h')
      obtain ⟨r, hr⟩ : ∃ r, hasL lx s = r := ⟨_, rfl⟩
      have HHX := Lib.hid (fun W (hW : Below w11.heap.size w11 W) => has_is (HS8.out.below hW) hSt hr)
      have HHY := Lib.hid (show r = false → ∀ W (hW : Below w11.heap.size w11 W), Calls Tryz.prog 14 #[.slice A9 ly.length c9, .string S] W fun e w' => e = .returned (.bool true) ∧ w' = W from fun h0 W hW => has_is (HS9.out.below hW) hSt (hin.resolve_left (by rw [hr, h0]; decide)))
      have HSJ := Lib.hid (fun j (hj : j + 1 = k) => show ∃ S0 : ByteArray, wr.cell? ⟨b, o + j, none⟩ = some (.string S0) ∧ ¬ S.toList ≤ S0.toList from by
        subst hj
        obtain ⟨s0, hs0⟩ := HL.out j (by omega)
        obtain ⟨b', o', S0, he, h5, hSt0⟩ := cell_St HS11.out HBR.out hs0
        injection he with he
        injection he with e1 e2 e3
        subst e1 e2
        exact ⟨S0, h5, by rw [hSt0, hSt]; exact HR0.out j s0 hs0 hs⟩)
      clear hs hSt hin hr HR0 HL HIN HRI HBK
      rcases Nat.eq_zero_or_pos k with hk1 | hk1
      · subst hk1
        have h4' : wr.cell? ⟨b, o, none⟩ = some (.string S) := h4
        clear HSJ
        cases r with
        | true =>
          go_upto_region 14 with fail
          go_quiet (first | (go_at_call 14; exact Calls.quiet_of_same (HHX.out _ (below_call (by (repeat' (first | (with_reducible exact Below.refl _ _) | (with_reducible refine below_alloc ?_) | (with_reducible refine below_drew ?_) | (with_reducible refine below_drewN ?_) | (with_reducible refine below_set (by first | (simp; done) | (simp; omega)) ?_) | (with_reducible refine below_call (by with_reducible assumption) ?_)))) HBR.out))))
          go_wp2
          go_roundg (L - (0 + 1))
          case measure => omega
          case rel => exact ⟨0 + 1, by go_num, by omega, by omega, (show Below w11.heap.size w11 _ from below_call (by (repeat' (first | (with_reducible exact Below.refl _ _) | (with_reducible refine below_alloc ?_) | (with_reducible refine below_drew ?_) | (with_reducible refine below_drewN ?_) | (with_reducible refine below_set (by first | (simp; done) | (simp; omega)) ?_) | (with_reducible refine below_call (by with_reducible assumption) ?_)))) HBR.out)⟩
        | false =>
          have HHY := Lib.hid (HHY.out rfl)
          go_upto_region 14 with fail
          go_quiet (first | (go_at_call_of 14 (Value.slice A8 lx.length c8); exact Calls.quiet_of_same (HHX.out _ (below_call (by (repeat' (first | (with_reducible exact Below.refl _ _) | (with_reducible refine below_alloc ?_) | (with_reducible refine below_drew ?_) | (with_reducible refine below_drewN ?_) | (with_reducible refine below_set (by first | (simp; done) | (simp; omega)) ?_) | (with_reducible refine below_call (by with_reducible assumption) ?_)))) HBR.out))) | (go_at_call 14; exact Calls.quiet_of_same (HHY.out _ (below_call (by (repeat' (first | (with_reducible exact Below.refl _ _) | (with_reducible refine below_alloc ?_) | (with_reducible refine below_drew ?_) | (with_reducible refine below_drewN ?_) | (with_reducible refine below_set (by first | (simp; done) | (simp; omega)) ?_) | (with_reducible refine below_call (by with_reducible assumption) ?_)))) HBR.out))))
          go_wp2
          go_roundg (L - (0 + 1))
          case measure => omega
          case rel => exact ⟨0 + 1, by go_num, by omega, by omega, (show Below w11.heap.size w11 _ from below_call (by (repeat' (first | (with_reducible exact Below.refl _ _) | (with_reducible refine below_alloc ?_) | (with_reducible refine below_drew ?_) | (with_reducible refine below_drewN ?_) | (with_reducible refine below_set (by first | (simp; done) | (simp; omega)) ?_) | (with_reducible refine below_call (by with_reducible assumption) ?_)))) HBR.out)⟩
      · obtain ⟨j, hj⟩ : ∃ j, j + 1 = k := ⟨k - 1, by omega⟩
        obtain ⟨S0, h5, hle⟩ := HSJ.out j hj
        have hj1 : (k : Int) - 1 = (j : Int) := by omega
        have hk2 : (0 : Int) < (k : Int) := by omega
        have hk3 : decide (0 < k) = true := decide_eq_true hk1
        have hle2 : (Op.bytesLess S.toList S0.toList || S.toList == S0.toList) = false := less_of hle
        clear hle
        have hjl : (j : Int) < (L : Int) := by omega
        clear hj hk1
        have hj0 : (0 : Int) ≤ (j : Int) := Int.natCast_nonneg _
        clear HSJ
        cases r with
        | true =>
          go_upto_region 14 with fail
          go_quiet (first | (go_at_call 14; exact Calls.quiet_of_same (HHX.out _ (below_call (by (repeat' (first | (with_reducible exact Below.refl _ _) | (with_reducible refine below_alloc ?_) | (with_reducible refine below_drew ?_) | (with_reducible refine below_drewN ?_) | (with_reducible refine below_set (by first | (simp; done) | (simp; omega)) ?_) | (with_reducible refine below_call (by with_reducible assumption) ?_)))) HBR.out))))
          go_wp2
          go_roundg (L - (k + 1))
          case measure => omega
          case rel => exact ⟨k + 1, by go_num, by omega, by omega, (show Below w11.heap.size w11 _ from below_call (by (repeat' (first | (with_reducible exact Below.refl _ _) | (with_reducible refine below_alloc ?_) | (with_reducible refine below_drew ?_) | (with_reducible refine below_drewN ?_) | (with_reducible refine below_set (by first | (simp; done) | (simp; omega)) ?_) | (with_reducible refine below_call (by with_reducible assumption) ?_)))) HBR.out)⟩
        | false =>
          have HHY := Lib.hid (HHY.out rfl)
          go_upto_region 14 with fail
          go_quiet (first | (go_at_call_of 14 (Value.slice A8 lx.length c8); exact Calls.quiet_of_same (HHX.out _ (below_call (by (repeat' (first | (with_reducible exact Below.refl _ _) | (with_reducible refine below_alloc ?_) | (with_reducible refine below_drew ?_) | (with_reducible refine below_drewN ?_) | (with_reducible refine below_set (by first | (simp; done) | (simp; omega)) ?_) | (with_reducible refine below_call (by with_reducible assumption) ?_)))) HBR.out))) | (go_at_call 14; exact Calls.quiet_of_same (HHY.out _ (below_call (by (repeat' (first | (with_reducible exact Below.refl _ _) | (with_reducible refine below_alloc ?_) | (with_reducible refine below_drew ?_) | (with_reducible refine below_drewN ?_) | (with_reducible refine below_set (by first | (simp; done) | (simp; omega)) ?_) | (with_reducible refine below_call (by with_reducible assumption) ?_)))) HBR.out))))
          go_wp2
          go_roundg (L - (k + 1))
          case measure => omega
          case rel => exact ⟨k + 1, by go_num, by omega, by omega, (show Below w11.heap.size w11 _ from below_call (by (repeat' (first | (with_reducible exact Below.refl _ _) | (with_reducible refine below_alloc ?_) | (with_reducible refine below_drew ?_) | (with_reducible refine below_drewN ?_) | (with_reducible refine below_set (by first | (simp; done) | (simp; omega)) ?_) | (with_reducible refine below_call (by with_reducible assumption) ?_)))) HBR.out)⟩
    · obtain rfl : k = L := by omega
      have hltz : ¬ (k : Int) < (k : Int) := by omega
      clear HIN HRI hg hk hlt
      have HBW := Lib.hid (below_call HBR.out HB11.out)
      go_upto_region 17 with fail
      have HX8 := Lib.hid (HS8.out.below HBR.out)
      have HX9 := Lib.hid (HS9.out.below HBR.out)
      have HX11 := Lib.hid (HS11.out.below HBR.out)
      have hsx := HSX.out
      have hsy := HSY.out
      obtain ⟨M, hM⟩ : ∃ M, (lx ++ ly).length = M := ⟨_, rfl⟩
      have hmax2 : M ≤ 9223372036854775807 := by rw [← hM, List.length_append]; omega
      have HM := Lib.hid hM
      have HL2 := Lib.hid (show ∀ k, k < M → ∃ s, (lx ++ ly)[k]? = some s from fun k hk => ⟨(lx ++ ly)[k]'(by rw [hM]; exact hk), List.getElem?_eq_getElem _⟩)
      clear HBR HB11 HS8 HS9 HS11 hM
      go_wp2_with (first
        | (at_builtin; refine wpList_app _ rfl (.tmp 98) (.tmp 99) 23 rfl wr.heap.size 9 (.string ⟨#[]⟩) 1 16 Tryz.underlying23 info_strR rfl (by decide) encSt encSt_len one_St (.slice (some ⟨wr.heap.size, 0, none⟩) 0 0) 0 [] rfl (World.ownsRow_lit wr #[] 0 (Nat.le_refl _) (by decide) (by rfl)) _ lx rfl (HX8.out.below (below_alloc (Below.refl _ _))) (by unfold maxLen; omega) (by omega) (by simp) ?_; intro v12 w12 ho12 hg12; have hb12 := below_grown (w := wr) (below_alloc (Below.refl _ _)) hg12 (fun g hg => by simp [Value.ownBlock] at hg; omega))
        | (at_builtin; refine wpList_app _ rfl (.tmp 100) (.tmp 101) 23 rfl wr.heap.size 9 (.string ⟨#[]⟩) 1 16 Tryz.underlying23 info_strR rfl (by decide) encSt encSt_len one_St v12 _ _ rfl ho12 _ ly rfl (HX9.out.below hb12) (by unfold maxLen; omega) (by omega) hb12.size ?_; intro v13 w13 ho13 hg13; have hb13 := below_grown (w := wr) hb12 hg13 (own_ge ho12 (Nat.le_refl _)); have ho14 := two_own HM.out ho13; obtain ⟨A13, c13, rfl⟩ := own_slice ho14))
      have HS13 := Lib.hid (Sl.own encSt_len ho14 HM.out.symm)
      have HB13 := Lib.hid (below_call hb13 HBW.out)
      have HX11 := Lib.hid (HX11.out.below hb13)
      clear HM hb12 hb13 ho12 ho13 ho14 hg12 hg13 HX8 HX9 HSX HSY hsx hsy HBW
      go_loopg [104] M (fun gg s104 wq => ∃ j : Nat, s104 = .int .i64 j ∧ j ≤ M ∧ M - j ≤ gg ∧ Aside (Below w13.heap.size w13 wq))
      case atStart => exact ⟨0, rfl, Nat.zero_le _, by omega, (show Below w13.heap.size w13 w13 from Below.refl _ _)⟩
      case round =>
        obtain ⟨j, rfl, hj, hgj, HBQ⟩ := hrel
        by_cases hlj : j < M
        · obtain ⟨s, hs⟩ := HL2.out j hlj
          obtain ⟨b, o, S, rfl, h4, hSt⟩ := cell_St HS13.out HBQ.out hs
          have hjz : (j : Int) < (M : Int) := by omega
          have hj0 : (0 : Int) ≤ (j : Int) := Int.natCast_nonneg _
          have HHZ := Lib.hid (has_is (HX11.out.below HBQ.out) hSt (HBK.out j s hs))
          clear hs hSt HL2 HS13
          go_wp2_with (first | (go_at_call 14; refine HHZ.out.mono ?_; rintro e' w20 ⟨rfl, rfl⟩))
          go_roundg (M - (j + 1))
          case measure => omega
          case rel => exact ⟨j + 1, by go_num, by omega, by omega, (show Below w13.heap.size w13 _ from below_call (by (repeat' (first | (with_reducible exact Below.refl _ _) | (with_reducible refine below_alloc ?_) | (with_reducible refine below_drew ?_) | (with_reducible refine below_drewN ?_) | (with_reducible refine below_set (by first | (simp; done) | (simp; omega)) ?_) | (with_reducible refine below_call (by with_reducible assumption) ?_)))) HBQ.out)⟩
        · obtain rfl : j = M := by omega
          have hjz : ¬ (j : Int) < (j : Int) := by omega
          go_wp2
          go_ret
          exact ⟨rfl, below_call (below_call HBQ.out HB13.out) HB7.out⟩
end Go.Proofs.YtbnelgniekcjdaaGreatDoor
