/- capstanlaw06.ExprBinds: the walk. -/
import Derived.Test.YtbnelgniekcjdaaGreatDoorCE06D
set_option linter.unusedSimpArgs false
set_option linter.unusedVariables false
namespace Go.Proofs.YtbnelgniekcjdaaGreatDoor
open Go.RowKit Cap
set_option maxRecDepth 1000000
theorem idx15 (a : Int) : ∃ i : Nat, i < 15 ∧ wrap64 ((IntKind.u64.wrap a).tmod 15) = (i : Int) := by
  have h0 : 0 ≤ IntKind.u64.wrap a ∧ IntKind.u64.wrap a < 18446744073709551616 := by
    rw [IntKind.wrap_u64]
    omega
  have h1 : (IntKind.u64.wrap a).tmod 15 = IntKind.u64.wrap a % 15 := Int.tmod_eq_emod_of_nonneg h0.1
  refine ⟨(IntKind.u64.wrap a % 15).toNat, by omega, ?_⟩
  rw [h1]
  unfold wrap64
  omega
theorem cat_run (a b : ByteArray) (h : a.size + b.size ≤ 9223372036854775807) (W : World) : (Op.stringOp .add a b).run Tryz.prog W = .ok (.string (a ++ b)) W := run_string_add_sum W a b h
set_option maxHeartbeats 8000000 in
theorem binds_c (a b : Int) (w : World) (hG : GE w) : Calls Tryz.prog 3 #[.int .i64 a, .int .i64 b] w fun e w' => e = .returned (.bool true) ∧ Below w.heap.size w w' := by
  have HG := Lib.hid hG
  have HW := Lib.hid (works_c w hG)
  clear hG
  go_enter Tryz.func3, Tryz.ntmps3
  go_upto_region 6 with (go_at_call 7; refine HW.out.mono ?_; rintro e w1 ⟨rfl, hb1⟩)
  obtain ⟨i, hi, hei⟩ := idx15 a
  obtain ⟨k, hk, hek⟩ := idx15 b
  simp only [hei, hek]
  obtain ⟨⟨u, m⟩, hu⟩ : ∃ x, opsP[i]? = some x := ⟨opsP[i]'hi, List.getElem?_eq_getElem _⟩
  obtain ⟨⟨v, n⟩, hv⟩ : ∃ x, opsP[k]? = some x := ⟨opsP[k]'hk, List.getElem?_eq_getElem _⟩
  have hus := opsP_size _ (List.mem_of_getElem? hu)
  have hvs := opsP_size _ (List.mem_of_getElem? hv)
  simp only at hus hvs
  obtain ⟨x, l, r, rx, rl, rr, hsl, hsm⟩ := bind_at hu hv
  have r1 : ((w1.alloc (.cells (opsP.map fun a => Value.string a.1).toArray 9)).alloc (.cells (opsP.map fun a => Value.int .i64 a.2).toArray 3)).heap[w1.heap.size]? = some (.cells (opsP.map fun a => Value.string a.1).toArray 9 (0, 0)) := hpA (heap_alloc_new _ _)
  have r2 : ((w1.alloc (.cells (opsP.map fun a => Value.string a.1).toArray 9)).alloc (.cells (opsP.map fun a => Value.int .i64 a.2).toArray 3)).heap[w1.heap.size + 1]? = some (.cells (opsP.map fun a => Value.int .i64 a.2).toArray 3 (0, 0)) := by
    have h := heap_alloc_new (w1.alloc (.cells (opsP.map fun a => Value.string a.1).toArray 9)) (.cells (opsP.map fun a => Value.int .i64 a.2).toArray 3)
    rwa [World.size_alloc] at h
  have c1 := cell_of_row _ _ i _ _ _ r1
  have c2 := cell_of_row _ _ k _ _ _ r1
  have c3 := cell_of_row _ _ i _ _ _ r2
  have c4 := cell_of_row _ _ k _ _ _ r2
  rw [List.getElem?_toArray, List.getElem?_map, hu] at c1 c3
  rw [List.getElem?_toArray, List.getElem?_map, hv] at c2 c4
  change Code.wp _ _ _ _ ((w1.alloc (.cells (opsP.map fun a => Value.string a.1).toArray 9)).alloc (.cells (opsP.map fun a => Value.int .i64 a.2).toArray 3))
  generalize hW : (w1.alloc (.cells (opsP.map fun a => Value.string a.1).toArray 9)).alloc (.cells (opsP.map fun a => Value.int .i64 a.2).toArray 3) = W at c1 c2 c3 c4 r1 r2 ⊢
  have hbW : Below w.heap.size w W := by rw [← hW]; (repeat' (first | (with_reducible exact Below.refl _ _) | (with_reducible refine below_alloc ?_) | (with_reducible refine below_drew ?_) | (with_reducible refine below_drewN ?_) | (with_reducible refine below_set (by first | (simp; done) | (simp; omega)) ?_) | (with_reducible refine below_call (by with_reducible assumption) ?_)))
  have hz1 : w1.heap.size < W.heap.size := (Array.getElem?_eq_some_iff.1 r1).1
  have hz2 : w1.heap.size + 1 < W.heap.size := (Array.getElem?_eq_some_iff.1 r2).1
  have HK := Lib.hid (show ∀ W', Below W.heap.size W W' → (W'.cell? ⟨w1.heap.size, i, none⟩ = some (.string u) ∧ W'.cell? ⟨w1.heap.size, k, none⟩ = some (.string v)) ∧ W'.cell? ⟨w1.heap.size + 1, i, none⟩ = some (.int .i64 m) ∧ W'.cell? ⟨w1.heap.size + 1, k, none⟩ = some (.int .i64 n) from fun W' hW' =>
    ⟨⟨(hW'.cell (p := ⟨w1.heap.size, i, none⟩) hz1).trans c1, (hW'.cell (p := ⟨w1.heap.size, k, none⟩) hz1).trans c2⟩, (hW'.cell (p := ⟨w1.heap.size + 1, i, none⟩) hz2).trans c3, (hW'.cell (p := ⟨w1.heap.size + 1, k, none⟩) hz2).trans c4⟩)
  have H1 := Lib.hid (fun (W' : World) (h : Below W.heap.size W W') => show Calls Tryz.prog 8 #[.string (txtX u v)] W' _ from read_c (txtX u v) x W' ((HG.out.below hbW).below h) rx)
  have H2 := Lib.hid (fun (W' : World) (h : Below W.heap.size W W') => show Calls Tryz.prog 8 #[.string (txtL u v)] W' _ from read_c (txtL u v) l W' ((HG.out.below hbW).below h) rl)
  have H3 := Lib.hid (fun (W' : World) (h : Below W.heap.size W W') => show Calls Tryz.prog 8 #[.string (txtR u v)] W' _ from read_c (txtR u v) r W' ((HG.out.below hbW).below h) rr)
  unfold txtX at H1
  unfold txtL at H2
  unfold txtR at H3
  have huz : (u.size : Int) ≤ 3 := by omega
  have hvz : (v.size : Int) ≤ 3 := by omega
  have hiz : (i : Int) < 15 := by omega
  have hkz : (k : Int) < 15 := by omega
  have hi0 : (0 : Int) ≤ (i : Int) := Int.natCast_nonneg _
  have hk0 : (0 : Int) ≤ (k : Int) := Int.natCast_nonneg _
  have HSL := Lib.hid hsl
  have HSM := Lib.hid hsm
  have HBW := Lib.hid hbW
  clear hu hv rx rl rr hsl hsm r1 r2 hei hek c1 c2 c3 c4 hW hb1 hbW
  have ka1 := cat_run ((⟨#[112, 32]⟩ : ByteArray)) u (by rw [show (⟨#[112, 32]⟩ : ByteArray).size = 2 from rfl]; omega)
  have ka2 := cat_run ((⟨#[112, 32]⟩ : ByteArray) ++ u) ((⟨#[32, 113, 32]⟩ : ByteArray)) (by rw [ByteArray.size_append, show (⟨#[112, 32]⟩ : ByteArray).size = 2 from rfl, show (⟨#[32, 113, 32]⟩ : ByteArray).size = 3 from rfl]; omega)
  have ka3 := cat_run ((⟨#[112, 32]⟩ : ByteArray) ++ u ++ (⟨#[32, 113, 32]⟩ : ByteArray)) v (by rw [ByteArray.size_append, ByteArray.size_append, show (⟨#[112, 32]⟩ : ByteArray).size = 2 from rfl, show (⟨#[32, 113, 32]⟩ : ByteArray).size = 3 from rfl]; omega)
  have ka4 := cat_run ((⟨#[112, 32]⟩ : ByteArray) ++ u ++ (⟨#[32, 113, 32]⟩ : ByteArray) ++ v) ((⟨#[32, 114]⟩ : ByteArray)) (by rw [ByteArray.size_append, ByteArray.size_append, ByteArray.size_append, show (⟨#[112, 32]⟩ : ByteArray).size = 2 from rfl, show (⟨#[32, 113, 32]⟩ : ByteArray).size = 3 from rfl, show (⟨#[32, 114]⟩ : ByteArray).size = 2 from rfl]; omega)
  go_region_held3 (fun W' => W'.cell? ⟨w1.heap.size, i, none⟩ = some (.string u) ∧ W'.cell? ⟨w1.heap.size, k, none⟩ = some (.string v)) (first | exact (HK.out _ (by (repeat' (first | (with_reducible exact Below.refl _ _) | (with_reducible refine below_alloc ?_) | (with_reducible refine below_drew ?_) | (with_reducible refine below_drewN ?_) | (with_reducible refine below_set (by first | (simp; done) | (simp; omega)) ?_) | (with_reducible refine below_call (by with_reducible assumption) ?_))))).1) (first | (go_at_call 8; refine (H1.out _ (by (repeat' (first | (with_reducible exact Below.refl _ _) | (with_reducible refine below_alloc ?_) | (with_reducible refine below_drew ?_) | (with_reducible refine below_drewN ?_) | (with_reducible refine below_set (by first | (simp; done) | (simp; omega)) ?_) | (with_reducible refine below_call (by with_reducible assumption) ?_))))).mono ?_; rintro e w2 ⟨v2, rfl, hv2, hb2⟩))
  have hW2 : Below W.heap.size W w2 := by (repeat' (first | (with_reducible exact Below.refl _ _) | (with_reducible refine below_alloc ?_) | (with_reducible refine below_drew ?_) | (with_reducible refine below_drewN ?_) | (with_reducible refine below_set (by first | (simp; done) | (simp; omega)) ?_) | (with_reducible refine below_call (by with_reducible assumption) ?_)))
  have HV2 := Lib.hid hv2
  have HK2 := Lib.hid (show ∀ W', Below w2.heap.size w2 W' → _ from fun W' h => HK.out W' (below_call h hW2))
  have HB2 := Lib.hid hW2
  clear hv2 hb2 hW2
  go_upto_region 7 with fail
  clear ka1 ka2 ka3 ka4
  have kb1 := cat_run ((⟨#[40, 112, 32]⟩ : ByteArray)) u (by rw [show (⟨#[40, 112, 32]⟩ : ByteArray).size = 3 from rfl]; omega)
  have kb2 := cat_run ((⟨#[40, 112, 32]⟩ : ByteArray) ++ u) ((⟨#[32, 113, 41, 32]⟩ : ByteArray)) (by rw [ByteArray.size_append, show (⟨#[40, 112, 32]⟩ : ByteArray).size = 3 from rfl, show (⟨#[32, 113, 41, 32]⟩ : ByteArray).size = 4 from rfl]; omega)
  have kb3 := cat_run ((⟨#[40, 112, 32]⟩ : ByteArray) ++ u ++ (⟨#[32, 113, 41, 32]⟩ : ByteArray)) v (by rw [ByteArray.size_append, ByteArray.size_append, show (⟨#[40, 112, 32]⟩ : ByteArray).size = 3 from rfl, show (⟨#[32, 113, 41, 32]⟩ : ByteArray).size = 4 from rfl]; omega)
  have kb4 := cat_run ((⟨#[40, 112, 32]⟩ : ByteArray) ++ u ++ (⟨#[32, 113, 41, 32]⟩ : ByteArray) ++ v) ((⟨#[32, 114]⟩ : ByteArray)) (by rw [ByteArray.size_append, ByteArray.size_append, ByteArray.size_append, show (⟨#[40, 112, 32]⟩ : ByteArray).size = 3 from rfl, show (⟨#[32, 113, 41, 32]⟩ : ByteArray).size = 4 from rfl, show (⟨#[32, 114]⟩ : ByteArray).size = 2 from rfl]; omega)
  go_region_held3 (fun W' => W'.cell? ⟨w1.heap.size, i, none⟩ = some (.string u) ∧ W'.cell? ⟨w1.heap.size, k, none⟩ = some (.string v)) (first | exact (HK2.out _ (by (repeat' (first | (with_reducible exact Below.refl _ _) | (with_reducible refine below_alloc ?_) | (with_reducible refine below_drew ?_) | (with_reducible refine below_drewN ?_) | (with_reducible refine below_set (by first | (simp; done) | (simp; omega)) ?_) | (with_reducible refine below_call (by with_reducible assumption) ?_))))).1) (first | (go_at_call 8; refine (H2.out _ (below_call (show Below w2.heap.size w2 _ by (repeat' (first | (with_reducible exact Below.refl _ _) | (with_reducible refine below_alloc ?_) | (with_reducible refine below_drew ?_) | (with_reducible refine below_drewN ?_) | (with_reducible refine below_set (by first | (simp; done) | (simp; omega)) ?_) | (with_reducible refine below_call (by with_reducible assumption) ?_)))) HB2.out)).mono ?_; rintro e w3 ⟨v3, rfl, hv3, hb3⟩))
  have hW3 : Below w2.heap.size w2 w3 := by (repeat' (first | (with_reducible exact Below.refl _ _) | (with_reducible refine below_alloc ?_) | (with_reducible refine below_drew ?_) | (with_reducible refine below_drewN ?_) | (with_reducible refine below_set (by first | (simp; done) | (simp; omega)) ?_) | (with_reducible refine below_call (by with_reducible assumption) ?_)))
  have HV3 := Lib.hid hv3
  have HK3 := Lib.hid (show ∀ W', Below w3.heap.size w3 W' → _ from fun W' h => HK2.out W' (below_call h hW3))
  have HB3 := Lib.hid hW3
  clear hv3 hb3 hW3
  go_upto_region 8 with fail
  clear kb1 kb2 kb3 kb4
  have kc1 := cat_run ((⟨#[112, 32]⟩ : ByteArray)) u (by rw [show (⟨#[112, 32]⟩ : ByteArray).size = 2 from rfl]; omega)
  have kc2 := cat_run ((⟨#[112, 32]⟩ : ByteArray) ++ u) ((⟨#[32, 40, 113, 32]⟩ : ByteArray)) (by rw [ByteArray.size_append, show (⟨#[112, 32]⟩ : ByteArray).size = 2 from rfl, show (⟨#[32, 40, 113, 32]⟩ : ByteArray).size = 4 from rfl]; omega)
  have kc3 := cat_run ((⟨#[112, 32]⟩ : ByteArray) ++ u ++ (⟨#[32, 40, 113, 32]⟩ : ByteArray)) v (by rw [ByteArray.size_append, ByteArray.size_append, show (⟨#[112, 32]⟩ : ByteArray).size = 2 from rfl, show (⟨#[32, 40, 113, 32]⟩ : ByteArray).size = 4 from rfl]; omega)
  have kc4 := cat_run ((⟨#[112, 32]⟩ : ByteArray) ++ u ++ (⟨#[32, 40, 113, 32]⟩ : ByteArray) ++ v) ((⟨#[32, 114, 41]⟩ : ByteArray)) (by rw [ByteArray.size_append, ByteArray.size_append, ByteArray.size_append, show (⟨#[112, 32]⟩ : ByteArray).size = 2 from rfl, show (⟨#[32, 40, 113, 32]⟩ : ByteArray).size = 4 from rfl, show (⟨#[32, 114, 41]⟩ : ByteArray).size = 3 from rfl]; omega)
  go_region_held3 (fun W' => W'.cell? ⟨w1.heap.size, i, none⟩ = some (.string u) ∧ W'.cell? ⟨w1.heap.size, k, none⟩ = some (.string v)) (first | exact (HK3.out _ (by (repeat' (first | (with_reducible exact Below.refl _ _) | (with_reducible refine below_alloc ?_) | (with_reducible refine below_drew ?_) | (with_reducible refine below_drewN ?_) | (with_reducible refine below_set (by first | (simp; done) | (simp; omega)) ?_) | (with_reducible refine below_call (by with_reducible assumption) ?_))))).1) (first | (go_at_call 8; refine (H3.out _ (below_call (show Below w3.heap.size w3 _ by (repeat' (first | (with_reducible exact Below.refl _ _) | (with_reducible refine below_alloc ?_) | (with_reducible refine below_drew ?_) | (with_reducible refine below_drewN ?_) | (with_reducible refine below_set (by first | (simp; done) | (simp; omega)) ?_) | (with_reducible refine below_call (by with_reducible assumption) ?_)))) (below_call HB3.out HB2.out))).mono ?_; rintro e w4 ⟨v4, rfl, hv4, hb4⟩))
  have hW4 : Below w3.heap.size w3 w4 := by (repeat' (first | (with_reducible exact Below.refl _ _) | (with_reducible refine below_alloc ?_) | (with_reducible refine below_drew ?_) | (with_reducible refine below_drewN ?_) | (with_reducible refine below_set (by first | (simp; done) | (simp; omega)) ?_) | (with_reducible refine below_call (by with_reducible assumption) ?_)))
  have HV4 := Lib.hid hv4
  have HB4 := Lib.hid (below_call hW4 (below_call HB3.out HB2.out))
  obtain ⟨_, e0, e1⟩ := HK3.out w4 hW4
  have hl4 := HV3.out.below hW4
  have hx4 := (HV2.out.below HB3.out).below hW4
  have HS1 := Lib.hid (HSL.out ▸ samep_c l r v3 v4 w4 hl4 hv4)
  have HX4 := Lib.hid hx4
  have HL4 := Lib.hid hl4
  clear hv4 hb4 hW4 hl4 hx4
  by_cases hmn : m < n
  · have hsm := HSM.out
    rw [if_pos hmn] at hsm
    have HS2 := Lib.hid (fun (W' : World) (h : Below w4.heap.size w4 W') => hsm ▸ samep_c x r v2 v4 W' (HX4.out.below h) (HV4.out.below h))
    clear hsm
    go_upto_region 11 with (go_at_call 9; refine HS1.out.mono ?_; rintro e w5 ⟨rfl, hb5⟩)
    have g0 := (hb5.cell (p := ⟨w1.heap.size + 1, i, none⟩) (World.block_lt_of_cell? _ _ e0)).trans e0
    have g1 := (hb5.cell (p := ⟨w1.heap.size + 1, k, none⟩) (World.block_lt_of_cell? _ _ e1)).trans e1
    clear e0 e1
    go_quiet (fail)
    go_wp2_with (go_at_call 9; refine (HS2.out _ (by (repeat' (first | (with_reducible exact Below.refl _ _) | (with_reducible refine below_alloc ?_) | (with_reducible refine below_drew ?_) | (with_reducible refine below_drewN ?_) | (with_reducible refine below_set (by first | (simp; done) | (simp; omega)) ?_) | (with_reducible refine below_call (by with_reducible assumption) ?_))))).mono ?_; rintro e w6 ⟨rfl, hb6⟩)
    go_ret
    exact ⟨rfl, HBW.out.trans (below_weak (show Below W.heap.size W w6 from below_call (show Below w4.heap.size w4 w6 by (repeat' (first | (with_reducible exact Below.refl _ _) | (with_reducible refine below_alloc ?_) | (with_reducible refine below_drew ?_) | (with_reducible refine below_drewN ?_) | (with_reducible refine below_set (by first | (simp; done) | (simp; omega)) ?_) | (with_reducible refine below_call (by with_reducible assumption) ?_)))) HB4.out) (by have := HBW.out.size; omega))⟩
  · have hsm := HSM.out
    rw [if_neg hmn] at hsm
    have HS2 := Lib.hid (fun (W' : World) (h : Below w4.heap.size w4 W') => hsm ▸ samep_c x l v2 v3 W' (HX4.out.below h) (HL4.out.below h))
    clear hsm
    go_upto_region 11 with (go_at_call 9; refine HS1.out.mono ?_; rintro e w5 ⟨rfl, hb5⟩)
    have g0 := (hb5.cell (p := ⟨w1.heap.size + 1, i, none⟩) (World.block_lt_of_cell? _ _ e0)).trans e0
    have g1 := (hb5.cell (p := ⟨w1.heap.size + 1, k, none⟩) (World.block_lt_of_cell? _ _ e1)).trans e1
    clear e0 e1
    go_quiet (fail)
    go_wp2_with (go_at_call 9; refine (HS2.out _ (by (repeat' (first | (with_reducible exact Below.refl _ _) | (with_reducible refine below_alloc ?_) | (with_reducible refine below_drew ?_) | (with_reducible refine below_drewN ?_) | (with_reducible refine below_set (by first | (simp; done) | (simp; omega)) ?_) | (with_reducible refine below_call (by with_reducible assumption) ?_))))).mono ?_; rintro e w6 ⟨rfl, hb6⟩)
    go_ret
    exact ⟨rfl, HBW.out.trans (below_weak (show Below W.heap.size W w6 from below_call (show Below w4.heap.size w4 w6 by (repeat' (first | (with_reducible exact Below.refl _ _) | (with_reducible refine below_alloc ?_) | (with_reducible refine below_drew ?_) | (with_reducible refine below_drewN ?_) | (with_reducible refine below_set (by first | (simp; done) | (simp; omega)) ?_) | (with_reducible refine below_call (by with_reducible assumption) ?_)))) HB4.out) (by have := HBW.out.size; omega))⟩
end Go.Proofs.YtbnelgniekcjdaaGreatDoor
