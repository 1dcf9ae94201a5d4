/- Package code: the rules of instructions: what each call answers. -/
import Derived.Test.YtefpgjocfgeenaaGreatDoorNum2
import Derived.Test.YtefpgjocfgeenaaGreatDoorGen
import Derived.Test.YtefpgjocfgeenaaGreatDoorFields
namespace Go.Proofs.YtefpgjocfgeenaaGreatDoor
open Go.RowKit Cap
set_option maxRecDepth 100000

/-- The answer: no cells, or these. -/
def CellsR (x : Img) (a m : Int) (w : World) (e : Ending) (w' : World) : Prop := ∃ A n c, e = .returned (.slice A n c) ∧ A.isSome = cellsOk x a m ∧ Sl encI 1 w' (.slice A n c) (cellsOf x a m) ∧ Below w.heap.size w w'

theorem Sl.len {α : Type} {enc : α → List Value} {k : Nat} {w : World} {A : Option Addr} {n c : Nat} {xs : List α} (h : Sl enc k w (.slice A n c) xs) : n = xs.length := by
  obtain ⟨A', c', e, _⟩ := h
  injection e

/-- A cut of a slice of one cell's elements. -/
theorem Sl.cut {α : Type} {enc : α → List Value} {k : Nat} {w : World} {b off n c : Nat} {xs : List α} (h : Sl enc k w (.slice (some ⟨b, off, none⟩) n c) xs) (i m : Nat) (hm : i + m ≤ xs.length) (off' : Nat) (ho : off' = off + i * k) :
    Sl enc k w (.slice (some ⟨b, off', none⟩) m (c - i)) ((xs.drop i).take m) := by
  obtain ⟨A, c', e, h1, h2, h3⟩ := h
  injection e with e1 e2 e3
  subst e1 e2 e3
  have hl : ((xs.drop i).take m).length = m := by rw [List.length_take, List.length_drop]; omega
  subst ho
  refine ⟨_, _, by rw [hl], by rw [hl]; omega, by omega, fun j x hx => ?_⟩
  have hj : j < m := by
    have := (List.getElem?_eq_some_iff.1 hx).1
    omega
  have hx' : xs[i + j]? = some x := by
    rw [List.getElem?_take_of_lt hj, List.getElem?_drop] at hx
    exact hx
  obtain ⟨b', o', e', hlt, hc⟩ := h3 (i + j) x hx'
  injection e' with e'
  injection e' with eb eo
  subst eb eo
  exact ⟨_, _, rfl, hlt, fun q v hv => by
    have := hc q v hv
    rw [show off + i * k + j * k + q = off + (i + j) * k + q from by rw [Nat.add_mul]; omega]
    exact this⟩

set_option maxHeartbeats 1000000 in
theorem cells_c (x : Img) (vx : Value) (a m : Int) (w : World) (hx : ImgV w vx x) (hm : 0 ≤ m) (ha : a < 9223372036854775808) (hm2 : m < 9223372036854775808) :
    Calls Tryz.prog 181 #[vx, .int .i64 a, .int .i64 m] w (CellsR x a m w) := by
  obtain ⟨vt, vf, vi, vo, vc, rfl, h1, h2, h3, h4, h5⟩ := hx
  have H1 := h1
  obtain ⟨A, c, rfl, hlc, hc, hcell⟩ := h1
  clear h2 h3 h4 h5
  have hbig : (x.types.length : Int) ≤ 9223372036854775807 := by omega
  cases ho : cellsOk x a m with
  | false =>
    have hcs : cellsOf x a m = [] := by simp [cellsOf, ho]
    have HCS := Lib.hid hcs
    have HO := Lib.hid ho
    clear hcs hcell H1
    simp only [cellsOk, Bool.and_eq_false_iff, decide_eq_false_iff_not, Int.not_le, Int.not_lt] at ho
    by_cases k1 : a < 0
    · go_enter Tryz.func181, Tryz.ntmps181
      go_wp2
      go_ret
      exact ⟨_, _, _, rfl, HO.out.symm, by rw [HCS.out]; exact Sl.nil _ _ _, by (repeat' (first | (with_reducible exact Below.refl _ _) | (with_reducible refine below_alloc ?_) | (with_reducible refine below_drew ?_) | (with_reducible refine below_drewN ?_) | (with_reducible refine below_set (by simp; omega) ?_) | (with_reducible refine below_call (by with_reducible assumption) ?_)))⟩
    by_cases k2 : (x.types.length : Int) ≤ a
    · go_enter Tryz.func181, Tryz.ntmps181
      go_wp2
      go_ret
      exact ⟨_, _, _, rfl, HO.out.symm, by rw [HCS.out]; exact Sl.nil _ _ _, by (repeat' (first | (with_reducible exact Below.refl _ _) | (with_reducible refine below_alloc ?_) | (with_reducible refine below_drew ?_) | (with_reducible refine below_drewN ?_) | (with_reducible refine below_set (by simp; omega) ?_) | (with_reducible refine below_call (by with_reducible assumption) ?_)))⟩
    have k3 : (x.types.length : Int) - a < m := by omega
    clear ho
    go_enter Tryz.func181, Tryz.ntmps181
    go_wp2
    go_ret
    exact ⟨_, _, _, rfl, HO.out.symm, by rw [HCS.out]; exact Sl.nil _ _ _, by (repeat' (first | (with_reducible exact Below.refl _ _) | (with_reducible refine below_alloc ?_) | (with_reducible refine below_drew ?_) | (with_reducible refine below_drewN ?_) | (with_reducible refine below_set (by simp; omega) ?_) | (with_reducible refine below_call (by with_reducible assumption) ?_)))⟩
  | true =>
    have HO := Lib.hid ho
    have hcs : cellsOf x a m = (x.types.drop a.toNat).take m.toNat := by simp [cellsOf, ho]
    have HCS := Lib.hid hcs
    clear hcs
    simp only [cellsOk, Bool.and_eq_true, decide_eq_true_eq] at ho
    obtain ⟨⟨k1, k2⟩, k3⟩ := ho
    obtain ⟨t, ht⟩ : ∃ t, x.types[0]? = some t := ⟨x.types[0]'(by omega), List.getElem?_eq_getElem (by omega)⟩
    obtain ⟨b, off, rfl, hb, _⟩ := hcell 0 t ht
    have HT := Lib.hid ht
    clear ht hcell
    go_enter Tryz.func181, Tryz.ntmps181
    go_wp2
    go_ret
    refine ⟨_, _, _, rfl, HO.out.symm, ?_, by (repeat' (first | (with_reducible exact Below.refl _ _) | (with_reducible refine below_alloc ?_) | (with_reducible refine below_drew ?_) | (with_reducible refine below_drewN ?_) | (with_reducible refine below_set (by simp; omega) ?_) | (with_reducible refine below_call (by with_reducible assumption) ?_)))⟩
    rw [HCS.out, show (a + m).toNat - a.toNat = m.toNat from by omega]
    exact (H1.cut a.toNat m.toNat (by omega) (off + a.toNat) (by omega)).below (below_alloc (Below.refl _ _))

/-- An instruction's numbers are ints. -/
def InsOk (i : Ins) : Prop := i.a < 9223372036854775808 ∧ i.b < 9223372036854775808

theorem rule1_c (x : Img) (vx : Value) (i : Ins) (w : World) (hx : ImgV w vx x) (hi : InsOk i) :
    Calls Tryz.prog 180 #[vx, insV i] w fun e w' => e = .returned (.bool (cellsOk x i.a 1)) ∧ Below w.heap.size w w' := by
  have hne := fun (W : World) (A : Option Addr) (n c : Nat) => run_neq_slice_nil_any (P := Tryz.prog) W 22 3 A n c 0 0 Tryz.underlying22
  have HX := hx
  obtain ⟨vt, vf, vi, vo, vc, rfl, _⟩ := hx
  obtain ⟨hi1, hi2⟩ := hi
  unfold insV
  go_enter Tryz.func180, Tryz.ntmps180
  go_wp2_with (go_at_call 181; refine (cells_c x _ _ _ _ (ImgV.below HX (by (repeat' (first | (with_reducible exact Below.refl _ _) | (with_reducible refine below_alloc ?_) | (with_reducible refine below_drew ?_) | (with_reducible refine below_drewN ?_) | (with_reducible refine below_set (by simp; omega) ?_) | (with_reducible refine below_call (by with_reducible assumption) ?_))))) (by omega) (by omega) (by omega)).mono ?_; rintro e w1 ⟨A, n, c, rfl, hA, hS, hb⟩)
  go_ret
  refine ⟨ret_b ?_, by (repeat' (first | (with_reducible exact Below.refl _ _) | (with_reducible refine below_alloc ?_) | (with_reducible refine below_drew ?_) | (with_reducible refine below_drewN ?_) | (with_reducible refine below_set (by simp; omega) ?_) | (with_reducible refine below_call (by with_reducible assumption) ?_)))⟩
  rw [← hA]

theorem rule3_c (x : Img) (vx : Value) (i : Ins) (w : World) (hx : ImgV w vx x) :
    Calls Tryz.prog 185 #[vx, insV i] w fun e w' => e = .returned (.bool (mayJump x i)) ∧ Below w.heap.size w w' := by
  obtain ⟨vt, vf, vi, vo, vc, rfl, h1, h2, h3, h4, h5⟩ := hx
  obtain ⟨A, c, rfl, hlc, hc, _⟩ := h5
  clear h1 h2 h3 h4
  unfold insV
  by_cases k : 0 ≤ i.a
  · go_enter Tryz.func185, Tryz.ntmps185
    go_wp2
    go_ret
    exact ⟨ret_b (by simp [mayJump, k]), by (repeat' (first | (with_reducible exact Below.refl _ _) | (with_reducible refine below_alloc ?_) | (with_reducible refine below_drew ?_) | (with_reducible refine below_drewN ?_) | (with_reducible refine below_set (by simp; omega) ?_) | (with_reducible refine below_call (by with_reducible assumption) ?_)))⟩
  · go_enter Tryz.func185, Tryz.ntmps185
    go_wp2
    go_ret
    exact ⟨ret_b (by simp [mayJump]; omega), by (repeat' (first | (with_reducible exact Below.refl _ _) | (with_reducible refine below_alloc ?_) | (with_reducible refine below_drew ?_) | (with_reducible refine below_drewN ?_) | (with_reducible refine below_set (by simp; omega) ?_) | (with_reducible refine below_call (by with_reducible assumption) ?_)))⟩

theorem rule4_c (x : Img) (vx : Value) (i : Ins) (w : World) (hx : ImgV w vx x) :
    Calls Tryz.prog 186 #[vx, insV i] w fun e w' => e = .returned (.bool (fits i.a i.n)) ∧ Below w.heap.size w w' := by
  obtain ⟨vt, vf, vi, vo, vc, rfl, _⟩ := hx
  unfold insV
  go_enter Tryz.func186, Tryz.ntmps186
  go_wp2_with (go_at_call 30; refine (fits_c _ _ _).mono ?_; rintro e w1 ⟨rfl, rfl⟩)
  go_ret
  exact ⟨rfl, by (repeat' (first | (with_reducible exact Below.refl _ _) | (with_reducible refine below_alloc ?_) | (with_reducible refine below_drew ?_) | (with_reducible refine below_drewN ?_) | (with_reducible refine below_set (by simp; omega) ?_) | (with_reducible refine below_call (by with_reducible assumption) ?_)))⟩
theorem rule5_c (x : Img) (vx : Value) (i : Ins) (w : World) (hx : ImgV w vx x) :
    Calls Tryz.prog 187 #[vx, insV i] w fun e w' => e = .returned (.bool ((two i.a i.b 1 1).2 == 0)) ∧ Below w.heap.size w w' := by
  obtain ⟨vt, vf, vi, vo, vc, rfl, _⟩ := hx
  unfold insV
  go_enter Tryz.func187, Tryz.ntmps187
  go_wp2_with (go_at_call 32; refine (two_c _ _ _ _ _).mono ?_; rintro e w1 ⟨rfl, hb⟩; obtain ⟨hc, hf⟩ := bcell hb; have hz := hb.size; (try simp at hz); (try have hz1 := Nat.lt_of_succ_le hz); (try have hz2 := Nat.lt_of_succ_lt hz1); (try have hz3 := Nat.lt_of_succ_lt hz2); (try have hz4 := Nat.lt_of_succ_lt hz3))
  go_ret
  exact ⟨rfl, by (repeat' (first | (with_reducible exact Below.refl _ _) | (with_reducible refine below_alloc ?_) | (with_reducible refine below_drew ?_) | (with_reducible refine below_drewN ?_) | (with_reducible refine below_set (by simp; omega) ?_) | (with_reducible refine below_call (by with_reducible assumption) ?_)))⟩
theorem rule6_c (x : Img) (vx : Value) (i : Ins) (w : World) (hx : ImgV w vx x) :
    Calls Tryz.prog 188 #[vx, insV i] w fun e w' => e = .returned (.bool ((one i.a i.b 1).2 == 0)) ∧ Below w.heap.size w w' := by
  obtain ⟨vt, vf, vi, vo, vc, rfl, _⟩ := hx
  unfold insV
  go_enter Tryz.func188, Tryz.ntmps188
  go_wp2_with (go_at_call 126; refine (one_c _ _ _ _).mono ?_; rintro e w1 ⟨rfl, hb⟩; obtain ⟨hc, hf⟩ := bcell hb; have hz := hb.size; (try simp at hz); (try have hz1 := Nat.lt_of_succ_le hz); (try have hz2 := Nat.lt_of_succ_lt hz1); (try have hz3 := Nat.lt_of_succ_lt hz2); (try have hz4 := Nat.lt_of_succ_lt hz3))
  go_ret
  exact ⟨rfl, by (repeat' (first | (with_reducible exact Below.refl _ _) | (with_reducible refine below_alloc ?_) | (with_reducible refine below_drew ?_) | (with_reducible refine below_drewN ?_) | (with_reducible refine below_set (by simp; omega) ?_) | (with_reducible refine below_call (by with_reducible assumption) ?_)))⟩
theorem rule7_c (x : Img) (vx : Value) (i : Ins) (w : World) (hx : ImgV w vx x) :
    Calls Tryz.prog 189 #[vx, insV i] w fun e w' => e = .returned (.bool ((numConvert i.a i.b 0).2 == 0)) ∧ Below w.heap.size w w' := by
  obtain ⟨vt, vf, vi, vo, vc, rfl, _⟩ := hx
  unfold insV
  go_enter Tryz.func189, Tryz.ntmps189
  go_wp2_with (go_at_call 125; refine (convert_c _ _ _ _).mono ?_; rintro e w1 ⟨rfl, rfl⟩)
  go_ret
  exact ⟨rfl, by (repeat' (first | (with_reducible exact Below.refl _ _) | (with_reducible refine below_alloc ?_) | (with_reducible refine below_drew ?_) | (with_reducible refine below_drewN ?_) | (with_reducible refine below_set (by simp; omega) ?_) | (with_reducible refine below_call (by with_reducible assumption) ?_)))⟩
theorem rule9_c (x : Img) (vx : Value) (i : Ins) (w : World) (hx : ImgV w vx x) :
    Calls Tryz.prog 193 #[vx, insV i] w fun e w' => e = .returned (.bool true) ∧ Below w.heap.size w w' := by
  obtain ⟨vt, vf, vi, vo, vc, rfl, _⟩ := hx
  unfold insV
  go_enter Tryz.func193, Tryz.ntmps193
  go_wp2
  go_ret
  exact ⟨rfl, by (repeat' (first | (with_reducible exact Below.refl _ _) | (with_reducible refine below_alloc ?_) | (with_reducible refine below_drew ?_) | (with_reducible refine below_drewN ?_) | (with_reducible refine below_set (by simp; omega) ?_) | (with_reducible refine below_call (by with_reducible assumption) ?_)))⟩

/-! ### The rule of calls -/
set_option maxHeartbeats 1000000 in
theorem equalFunc_c (p : Int → Fld → Bool) (g : Nat) (lb : Array Value) (eg : ∀ args w, (callFunc g args).run Tryz.prog w = .ok (.enter g args) w) (v v' : Value) (xs : List Int) (ys : List Fld) (w : World)
    (hp : PredC2 Tryz.prog g lb (fun x => .int .i64 x) fldV p w) (hs : Sl encI 1 w v xs) (hs' : Sl encFld 3 w v' ys) :
    Calls Tryz.prog 191 #[v, v', .func (.func g) #[] lb] w fun e w' => e = .returned (.bool (eqP p xs ys)) ∧ Below w.heap.size w w' := by
  obtain ⟨A, c, rfl, hlc, hc, hcell⟩ := hs
  obtain ⟨A', c', rfl, hlc', hc', hcell'⟩ := hs'
  have hbig : xs.length ≤ 9223372036854775807 := Nat.le_trans hlc hc
  have hbig' : ys.length ≤ 9223372036854775807 := Nat.le_trans hlc' hc'
  by_cases hn : xs.length = ys.length
  rotate_left
  · have hn' : (xs.length == ys.length) = false := beq_eq_false_iff_ne.2 hn
    have hF := eqP_len (p := p) xs ys hn
    have HF := Lib.hid hF
    clear hF hn hcell hcell'
    go_enter Tryz.func191, Tryz.ntmps191
    go_wp2
    go_ret
    exact ⟨ret_b HF.out.symm, Below.refl _ _⟩
  have hn' : ((xs.length : Int) != (ys.length : Int)) = false := by rw [bne_eq_false_iff_eq]; omega
  have HN := Lib.hid hn
  clear hn
  go_enter Tryz.func191, Tryz.ntmps191
  go_wp2
  go_loopg [17] xs.length (fun gg s17 wr => ∃ kk : Nat, kk ≤ xs.length ∧ xs.length - kk ≤ gg ∧ s17 = .int .i64 kk ∧ Aside (Below w.heap.size w wr) ∧ Aside (eqP p (xs.drop kk) (ys.drop kk) = eqP p xs ys))
  case atStart => exact ⟨0, Nat.zero_le _, by omega, rfl, Below.refl _ w, rfl⟩
  case round =>
    obtain ⟨kk, hkk, hg, rfl, BW, HF⟩ := hrel
    by_cases hlt : kk < xs.length
    · have hlt' : kk < ys.length := by have := HN.out; omega
      obtain ⟨x, hx⟩ : ∃ x, xs[kk]? = some x := ⟨xs[kk], List.getElem?_eq_getElem hlt⟩
      obtain ⟨y, hy⟩ : ∃ y, ys[kk]? = some y := ⟨ys[kk], List.getElem?_eq_getElem hlt'⟩
      obtain ⟨b, off, rfl, hb, hcx⟩ := hcell kk x hx
      obtain ⟨b', off', rfl, hb', hcy⟩ := hcell' kk y hy
      have hX := Lib.hid hx
      have hY := Lib.hid hy
      clear hcell hcell' hx hy
      have hltz : (kk : Int) < (xs.length : Int) := by omega
      have hltz' : (kk : Int) < (ys.length : Int) := by omega
      have c0 : wr.cell? ⟨b, off + kk, none⟩ = some (.int .i64 x) := by simpa using (BW.out.cell (p := ⟨b, off + kk * 1 + 0, none⟩) hb).trans (hcx 0 _ rfl)
      have d0 : wr.cell? ⟨b', off' + kk * 3, none⟩ = some (.string y.name) := (BW.out.cell (p := ⟨b', off' + kk * 3 + 0, none⟩) hb').trans (hcy 0 _ rfl)
      have d1 : wr.cell? ⟨b', off' + kk * 3 + 1, none⟩ = some (.int .i64 y.ty) := (BW.out.cell (p := ⟨b', off' + kk * 3 + 1, none⟩) hb').trans (hcy 1 _ rfl)
      have d2 : wr.cell? ⟨b', off' + kk * 3 + 2, none⟩ = some (.bool y.set) := (BW.out.cell (p := ⟨b', off' + kk * 3 + 2, none⟩) hb').trans (hcy 2 _ rfl)
      clear hcx hcy
      have hcall := hp (wr.alloc (.cells #[.string y.name, .int .i64 y.ty, .bool y.set] 208)) x y (below_alloc BW.out)
      cases hq : p x y with
      | true =>
        rw [hq] at hcall
        go_wp2_with (refine hcall.mono ?_; rintro e w' ⟨rfl, hb'⟩)
        go_roundg (xs.length - (kk + 1))
        case measure => omega
        case rel =>
          refine ⟨kk + 1, by omega, by omega, by go_num, below_call hb' (below_alloc BW.out), (show Aside _ from ?_)⟩
          have h1 := HF.out
          rw [eqP_drop hX.out hY.out, hq, Bool.true_and] at h1
          exact h1
      | false =>
        rw [hq] at hcall
        go_wp2_with (refine hcall.mono ?_; rintro e w' ⟨rfl, hb'⟩)
        go_ret
        refine ⟨ret_b ?_, below_call hb' (below_alloc BW.out)⟩
        rw [← HF.out, eqP_drop hX.out hY.out, hq, Bool.false_and]
    · have : kk = xs.length := by omega
      have hltz : ¬ (kk : Int) < (xs.length : Int) := by omega
      subst this
      clear hcell hcell'
      go_wp2
      go_ret
      refine ⟨ret_b ?_, BW.out⟩
      rw [← HF.out, List.drop_length, HN.out, List.drop_length]
      rfl

theorem rule81_c (t : Int) (f : Fld) (w : World) :
    Calls Tryz.prog 192 #[.int .i64 t, fldV f] w fun e w' => e = .returned (.bool (t == f.ty)) ∧ Below w.heap.size w w' := by
  unfold fldV
  go_enter Tryz.func192, Tryz.ntmps192
  go_wp2
  go_ret
  exact ⟨rfl, by (repeat' (first | (with_reducible exact Below.refl _ _) | (with_reducible refine below_alloc ?_) | (with_reducible refine below_drew ?_) | (with_reducible refine below_drewN ?_) | (with_reducible refine below_set (by simp; omega) ?_) | (with_reducible refine below_call (by with_reducible assumption) ?_)))⟩

theorem rule81_p (w : World) : PredC2 Tryz.prog 192 #[] (fun x => .int .i64 x) fldV (fun t (f : Fld) => t == f.ty) w := fun W x y _ => rule81_c x y W
theorem fieldsOf_no {k : Int} (h : isBlock k = false) : fieldsOf k = [] := by
  simp only [isBlock, Bool.and_eq_false_iff, decide_eq_false_iff_not, Int.not_le] at h
  have n : ∀ j : Int, 1 ≤ j → j ≤ 10 → k ≠ j := fun j _ _ => by omega
  simp [fieldsOf, n]
theorem fieldsOf_le (k : Int) : (fieldsOf k).length ≤ 6 := by
  unfold fieldsOf
  repeat' split
  all_goals decide

set_option maxHeartbeats 1000000 in
theorem rule8_c (x : Img) (vx : Value) (i : Ins) (w : World) (hx : ImgV w vx x) (hi : InsOk i) :
    Calls Tryz.prog 190 #[vx, insV i] w fun e w' => e = .returned (.bool (mayCall x i)) ∧ Below w.heap.size w w' := by
  have HX := hx
  obtain ⟨vt, vf, vi, vo, vc, rfl, _⟩ := hx
  obtain ⟨hi1, hi2⟩ := hi
  have hl6 := fieldsOf_le i.a
  unfold insV
  cases hB : isBlock i.a with
  | false =>
    have hE : fieldsErr i.a = 92 := by simp [fieldsErr, hB]
    have HB := Lib.hid hB
    clear hB
    go_enter Tryz.func190, Tryz.ntmps190
    go_wp2_with (first | (go_at_call 166; refine (fields_c _ _).mono ?_; rintro e w1 ⟨v, rfl, hS, hb⟩; rw [hE]; obtain ⟨A, c, rfl, _, _, _⟩ := hS; obtain ⟨hc, hf⟩ := bcell hb; have hz := hb.size) | (go_at_call 181; refine (cells_c x _ _ _ _ (ImgV.below HX (by (repeat' (first | (with_reducible exact Below.refl _ _) | (with_reducible refine below_alloc ?_) | (with_reducible refine below_drew ?_) | (with_reducible refine below_drewN ?_) | (with_reducible refine below_set (by simp; omega) ?_) | (with_reducible refine below_call (by with_reducible assumption) ?_))))) (by omega) (by omega) (by omega)).mono ?_; rintro e w1 ⟨A, n, c, rfl, hA, hS, hb⟩; obtain ⟨hc, hf⟩ := bcell hb; have hz := hb.size))
    go_ret
    exact ⟨ret_b (by rw [mayCall, HB.out, Bool.false_and]), by (repeat' (first | (with_reducible exact Below.refl _ _) | (with_reducible refine below_alloc ?_) | (with_reducible refine below_drew ?_) | (with_reducible refine below_drewN ?_) | (with_reducible refine below_set (by simp; omega) ?_) | (with_reducible refine below_call (by with_reducible assumption) ?_)))⟩
  | true =>
    have hE : fieldsErr i.a = 0 := by simp [fieldsErr, hB]
    have HB := Lib.hid hB
    clear hB
    go_enter Tryz.func190, Tryz.ntmps190
    go_wp2_with (first | (go_at_call 166; refine (fields_c _ _).mono ?_; rintro e w1 ⟨v, rfl, hS, hb⟩; rw [hE]; have hS0 := hS; obtain ⟨A, c, rfl, _, _, _⟩ := hS; obtain ⟨hc, hf⟩ := bcell hb; have hz := hb.size) | (go_at_call 181; refine (cells_c x _ _ _ _ (ImgV.below HX (by (repeat' (first | (with_reducible exact Below.refl _ _) | (with_reducible refine below_alloc ?_) | (with_reducible refine below_drew ?_) | (with_reducible refine below_drewN ?_) | (with_reducible refine below_set (by simp; omega) ?_) | (with_reducible refine below_call (by with_reducible assumption) ?_))))) (by omega) (by omega) (by omega)).mono ?_; rintro e w2 ⟨A', n, c', rfl, hA, hS, hb⟩; obtain ⟨hc, hf⟩ := bcell hb; have hz := hb.size))
    refine (equalFunc_c (fun t (f : Fld) => t == f.ty) _ _ (enters_of Tryz.func192 (by kernel_rfl) rfl) _ _ _ _ _ (rule81_p _) hS (hS0.below hb)).mono ?_
    rintro e w3 ⟨rfl, hb3⟩
    have hM : mayCall x i = eqP (fun t (f : Fld) => t == f.ty) (cellsOf x i.b (fieldsOf i.a).length) (fieldsOf i.a) := by simp [mayCall, HB.out]
    have HM := Lib.hid hM
    clear hM hS hS0
    generalize eqP (fun t (f : Fld) => t == f.ty) (cellsOf x i.b (fieldsOf i.a).length) (fieldsOf i.a) = q at *
    go_wp2
    go_ret
    exact ⟨ret_b (by rw [HM.out]), by (repeat' (first | (with_reducible exact Below.refl _ _) | (with_reducible refine below_alloc ?_) | (with_reducible refine below_drew ?_) | (with_reducible refine below_drewN ?_) | (with_reducible refine below_set (by simp; omega) ?_) | (with_reducible refine below_call (by with_reducible assumption) ?_)))⟩

/-! ### The rule of arrays -/
theorem cellsOf_head {x : Img} {a m : Int} (h : cellsOk x a m = true) (hm : 1 ≤ m) : (cellsOf x a m)[0]? = some ((cellsOf x a m).headD 0) := by
  have e : cellsOf x a m = (x.types.drop a.toNat).take m.toNat := by simp [cellsOf, h]
  simp only [cellsOk, Bool.and_eq_true, decide_eq_true_eq] at h
  have hl : 0 < (cellsOf x a m).length := by rw [e, List.length_take, List.length_drop]; omega
  generalize cellsOf x a m = l at *
  cases l with
  | nil => simp at hl
  | cons y r => rfl
theorem rule21_c (l : Value) (t t0 : Int) (b : Nat) (w : World) (h1 : w.cell? ⟨b, 0, none⟩ = some l) (A : Option Addr) (n c : Nat) (hl : l = .slice A n c) (ls : List Int) (hs : Sl encI 1 w l ls) (h0 : ls[0]? = some t0) :
    Calls Tryz.prog 184 #[.int .i64 t, .pointer (some ⟨b, 0, none⟩)] w fun e w' => e = .returned (.bool (t != t0)) ∧ Below w.heap.size w w' := by
  subst hl
  obtain ⟨A', c', e, k1, k2, k3⟩ := hs
  injection e with e1 e2 e3
  subst e1 e2 e3
  obtain ⟨b', off, rfl, hlt, hc⟩ := k3 0 t0 h0
  have c0 : w.cell? ⟨b', off, none⟩ = some (.int .i64 t0) := by simpa using hc 0 _ rfl
  have hp : 0 < ls.length := (List.getElem?_eq_some_iff.1 h0).1
  have hp' : (0 : Int) < (ls.length : Int) := by omega
  clear hc k3 h0
  go_enter Tryz.func184, Tryz.ntmps184
  go_wp2
  go_ret
  exact ⟨rfl, by (repeat' (first | (with_reducible exact Below.refl _ _) | (with_reducible refine below_alloc ?_) | (with_reducible refine below_drew ?_) | (with_reducible refine below_drewN ?_) | (with_reducible refine below_set (by simp; omega) ?_) | (with_reducible refine below_call (by with_reducible assumption) ?_)))⟩

set_option maxHeartbeats 1000000 in
theorem rule2_c (x : Img) (vx : Value) (i : Ins) (w : World) (hx : ImgV w vx x) (hi : InsOk i) :
    Calls Tryz.prog 182 #[vx, insV i] w fun e w' => e = .returned (.bool (mayArr x i)) ∧ Below w.heap.size w w' := by
  have hne := fun (W : World) (A : Option Addr) (n c : Nat) => run_neq_slice_nil_any (P := Tryz.prog) W 22 3 A n c 0 0 Tryz.underlying22
  have HX := hx
  obtain ⟨vt, vf, vi, vo, vc, rfl, _⟩ := hx
  obtain ⟨hi1, hi2⟩ := hi
  unfold insV
  by_cases k1 : i.b < 1
  · go_enter Tryz.func182, Tryz.ntmps182
    go_wp2
    go_ret
    exact ⟨ret_b (by simp [mayArr]; omega), by (repeat' (first | (with_reducible exact Below.refl _ _) | (with_reducible refine below_alloc ?_) | (with_reducible refine below_drew ?_) | (with_reducible refine below_drewN ?_) | (with_reducible refine below_set (by simp; omega) ?_) | (with_reducible refine below_call (by with_reducible assumption) ?_)))⟩
  by_cases k2 : 32 < i.b
  · go_enter Tryz.func182, Tryz.ntmps182
    go_wp2
    go_ret
    exact ⟨ret_b (by simp [mayArr]; omega), by (repeat' (first | (with_reducible exact Below.refl _ _) | (with_reducible refine below_alloc ?_) | (with_reducible refine below_drew ?_) | (with_reducible refine below_drewN ?_) | (with_reducible refine below_set (by simp; omega) ?_) | (with_reducible refine below_call (by with_reducible assumption) ?_)))⟩
  cases ho : cellsOk x i.a i.b with
  | false =>
    go_enter Tryz.func182, Tryz.ntmps182
    go_wp2_with (go_at_call 181; refine (cells_c x _ _ _ _ (ImgV.below HX (by (repeat' (first | (with_reducible exact Below.refl _ _) | (with_reducible refine below_alloc ?_) | (with_reducible refine below_drew ?_) | (with_reducible refine below_drewN ?_) | (with_reducible refine below_set (by simp; omega) ?_) | (with_reducible refine below_call (by with_reducible assumption) ?_))))) (by omega) (by omega) (by omega)).mono ?_; rintro e w1 ⟨A, n, c, rfl, hA, hS, hb⟩; rw [ho] at hA; obtain rfl : A = none := (by cases A; rfl; cases hA))
    go_ret
    exact ⟨ret_b (by simp [mayArr, ho]), by (repeat' (first | (with_reducible exact Below.refl _ _) | (with_reducible refine below_alloc ?_) | (with_reducible refine below_drew ?_) | (with_reducible refine below_drewN ?_) | (with_reducible refine below_set (by simp; omega) ?_) | (with_reducible refine below_call (by with_reducible assumption) ?_)))⟩
  | true =>
    go_enter Tryz.func182, Tryz.ntmps182
    go_wp2_with (go_at_call 181; refine (cells_c x _ _ _ _ (ImgV.below HX (by (repeat' (first | (with_reducible exact Below.refl _ _) | (with_reducible refine below_alloc ?_) | (with_reducible refine below_drew ?_) | (with_reducible refine below_drewN ?_) | (with_reducible refine below_set (by simp; omega) ?_) | (with_reducible refine below_call (by with_reducible assumption) ?_))))) (by omega) (by omega) (by omega)).mono ?_; rintro e w1 ⟨A, n, c, rfl, hA, hS, hb⟩; rw [ho] at hA; obtain ⟨ad, rfl⟩ := Option.isSome_iff_exists.1 hA; clear hA; obtain ⟨hc, hf⟩ := bcell hb; have hz := hb.size)
    have hP : PredC Tryz.prog 184 #[.pointer (some ⟨w1.heap.size, 0, none⟩)] (fun x => .int .i64 x) (fun t => t != (cellsOf x i.a i.b).headD 0) (cellsOf x i.a i.b) (w1.alloc (.cells #[.slice (some ad) n c] 22)) := fun W t _ hb => by
      have hc1 : W.cell? ⟨w1.heap.size, 0, none⟩ = some (.slice (some ad) n c) := (hb.cell (p := ⟨w1.heap.size, 0, none⟩) (by simp)).trans (by simp)
      exact rule21_c _ t _ _ W hc1 _ _ _ rfl _ ((hS.below (below_alloc (Below.refl _ _))).below hb) (cellsOf_head ho (by omega))
    refine (containsFunc_int _ _ _ (enters_of Tryz.func184 (by kernel_rfl) rfl) _ _ _ hP (hS.below (below_alloc (Below.refl _ _)))).mono ?_
    rintro e w2 ⟨rfl, hb2⟩
    have hE : mayArr x i = !((cellsOf x i.a i.b).any fun t => t != (cellsOf x i.a i.b).headD 0) := by
      have k3 : 1 ≤ i.b := by omega
      have k4 : i.b ≤ 32 := by omega
      simp [mayArr, ho, k3, k4]
    have HE := Lib.hid hE
    clear hE hP hS
    generalize ((cellsOf x i.a i.b).any fun t => t != (cellsOf x i.a i.b).headD 0) = q at *
    go_wp2
    go_ret
    exact ⟨ret_b (by rw [HE.out]), by (repeat' (first | (with_reducible exact Below.refl _ _) | (with_reducible refine below_alloc ?_) | (with_reducible refine below_drew ?_) | (with_reducible refine below_drewN ?_) | (with_reducible refine below_set (by simp; omega) ?_) | (with_reducible refine below_call (by with_reducible assumption) ?_)))⟩
end Go.Proofs.YtefpgjocfgeenaaGreatDoor
