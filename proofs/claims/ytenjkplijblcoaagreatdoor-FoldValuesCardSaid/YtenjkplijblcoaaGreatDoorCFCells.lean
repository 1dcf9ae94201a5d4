/- slices.Repeat at whole numbers; typed.cells. -/
import Derived.Test.YtenjkplijblcoaaGreatDoorCFTyped
import Derived.Test.YtenjkplijblcoaaGreatDoorCFBase
import Derived.Test.YtenjkplijblcoaaGreatDoorCFields
import Derived.Test.YtenjkplijblcoaaGreatDoorShelfB
import Derived.Shelf.Bits.Mul64
import Derived.Laws.CopyOwn
import Derived.Deep.AppendLies
set_option linter.unusedSimpArgs false
set_option linter.unusedVariables false
namespace Cap
open Go Go.RowKit
/-- A variable's cells: of each its type. -/
def cellsV (v : Vr) : List Int := if 100 < v.ty then (fieldsOf (v.ty - 100)).map (·.ty) else List.replicate (max 1 v.len).toNat v.ty
/-- Where a variable's cells begin. -/
def atV : List Vr → ByteArray → Nat
  | [], _ => 0
  | v :: r, s => if (v.name.toList == s.toList) = true then 0 else (cellsV v).length + atV r s
end Cap
namespace Go.Proofs.YtenjkplijblcoaaGreatDoor
open Go.RowKit Cap
set_option maxRecDepth 100000

theorem flatMap_rep (n : Nat) (t : Int) : (List.replicate n t).flatMap encI = List.replicate n (Value.int .i64 t) := by
  induction n with
  | zero => rfl
  | succ n ih => rw [List.replicate_succ, List.replicate_succ, List.flatMap_cons, ih]; rfl
theorem mulm_c (m : Nat) (hm : m ≤ 1000) (w : World) : Calls Tryz.prog 196 #[.int .u64 1, .int .u64 (m : Int)] w fun e w' => e = .returned (.tuple #[.int .u64 0, .int .u64 (m : Int)]) ∧ w = w' := by
  have h := Go.Proofs.Any.bits_Mul Tryz.bitsmul 1 m (by decide) (by omega) w
  change Calls Tryz.prog 196 _ _ _ at h
  refine h.mono ?_
  rintro e w' ⟨rfl, rfl⟩
  rw [Nat.one_mul, Nat.div_eq_of_lt (by omega), Nat.mod_eq_of_lt (by omega)]
  exact ⟨rfl, rfl⟩
theorem make_m (m : Nat) (hm : m ≤ 1000) (W : World) : (Instr.makeSlice 55 (.int .i64 (m : Int)) (.int .i64 (m : Int))).run Tryz.prog W = .ok (.slice (some ⟨W.heap.size, 0, none⟩) m m) (W.alloc (.cells (Array.replicate m (Value.int .i64 0)) 3)) := by
  obtain ⟨i, h1, h2, h3, h4⟩ := info_int.parts
  have h := run_make (P := Tryz.prog) W 55 3 i (.int .i64 0) Tryz.underlying55 h1 h2 .i64 .i64 m m (by omega) (Int.le_refl _) (by rw [h4]; omega) (by omega)
  have e : madeCells (Value.int .i64 0).cells (m * 1) = (Array.replicate m (Value.int .i64 0)) := by
    apply Array.toList_inj.1
    rw [madeCells_rows _ 1 m rfl (by decide)]
    show (List.replicate m ()).flatMap (fun _ => [Value.int .i64 0]) = _
    rw [List.flatMap_replicate]
    simp
  rw [h, h3, Int.toNat_natCast, e]
theorem size_int : (Tryz.prog.info? 3).map (·.size) = some 1 := by
  obtain ⟨i, h1, h2, h3, h4⟩ := info_int.parts
  rw [h1, Option.map_some, h3]
set_option maxHeartbeats 4000000 in
theorem repeat_c (t : Int) (m : Nat) (hm : 1 ≤ m) (hm32 : m ≤ 1000) (v : Value) (w : World) (hs : Sl encI 1 w v [t]) :
    Calls Tryz.prog 180 #[v, .int .i64 (m : Int)] w fun e w' => ∃ u, e = .returned u ∧ w'.ownsRow w.heap.size 3 1 u m ((List.replicate m t).flatMap encI) ∧ Below w.heap.size w w' := by
  obtain ⟨A, c, rfl, hl, hmm, hc⟩ := hs
  obtain ⟨b, off, rfl, hb, hcx⟩ := hc 0 t rfl
  have c0 : w.cell? ⟨b, off, none⟩ = some (.int .i64 t) := by simpa using hcx 0 _ rfl
  clear hc hcx
  have hmk := make_m m hm32
  have hmz : ¬ (m : Int) < 0 := by omega
  have hm0 : (0 : Int) ≤ (m : Int) := Int.natCast_nonneg _
  have hm1 : (m : Int) ≤ 1000 := by omega
  have hmw : IntKind.u64.wrap (m : Int) = (m : Int) := by rw [IntKind.wrap_u64]; omega
  go_enter Tryz.func180, Tryz.ntmps180
  have hsrc : ∀ j v, [Value.int .i64 t][j]? = some v → (w.alloc (.cells (Array.replicate m (Value.int .i64 0)) 3)).cell? ((⟨b, off, none⟩ : Addr).add j) = some v := by
    intro j v hv
    cases j with
    | zero =>
      simp at hv
      subst hv
      rw [Addr.add_lit]
      exact ((below_alloc (Below.refl _ w)).cell (p := ⟨b, off + 0, none⟩) hb).trans c0
    | succ j => simp at hv
  have hcp := run_copy_row (P := Tryz.prog) (w.alloc (.cells (Array.replicate m (Value.int .i64 0)) 3)) 55 55 3 3 w.heap.size 0 m m ⟨b, off, none⟩ 1 c (Array.replicate m (Value.int .i64 0)) 3 [.int .i64 t] Tryz.underlying55 size_int (heap_alloc_new _ _) (by show 1 = min 1 m; omega) hsrc (by simp; omega) (by simp [Value.oneCell'])
  rw [show goInt [Value.int .i64 t].length = .int .i64 1 from rfl] at hcp
  obtain ⟨W2, hW2⟩ : ∃ W2, (w.alloc (.cells (Array.replicate m (Value.int .i64 0)) 3)).setRow w.heap.size (((Array.replicate m (Value.int .i64 0)).toList.take 0 ++ [Value.int .i64 t] ++ (Array.replicate m (Value.int .i64 0)).toList.drop (0 + [Value.int .i64 t].length)).toArray) = W2 := ⟨_, rfl⟩
  rw [hW2] at hcp
  have HB2 := Lib.hid (show Below w.heap.size w W2 by rw [← hW2]; exact below_setRow (below_alloc (Below.refl _ _)) (Nat.le_refl _) _)
  have HG2 := Lib.hid (show ∃ rest : List Value, rest.length = m - 1 ∧ W2.heap[w.heap.size]? = some (.cells (List.replicate 1 (Value.int .i64 t) ++ rest).toArray 3 (0, 0)) from ⟨(Array.replicate m (Value.int .i64 0)).toList.drop (0 + [Value.int .i64 t].length), by simp, by rw [← hW2]; exact setRow_heap _ _ _ _ _ _ (heap_alloc_new _ _)⟩)
  clear hsrc hW2
  go_wp2_with (go_at_call 196; refine (mulm_c m hm32 _).mono ?_; rintro e w1 ⟨rfl, rfl⟩)
  go_loopg [8] m (fun gg s8 wr => ∃ (n : Nat) (rest : List Value), s8 = .int .i64 n ∧ 1 ≤ n ∧ n ≤ m ∧ m - n ≤ gg ∧ Aside (rest.length = m - n) ∧ Aside (Below w.heap.size w wr) ∧ Aside (wr.heap[w.heap.size]? = some (.cells (List.replicate n (Value.int .i64 t) ++ rest).toArray 3 (0, 0))))
  case atStart =>
    obtain ⟨rest, h1, h2⟩ := HG2.out
    exact ⟨1, rest, rfl, Nat.le_refl _, hm, by omega, h1, HB2.out, h2⟩
  case round =>
    obtain ⟨n, rest, rfl, hn1, hnm, hg, HR, HB, HX⟩ := hrel
    have hn0 : (0 : Int) ≤ (n : Int) := Int.natCast_nonneg _
    have hnz : (n : Int) ≤ (m : Int) := by omega
    by_cases hlt : n < m
    · have hltz : (n : Int) < (m : Int) := by omega
      have hmn : ¬ m = n := by omega
      obtain ⟨q, hq⟩ : ∃ q, Nat.min n (m - n) = q := ⟨_, rfl⟩
      have hq1 : 1 ≤ q := by rw [← hq]; show 1 ≤ min n (m - n); omega
      have hq2 : q ≤ m - n := by rw [← hq]; show min n (m - n) ≤ m - n; omega
      have hq3 : q ≤ n := by rw [← hq]; show min n (m - n) ≤ n; omega
      have hsrc : ∀ j v, (List.replicate q (Value.int .i64 t))[j]? = some v → wr.drew.cell? ((⟨w.heap.size, 0, none⟩ : Addr).add j) = some v := by
        intro j v hv
        rw [Addr.add_lit]
        have hj := (List.getElem?_eq_some_iff.1 hv).1
        rw [List.length_replicate] at hj
        rw [List.getElem?_replicate, if_pos hj] at hv
        injection hv with hv
        subst hv
        rw [Nat.zero_add]
        show wr.cell? _ = _
        rw [cell_of_row _ _ j _ _ _ HX.out]
        simp [List.getElem?_append, show j < n by omega]
      have hcp := run_copy_row (P := Tryz.prog) wr.drew 55 55 3 3 w.heap.size n (m - n) (m - n) ⟨w.heap.size, 0, none⟩ n m (List.replicate n (Value.int .i64 t) ++ rest).toArray 3 (List.replicate q (Value.int .i64 t)) Tryz.underlying55 size_int HX.out (by rw [List.length_replicate, hq]) hsrc (by have := HR.out; simp; omega) (by simp [Value.oneCell'])
      rw [List.length_replicate, show goInt q = .int .i64 q from rfl] at hcp
      have hrow : ((List.replicate n (Value.int .i64 t) ++ rest).toArray.toList.take n ++ List.replicate q (Value.int .i64 t) ++ (List.replicate n (Value.int .i64 t) ++ rest).toArray.toList.drop (n + q)).toArray = (List.replicate (n + q) (Value.int .i64 t) ++ rest.drop q).toArray := by
        congr 1
        show (List.replicate n (Value.int .i64 t) ++ rest).take n ++ List.replicate q (Value.int .i64 t) ++ (List.replicate n (Value.int .i64 t) ++ rest).drop (n + q) = _
        rw [List.take_append_of_le_length (by simp), List.take_of_length_le (by simp), List.drop_append, List.drop_of_length_le (by simp), List.length_replicate, List.nil_append, List.replicate_append_replicate, show n + q - n = q by omega]
      rw [hrow] at hcp
      obtain ⟨W3, hW3⟩ : ∃ W3, wr.drew.setRow w.heap.size (List.replicate (n + q) (Value.int .i64 t) ++ rest.drop q).toArray = W3 := ⟨_, rfl⟩
      rw [hW3] at hcp
      have HB3 := Lib.hid (show Below w.heap.size w W3 by rw [← hW3]; exact below_setRow (below_drew HB.out) (Nat.le_refl _) _)
      have HX3 := Lib.hid (show W3.heap[w.heap.size]? = some (.cells (List.replicate (n + q) (Value.int .i64 t) ++ rest.drop q).toArray 3 (0, 0)) by rw [← hW3]; exact setRow_heap _ _ _ _ _ _ HX.out)
      have HRL := Lib.hid (show (rest.drop q).length = m - (n + q) by have := HR.out; rw [List.length_drop]; omega)
      clear hsrc hrow hW3 hq
      have hnq : (0 : Int) ≤ (q : Int) := Int.natCast_nonneg _
      have hnqm : (n : Int) + (q : Int) ≤ (m : Int) := by omega
      go_wp2
      go_region
      all_goals go_wp2
      all_goals go_roundg (m - (n + q))
      all_goals first
        | omega
        | exact ⟨n + q, rest.drop q, by go_num, by omega, by omega, by omega, HRL.out, HB3.out, HX3.out⟩
    · obtain rfl : n = m := by omega
      have hltz : ¬ (n : Int) < (n : Int) := by omega
      go_wp2
      go_ret
      refine ⟨_, rfl, ?_, HB.out⟩
      obtain rfl : rest = [] := List.eq_nil_of_length_eq_zero (by have := HR.out; omega)
      refine ⟨by rw [flatMap_rep]; simp, .inr ⟨w.heap.size, n, _, rfl, Nat.le_refl _, HX.out, Nat.le_refl _, by unfold maxLen; omega, by simp, ?_⟩⟩
      rw [flatMap_rep]
      simp
/-- A variable's length is one that may be, unless it is a block. -/
def LenOk (v : Vr) : Prop := (v.ty ≤ 100 → v.len ≤ 1000) ∧ v.ty ≤ 110
theorem new_cells (w : World) (cs : List Value) (t : TypeId) (j : Nat) : (w.alloc (.cells cs.toArray t)).cell? ((⟨w.heap.size, 0, none⟩ : Addr).add j) = cs[j]? := by
  have hadd : (⟨w.heap.size, 0, none⟩ : Addr).add j = ⟨w.heap.size, j, none⟩ := by unfold Addr.add; split <;> simp_all
  rw [hadd, World.cell?_alloc_at _ _ _ _ rfl]
  simp
theorem fields_len (k : Int) : (fieldsOf k).length ≤ 6 := by
  unfold fieldsOf
  repeat' split
  all_goals simp
theorem int_append {w' : World} {base n : Nat} {v : Value} {xs : List Int} {a : Int} (h : w'.ownsRow base 3 1 v (n + 1) (xs.flatMap encI ++ [.int .i64 a])) : w'.ownsRow base 3 1 v (n + 1) ((xs ++ [a]).flatMap encI) := by
  rw [List.flatMap_append]
  exact h
set_option maxHeartbeats 4000000 in
theorem cells_c (x : Vr) (w : World) (hx : LenOk x) : Calls Tryz.prog 157 #[vrV x] w fun e w' => ∃ u, e = .returned u ∧ w'.ownsRow w.heap.size 3 1 u (cellsV x).length ((cellsV x).flatMap encI) ∧ Below w.heap.size w w' := by
  obtain ⟨nm, ty, len, init, dir⟩ := x
  obtain ⟨hx, h110⟩ := hx
  simp only at hx h110
  unfold cellsV vrV
  simp only
  by_cases hty : 100 < ty
  · rw [if_pos hty]
    obtain ⟨F, hF⟩ : ∃ F, fieldsOf (ty - 100) = F := ⟨_, rfl⟩
    have h6 := fields_len (ty - 100)
    rw [hF] at h6
    have HFC := Lib.hid (fun W => (by have h := fields_c (ty - 100) W; unfold FieldsR at h; rw [hF] at h; exact h))
    rw [hF]
    clear hF hx
    obtain ⟨i, hi1, hi2, hi3, hi4⟩ := info_int.parts
    go_enter Tryz.func157, Tryz.ntmps157
    go_wp2_with (go_at_call 131; refine (HFC.out _).mono ?_; rintro e w1 ⟨v, rfl, hs1, hb1⟩; obtain ⟨Af, cf, rfl, hfl, hfm, hfc⟩ := hs1; have HFD := Lib.hid hfc; clear hfc)
    have HB1 := Lib.hid (show Below w.heap.size w w1 by (repeat' (first | (with_reducible exact Below.refl _ _) | (with_reducible refine below_alloc ?_) | (with_reducible refine below_drew ?_) | (with_reducible refine below_drewN ?_) | (with_reducible refine below_set (by first | (simp; done) | (simp; omega)) ?_) | (with_reducible refine below_call (by with_reducible assumption) ?_))))
    have hsz1 := HB1.out.size
    clear hb1 HFC
    go_loopg [5, 20] F.length (fun gg s5 s20 wr => ∃ (k : Nat) (so : Value), so = s5 ∧ s20 = .int .i64 k ∧ k ≤ F.length ∧ F.length - k ≤ gg ∧ Aside (wr.ownsRow w1.heap.size 3 1 s5 k (((F.take k).map (·.ty)).flatMap encI)) ∧ Aside (Below w1.heap.size w1 wr))
    case atStart => exact ⟨0, _, rfl, rfl, Nat.zero_le _, by omega, World.ownsRow_nil _ _ _ _, Below.refl _ _⟩
    case round =>
      obtain ⟨k, so, rfl, rfl, hk, hg, HO, HB⟩ := hrel
      by_cases hlt : k < F.length
      · obtain ⟨f, hf⟩ : ∃ f, F[k]? = some f := ⟨F[k], List.getElem?_eq_getElem hlt⟩
        obtain ⟨b, off, rfl, hb, hcx⟩ := HFD.out k f hf
        have hB := HB.out
        have c0 : wr.cell? ⟨b, off + k * 3, none⟩ = some (.string f.name) := (hB.cell (p := ⟨b, off + k * 3, none⟩) hb).trans (by simpa using hcx 0 _ rfl)
        have c1 : wr.cell? ⟨b, off + k * 3 + 1, none⟩ = some (.int .i64 f.ty) := (hB.cell (p := ⟨b, off + k * 3 + 1, none⟩) hb).trans (by simpa using hcx 1 _ rfl)
        have c2 : wr.cell? ⟨b, off + k * 3 + 2, none⟩ = some (.bool f.set) := (hB.cell (p := ⟨b, off + k * 3 + 2, none⟩) hb).trans (by simpa using hcx 2 _ rfl)
        have hltz : (k : Int) < (F.length : Int) := by omega
        have hk0 : (0 : Int) ≤ (k : Int) := Int.natCast_nonneg _
        have HTK := Lib.hid (show (F.take (k + 1)).map (·.ty) = (F.take k).map (·.ty) ++ [f.ty] by
          obtain ⟨hi, rfl⟩ := List.getElem?_eq_some_iff.1 hf
          rw [List.take_succ_eq_append_getElem hi, List.map_append]
          rfl)
        have hszr := hB.size
        clear hcx hf hB
        go_wp2_with (at_builtin; refine wpList_append_lies _ rfl _ _ 55 rfl w1.heap.size 3 i _ 1 8 Tryz.underlying55 hi1 hi2 hi3 hi4 rfl (by decide) so k (((F.take k).map (·.ty)).flatMap encI) rfl (own_below HO.out (by (repeat' (first | (with_reducible exact Below.refl _ _) | (with_reducible refine below_alloc ?_) | (with_reducible refine below_drew ?_) | (with_reducible refine below_drewN ?_) | (with_reducible refine below_set (by first | (simp; done) | (simp; omega)) ?_) | (with_reducible refine below_call (by with_reducible assumption) ?_))))) ⟨wr.heap.size + 1, 0, none⟩ 1 1 [.int .i64 f.ty] rfl rfl (fun j u hu => by have hh := new_cells (wr.alloc (.cells #[.string f.name, .int .i64 f.ty, .bool f.set] 145)) [.int .i64 f.ty] 3 j; rw [World.size_alloc] at hh; exact hh.trans hu) (by simp [Value.oneCell']) (by decide) (by unfold maxLen; omega) (by omega) (by simp; omega) _ rfl ?_; intro g5 cap5 w5 hown5 hgr5 hor5 hlt5)
        all_goals go_roundg (F.length - (k + 1))
        all_goals first
          | omega
          | (refine ⟨k + 1, _, rfl, by go_num, by omega, by omega, ?_, ?_⟩
             focus (show World.ownsRow _ _ _ _ _ _ _; rw [HTK.out]; exact int_append hown5)
             focus (exact below_grown (below_alloc (below_alloc HB.out)) hgr5 (fun r e => own_ge HO.out (Nat.le_refl _) r e)))
      · obtain rfl : k = F.length := by omega
        have hltz : ¬ (F.length : Int) < (F.length : Int) := by omega
        have hO := HO.out
        rw [List.take_length] at hO
        have HO2 := Lib.hid hO
        clear hO
        go_wp2
        go_ret
        refine ⟨so, rfl, ?_, below_call HB.out HB1.out⟩
        first | exact own_base HO2.out hsz1 | (rw [List.length_map]; exact own_base HO2.out hsz1)
  · rw [if_neg hty]
    have hlen := hx (by omega)
    obtain ⟨m, hm⟩ : ∃ m : Nat, (max 1 len).toNat = m := ⟨_, rfl⟩
    have hmz : max 1 len = (m : Int) := by omega
    have hm1 : 1 ≤ m := by omega
    have hm2 : m ≤ 1000 := by omega
    rw [hm]
    clear hm hx
    go_enter Tryz.func157, Tryz.ntmps157
    go_wp2_with (go_at_call 180; refine (repeat_c ty m hm1 hm2 _ _ (by refine Sl.lit' ?_ _ _ _ _ _ _ ?_ ?_ ?_ ?_ <;> first | (intro _; rfl) | rfl | decide | (simp; done))).mono ?_; rintro e w1 ⟨u, rfl, ho1, hb1⟩)
    go_ret
    exact ⟨u, rfl, by rw [List.length_replicate]; exact own_base ho1 (by simp; omega), by (repeat' (first | (with_reducible exact Below.refl _ _) | (with_reducible refine below_alloc ?_) | (with_reducible refine below_drew ?_) | (with_reducible refine below_drewN ?_) | (with_reducible refine below_set (by first | (simp; done) | (simp; omega)) ?_) | (with_reducible refine below_call (by with_reducible assumption) ?_)))⟩
end Go.Proofs.YtenjkplijblcoaaGreatDoor
