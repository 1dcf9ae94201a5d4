/- typed.cells and typed.find, of variables that hold one number each. -/
import Derived.Test.YtenjkplijblcoaaGreatDoorCFWrong
import Derived.Test.YtenjkplijblcoaaGreatDoorCFTyped
import Derived.Test.YtenjkplijblcoaaGreatDoorCFBase
import Derived.Laws.CopyOwn
namespace Go.Proofs.YtenjkplijblcoaaGreatDoor
open Go.RowKit Cap
set_option maxRecDepth 100000

theorem mul64_c (w : World) : Calls Tryz.prog 210 #[.int .u64 1, .int .u64 1] w fun e w' => e = .returned (.tuple #[.int .u64 0, .int .u64 1]) ∧ w = w' := by
  go_enter Tryz.func210, Tryz.ntmps210
  go_wp2
  go_ret2
  exact ⟨rfl, rfl⟩
theorem mul_c (w : World) : Calls Tryz.prog 196 #[.int .u64 1, .int .u64 1] w fun e w' => e = .returned (.tuple #[.int .u64 0, .int .u64 1]) ∧ w = w' := by
  go_enter Tryz.func196, Tryz.ntmps196
  go_wp2_with (go_at_call 210; refine (mul64_c _).mono ?_; rintro e w1 ⟨rfl, rfl⟩)
  go_ret2
  exact ⟨rfl, rfl⟩
theorem make_one (W : World) : (Instr.makeSlice 55 (.int .i64 1) (.int .i64 1)).run Tryz.prog W = .ok (.slice (some ⟨W.heap.size, 0, none⟩) 1 1) (W.alloc (.cells #[.int .i64 0] 3)) := by
  obtain ⟨i, h1, h2, h3, h4⟩ := info_int.parts
  have h := run_make (P := Tryz.prog) W 55 3 i (.int .i64 0) Tryz.underlying55 h1 h2 .i64 .i64 1 1 (by omega) (Int.le_refl _) (by rw [h4]; omega) (by omega)
  have e : madeCells (Value.int .i64 0).cells (1 * 1) = #[.int .i64 0] := by
    apply Array.toList_inj.1
    rw [madeCells_rows _ 1 1 rfl (by decide)]
    rfl
  rw [h, h3, show Int.toNat 1 = 1 from rfl, e]
theorem size_int : (Tryz.prog.info? 3).map (·.size) = some 1 := by
  obtain ⟨i, h1, h2, h3, h4⟩ := info_int.parts
  rw [h1, Option.map_some, h3]
set_option maxHeartbeats 1000000 in
theorem repeat1_c (t : Int) (v : Value) (w : World) (hs : Sl encI 1 w v [t]) :
    Calls Tryz.prog 180 #[v, .int .i64 1] w fun e w' => (∃ A c, e = .returned (.slice A 1 c)) ∧ Below w.heap.size w w' := by
  obtain ⟨A, c, rfl, hl, hm, hc⟩ := hs
  obtain ⟨b, off, rfl, hb, hcx⟩ := hc 0 t rfl
  have c0 : w.cell? ⟨b, off, none⟩ = some (.int .i64 t) := by simpa using hcx 0 _ rfl
  clear hc hcx
  have hmk := make_one
  go_enter Tryz.func180, Tryz.ntmps180
  have hsrc : ∀ j v, [Value.int .i64 t][j]? = some v → (w.alloc (.cells #[.int .i64 0] 3)).cell? ((⟨b, off, none⟩ : Addr).add j) = some v := by
    intro j v hv
    cases j with
    | zero =>
      simp at hv
      subst hv
      rw [Addr.add_lit]
      exact ((below_alloc (Below.refl _ w)).cell (p := ⟨b, off + 0, none⟩) hb).trans c0
    | succ j => simp at hv
  have hcp := run_copy_row (P := Tryz.prog) (w.alloc (.cells #[.int .i64 0] 3)) 55 55 3 3 w.heap.size 0 1 1 ⟨b, off, none⟩ 1 c #[.int .i64 0] 3 [.int .i64 t] Tryz.underlying55 size_int (heap_alloc_new _ _) rfl hsrc (by simp) (by simp [Value.oneCell'])
  rw [show goInt [Value.int .i64 t].length = .int .i64 1 from rfl] at hcp
  obtain ⟨W2, hW2⟩ : ∃ W2, (w.alloc (.cells #[.int .i64 0] 3)).setRow w.heap.size ((#[Value.int .i64 0].toList.take 0 ++ [Value.int .i64 t] ++ #[Value.int .i64 0].toList.drop (0 + [Value.int .i64 t].length)).toArray) = W2 := ⟨_, rfl⟩
  rw [hW2] at hcp
  have HB2 := Lib.hid (show Below w.heap.size w W2 by rw [← hW2]; exact below_setRow (below_alloc (Below.refl _ _)) (Nat.le_refl _) _)
  clear hsrc hW2
  go_wp2_with (go_at_call 196; refine (mul_c _).mono ?_; rintro e w1 ⟨rfl, rfl⟩)
  refine wp_loop_rounds 1 ?_
  rw [rounds_succ]
  go_wp2
  go_ret
  exact ⟨⟨_, _, rfl⟩, HB2.out⟩
theorem frozen_row {w : World} {b : Nat} {cs : Array Value} {T : TypeId} (j : Nat) (h : w.heap[b]? = some (.cells cs T (0, 0))) : w.frozen? ⟨b, j, none⟩ = false := by
  simp [World.frozen?, h]
/-- A variable that holds one number. -/
def OneV (v : Vr) : Prop := v.ty ≤ 100 ∧ v.len = 0
theorem cells1_c (x : Vr) (w : World) (hx : OneV x) : Calls Tryz.prog 157 #[vrV x] w fun e w' => (∃ A c, e = .returned (.slice A 1 c)) ∧ Below w.heap.size w w' := by
  obtain ⟨nm, ty, len, init, dir⟩ := x
  obtain ⟨h1, h2⟩ := hx
  simp only at h1 h2
  subst h2
  have hz : ¬ 100 < ty := by omega
  unfold vrV
  go_enter Tryz.func157, Tryz.ntmps157
  go_wp2_with (go_at_call 180; refine (repeat1_c ty _ _ (by refine Sl.lit' ?_ _ _ _ _ _ _ ?_ ?_ ?_ ?_ <;> first | (intro _; rfl) | rfl | decide | (simp; done))).mono ?_; rintro e w1 ⟨⟨A, c, rfl⟩, hb1⟩)
  go_ret
  exact ⟨⟨_, _, rfl⟩, by (repeat' (first | (with_reducible exact Below.refl _ _) | (with_reducible refine below_alloc ?_) | (with_reducible refine below_drew ?_) | (with_reducible refine below_drewN ?_) | (with_reducible refine below_set (by simp; omega) ?_) | (with_reducible refine below_call (by with_reducible assumption) ?_)))⟩
theorem results_cell3 {fn : Func} {p u q : Tmp} {ty : TypeId} (h : fn.results = #[.cell p ty, .tmp u, .tmp q]) (tmps : Array Value) (P : Program) (w : World) :
    (results fn tmps).run P w =
      ((asAddr (tmps.getD p undef)).run P w).andThen fun a w₁ => ((loadVar ty a).run P w₁).andThen fun v w₂ => .ok (.tuple #[v, tmps.getD u undef, tmps.getD q undef]) w₂ := by
  simp only [results, h]
  simp [Sem.run_bind, Result.andThen]
theorem findV_drop {vars : List Vr} {k : Nat} {x : Vr} {s : ByteArray} (h : vars[k]? = some x) : findV (vars.drop k) s = if (x.name.toList == s.toList) = true then some x else findV (vars.drop (k + 1)) s := by
  rw [drop_cons h, findV]
/-- What find hands back. -/
inductive FindR (w : World) : Option Vr → Ending → World → Prop
  | yes {x : Vr} {at_ : Int} {w' : World} (h : Below w.heap.size w w') : FindR w (some x) (.returned (.tuple #[.agg #[.string x.name, .int .i64 x.ty, .int .i64 x.len, .int .i64 x.init, .int .i64 x.dir], .int .i64 at_, .bool true])) w'
  | no {v : Value} {at_ : Int} {w' : World} (h : Below w.heap.size w w') : FindR w none (.returned (.tuple #[.agg #[.string ⟨#[]⟩, .int .i64 0, .int .i64 0, .int .i64 0, .int .i64 0], .int .i64 at_, .bool false])) w'
set_option maxHeartbeats 4000000 in
theorem find_c (vars : List Vr) (v : Value) (s : ByteArray) (w : World) (hs : Sl encVr 5 w v vars) (hp : ∀ x ∈ vars, OneV x) (h64 : vars.length ≤ 64) :
    Calls Tryz.prog 130 #[v, .string s] w (FindR w (findV vars s)) := by
  obtain ⟨A, c, rfl, hl, hm, hc⟩ := hs
  have HC := Lib.hid hc
  have HP := Lib.hid hp
  clear hc hp
  go_enter Tryz.func130, Tryz.ntmps130
  go_wp2
  go_loopg [5, 11] vars.length (fun gg s5 s11 wr => ∃ k : Nat, s5 = .int .i64 k ∧ s11 = .int .i64 k ∧ k ≤ vars.length ∧ vars.length - k ≤ gg ∧ Aside (Below w.heap.size w wr) ∧ Aside (wr.heap[w.heap.size]? = some (.cells #[.string ⟨#[]⟩, .int .i64 0, .int .i64 0, .int .i64 0, .int .i64 0] 59 (0, 0))) ∧ Aside (findV (vars.drop k) s = findV vars s))
  case atStart => exact ⟨0, rfl, rfl, Nat.zero_le _, by omega, (show Aside _ from below_alloc (Below.refl _ _)), (show Aside _ from heap_alloc_new _ _), rfl⟩
  case round =>
    obtain ⟨k, rfl, rfl, hk, hg, HB, HX, HF⟩ := hrel
    have hB := HB.out
    have hsz : w.heap.size < wr.heap.size := (Array.getElem?_eq_some_iff.1 HX.out).1
    by_cases hlt : k < vars.length
    · obtain ⟨x, hx⟩ : ∃ x, vars[k]? = some x := ⟨vars[k], List.getElem?_eq_getElem hlt⟩
      obtain ⟨b, off, rfl, hb, hcx⟩ := HC.out k x hx
      have hone := HP.out x (List.mem_of_getElem? hx)
      have e0 : wr.cell? ⟨b, off + k * 5, none⟩ = some (.string x.name) := (hB.cell (p := ⟨b, off + k * 5, none⟩) hb).trans (by simpa using hcx 0 _ rfl)
      have e1 : wr.cell? ⟨b, off + k * 5 + 1, none⟩ = some (.int .i64 x.ty) := (hB.cell (p := ⟨b, off + k * 5 + 1, none⟩) hb).trans (by simpa using hcx 1 _ rfl)
      have e2 : wr.cell? ⟨b, off + k * 5 + 2, none⟩ = some (.int .i64 x.len) := (hB.cell (p := ⟨b, off + k * 5 + 2, none⟩) hb).trans (by simpa using hcx 2 _ rfl)
      have e3 : wr.cell? ⟨b, off + k * 5 + 3, none⟩ = some (.int .i64 x.init) := (hB.cell (p := ⟨b, off + k * 5 + 3, none⟩) hb).trans (by simpa using hcx 3 _ rfl)
      have e4 : wr.cell? ⟨b, off + k * 5 + 4, none⟩ = some (.int .i64 x.dir) := (hB.cell (p := ⟨b, off + k * 5 + 4, none⟩) hb).trans (by simpa using hcx 4 _ rfl)
      have HD := Lib.hid (findV_drop (s := s) hx)
      have HCE := Lib.hid (fun W => cells1_c x W hone)
      have hltz : (k : Int) < (vars.length : Int) := by omega
      have hk0 : (0 : Int) ≤ (k : Int) := Int.natCast_nonneg _
      have r0 := cell_of_row _ _ 0 _ _ _ HX.out
      have r1 := cell_of_row _ _ 1 _ _ _ HX.out
      have r2 := cell_of_row _ _ 2 _ _ _ HX.out
      have r3 := cell_of_row _ _ 3 _ _ _ HX.out
      have r4 := cell_of_row _ _ 4 _ _ _ HX.out
      have f0 := frozen_row 0 HX.out
      have f1 := frozen_row 1 HX.out
      have f2 := frozen_row 2 HX.out
      have f3 := frozen_row 3 HX.out
      have f4 := frozen_row 4 HX.out
      simp at r0 r1 r2 r3 r4
      clear hcx hx hone
      cases hq : (x.name.toList == s.toList) with
      | true =>
        have HR := Lib.hid (show findV vars s = some x by rw [← HF.out, HD.out, if_pos hq])
        go_wp2
        (try simp only [Exit.inBlock, Exit.then])
        refine bodyPost_ret (v := .tuple #[.agg #[.string x.name, .int .i64 x.ty, .int .i64 x.len, .int .i64 x.init, .int .i64 x.dir], .int .i64 k, .bool true]) (by rw [results_cell3 rfl]; go_simp) rfl ?_
        rw [HR.out]
        exact FindR.yes (by (repeat' (first | (with_reducible exact Below.refl _ _) | (with_reducible refine below_alloc ?_) | (with_reducible refine below_drew ?_) | (with_reducible refine below_drewN ?_) | (with_reducible refine below_set (by first | (simp; done) | (simp; omega)) ?_) | (with_reducible refine below_call (by with_reducible assumption) ?_))))
      | false =>
        have HN := Lib.hid (show findV (vars.drop (k + 1)) s = findV vars s by rw [← HF.out, HD.out, if_neg (by rw [hq]; simp)])
        unfold vrV at HCE
        go_wp2_with (go_at_call 157; refine (HCE.out _).mono ?_; rintro e w1 ⟨⟨A1, c1, rfl⟩, hb1⟩)
        go_roundg (vars.length - (k + 1))
        case measure => omega
        case rel =>
          exact ⟨k + 1, by go_num, by go_num, by omega, by omega, (show Below w.heap.size w w1 from by (repeat' (first | (with_reducible exact Below.refl _ _) | (with_reducible refine below_alloc ?_) | (with_reducible refine below_drew ?_) | (with_reducible refine below_drewN ?_) | (with_reducible refine below_set (by simp; omega) ?_) | (with_reducible refine below_call (by with_reducible assumption) ?_)))), (show Aside _ from (hb1.block _ (by simp; omega)).trans ((heap_alloc_old _ _ hsz).trans HX.out)), HN.out⟩
    · obtain rfl : k = vars.length := by omega
      have hltz : ¬ (vars.length : Int) < (vars.length : Int) := by omega
      have HR := Lib.hid (show findV vars s = none by rw [← HF.out, List.drop_length]; rfl)
      have r0 := cell_of_row _ _ 0 _ _ _ HX.out
      have r1 := cell_of_row _ _ 1 _ _ _ HX.out
      have r2 := cell_of_row _ _ 2 _ _ _ HX.out
      have r3 := cell_of_row _ _ 3 _ _ _ HX.out
      have r4 := cell_of_row _ _ 4 _ _ _ HX.out
      have f0 := frozen_row 0 HX.out
      have f1 := frozen_row 1 HX.out
      have f2 := frozen_row 2 HX.out
      have f3 := frozen_row 3 HX.out
      have f4 := frozen_row 4 HX.out
      simp at r0 r1 r2 r3 r4
      go_wp2
      (try simp only [Exit.inBlock, Exit.then])
      refine bodyPost_ret (v := .tuple #[.agg #[.string ⟨#[]⟩, .int .i64 0, .int .i64 0, .int .i64 0, .int .i64 0], .int .i64 0, .bool false]) (by rw [results_cell3 rfl]; go_simp) rfl ?_
      rw [HR.out]
      exact FindR.no (v := undef) (by (repeat' (first | (with_reducible exact Below.refl _ _) | (with_reducible refine below_alloc ?_) | (with_reducible refine below_drew ?_) | (with_reducible refine below_drewN ?_) | (with_reducible refine below_set (by first | (simp; done) | (simp; omega)) ?_) | (with_reducible refine below_call (by with_reducible assumption) ?_))))
end Go.Proofs.YtenjkplijblcoaaGreatDoor
