/- typed.find. -/
import Derived.Test.YtenjkplijblcoaaGreatDoorCFWrong
import Derived.Test.YtenjkplijblcoaaGreatDoorCFTyped
import Derived.Test.YtenjkplijblcoaaGreatDoorCFBase
import Derived.Test.YtenjkplijblcoaaGreatDoorCFCells
set_option linter.unusedSimpArgs false
set_option linter.unusedVariables false
namespace Go.Proofs.YtenjkplijblcoaaGreatDoor
open Go.RowKit Cap
set_option maxRecDepth 100000

theorem frozen_row {w : World} {b : Nat} {cs : Array Value} {T : TypeId} (j : Nat) (h : w.heap[b]? = some (.cells cs T (0, 0))) : w.frozen? ⟨b, j, none⟩ = false := by
  simp [World.frozen?, h]
/-- A variable whose length may be. -/
def OneV (v : Vr) : Prop := LenOk v
theorem cellsV_len {v : Vr} (h : LenOk v) : (cellsV v).length ≤ 1000 := by
  unfold cellsV
  by_cases ht : 100 < v.ty
  · rw [if_pos ht, List.length_map]
    have := fields_len (v.ty - 100)
    omega
  · rw [if_neg ht, List.length_replicate]
    have := h.1 (by omega)
    omega
theorem results_cell3 {fn : Func} {p u q : Tmp} {ty : TypeId} (h : fn.results = #[.cell p ty, .tmp u, .tmp q]) (tmps : Array Value) (P : Program) (w : World) :
    (results fn tmps).run P w =
      ((asAddr (tmps.getD p undef)).run P w).andThen fun a w₁ => ((loadVar ty a).run P w₁).andThen fun v w₂ => .ok (.tuple #[v, tmps.getD u undef, tmps.getD q undef]) w₂ := by
  simp only [results, h]
  simp [Sem.run_bind, Result.andThen]
theorem findV_drop {vars : List Vr} {k : Nat} {x : Vr} {s : ByteArray} (h : vars[k]? = some x) : findV (vars.drop k) s = if (x.name.toList == s.toList) = true then some x else findV (vars.drop (k + 1)) s := by
  rw [drop_cons h, findV]
theorem atV_drop {vars : List Vr} {k : Nat} {x : Vr} {s : ByteArray} (h : vars[k]? = some x) : atV (vars.drop k) s = if (x.name.toList == s.toList) = true then 0 else (cellsV x).length + atV (vars.drop (k + 1)) s := by
  rw [drop_cons h, atV]
/-- What find hands back. -/
inductive FindR (w : World) (at_ : Int) : Option Vr → Ending → World → Prop
  | yes {x : Vr} {w' : World} (h : Below w.heap.size w w') : FindR w at_ (some x) (.returned (.tuple #[.agg #[.string x.name, .int .i64 x.ty, .int .i64 x.len, .int .i64 x.init, .int .i64 x.dir], .int .i64 at_, .bool true])) w'
  | no {w' : World} (h : Below w.heap.size w w') : FindR w at_ none (.returned (.tuple #[.agg #[.string ⟨#[]⟩, .int .i64 0, .int .i64 0, .int .i64 0, .int .i64 0], .int .i64 0, .bool false])) w'
set_option maxHeartbeats 4000000 in
theorem find_c (vars : List Vr) (v : Value) (s : ByteArray) (w : World) (hs : Sl encVr 5 w v vars) (hp : ∀ x ∈ vars, OneV x) (h64 : vars.length ≤ 64) :
    Calls Tryz.prog 130 #[v, .string s] w (FindR w (atV vars s) (findV vars s)) := by
  obtain ⟨A, c, rfl, hl, hm, hc⟩ := hs
  have HC := Lib.hid hc
  have HP := Lib.hid hp
  clear hc hp
  go_enter Tryz.func130, Tryz.ntmps130
  go_wp2
  go_loopg [5, 11] vars.length (fun gg s5 s11 wr => ∃ k a : Nat, s5 = .int .i64 a ∧ s11 = .int .i64 k ∧ k ≤ vars.length ∧ a ≤ k * 1000 ∧ vars.length - k ≤ gg ∧ Aside (Below w.heap.size w wr) ∧ Aside (wr.heap[w.heap.size]? = some (.cells #[.string ⟨#[]⟩, .int .i64 0, .int .i64 0, .int .i64 0, .int .i64 0] 59 (0, 0))) ∧ Aside (findV (vars.drop k) s = findV vars s) ∧ Aside (a + atV (vars.drop k) s = atV vars s))
  case atStart => exact ⟨0, 0, rfl, rfl, Nat.zero_le _, Nat.zero_le _, by omega, (show Aside _ from below_alloc (Below.refl _ _)), (show Aside _ from heap_alloc_new _ _), rfl, (show Aside _ from Nat.zero_add _)⟩
  case round =>
    obtain ⟨k, a, rfl, rfl, hk, hak, hg, HB, HX, HF, HA⟩ := hrel
    have hB := HB.out
    have hsz : w.heap.size < wr.heap.size := (Array.getElem?_eq_some_iff.1 HX.out).1
    by_cases hlt : k < vars.length
    · obtain ⟨x, hx⟩ : ∃ x, vars[k]? = some x := ⟨vars[k], List.getElem?_eq_getElem hlt⟩
      obtain ⟨b, off, rfl, hb, hcx⟩ := HC.out k x hx
      have hone := HP.out x (List.mem_of_getElem? hx)
      have e0 : wr.cell? ⟨b, off + k * 5, none⟩ = some (.string x.name) := (hB.cell (p := ⟨b, off + k * 5, none⟩) hb).trans (by simpa using hcx 0 _ rfl)
      have e1 : wr.cell? ⟨b, off + k * 5 + 1, none⟩ = some (.int .i64 x.ty) := (hB.cell (p := ⟨b, off + k * 5 + 1, none⟩) hb).trans (by simpa using hcx 1 _ rfl)
      have e2 : wr.cell? ⟨b, off + k * 5 + 2, none⟩ = some (.int .i64 x.len) := (hB.cell (p := ⟨b, off + k * 5 + 2, none⟩) hb).trans (by simpa using hcx 2 _ rfl)
      have e3 : wr.cell? ⟨b, off + k * 5 + 3, none⟩ = some (.int .i64 x.init) := (hB.cell (p := ⟨b, off + k * 5 + 3, none⟩) hb).trans (by simpa using hcx 3 _ rfl)
      have e4 : wr.cell? ⟨b, off + k * 5 + 4, none⟩ = some (.int .i64 x.dir) := (hB.cell (p := ⟨b, off + k * 5 + 4, none⟩) hb).trans (by simpa using hcx 4 _ rfl)
      have HD := Lib.hid (findV_drop (s := s) hx)
      have HCE := Lib.hid (fun W => cells_c x W hone)
      have HAD := Lib.hid (atV_drop (s := s) hx)
      have hcl := cellsV_len hone
      have ha0 : (0 : Int) ≤ (a : Int) := Int.natCast_nonneg _
      have haz : (a : Int) ≤ 64000 := by omega
      have hltz : (k : Int) < (vars.length : Int) := by omega
      have hk0 : (0 : Int) ≤ (k : Int) := Int.natCast_nonneg _
      have r0 := cell_of_row _ _ 0 _ _ _ HX.out
      have r1 := cell_of_row _ _ 1 _ _ _ HX.out
      have r2 := cell_of_row _ _ 2 _ _ _ HX.out
      have r3 := cell_of_row _ _ 3 _ _ _ HX.out
      have r4 := cell_of_row _ _ 4 _ _ _ HX.out
      have f0 := frozen_row 0 HX.out
      have f1 := frozen_row 1 HX.out
      have f2 := frozen_row 2 HX.out
      have f3 := frozen_row 3 HX.out
      have f4 := frozen_row 4 HX.out
      simp at r0 r1 r2 r3 r4
      clear hcx hx hone
      cases hq : (x.name.toList == s.toList) with
      | true =>
        have HR := Lib.hid (show findV vars s = some x by rw [← HF.out, HD.out, if_pos hq])
        have HRA := Lib.hid (show (atV vars s : Int) = (a : Int) by rw [← HA.out, HAD.out, if_pos hq, Nat.add_zero])
        clear hcl
        go_wp2
        (try simp only [Exit.inBlock, Exit.then])
        refine bodyPost_ret (v := .tuple #[.agg #[.string x.name, .int .i64 x.ty, .int .i64 x.len, .int .i64 x.init, .int .i64 x.dir], .int .i64 a, .bool true]) (by rw [results_cell3 rfl]; go_simp) rfl ?_
        rw [HR.out, HRA.out]
        exact FindR.yes (by (repeat' (first | (with_reducible exact Below.refl _ _) | (with_reducible refine below_alloc ?_) | (with_reducible refine below_drew ?_) | (with_reducible refine below_drewN ?_) | (with_reducible refine below_set (by first | (simp; done) | (simp; omega)) ?_) | (with_reducible refine below_call (by with_reducible assumption) ?_))))
      | false =>
        have HN := Lib.hid (show findV (vars.drop (k + 1)) s = findV vars s by rw [← HF.out, HD.out, if_neg (by rw [hq]; simp)])
        have HNA := Lib.hid (show a + (cellsV x).length + atV (vars.drop (k + 1)) s = atV vars s by rw [← HA.out, HAD.out, if_neg (by rw [hq]; simp), Nat.add_assoc])
        obtain ⟨cl, hcl2⟩ : ∃ cl, (cellsV x).length = cl := ⟨_, rfl⟩
        rw [hcl2] at HCE HNA hcl
        have hcl0 : (0 : Int) ≤ (cl : Int) := Int.natCast_nonneg _
        have hclz : (cl : Int) ≤ 1000 := by omega
        clear hcl2
        unfold vrV at HCE
        go_wp2_with (go_at_call 157; refine (HCE.out _).mono ?_; rintro e w1 ⟨u1, rfl, ho1, hb1⟩; obtain ⟨A1, c1, rfl⟩ := own_slice ho1)
        go_roundg (vars.length - (k + 1))
        case measure => omega
        case rel =>
          exact ⟨k + 1, a + cl, by go_num, by go_num, by omega, by omega, by omega, (show Below w.heap.size w w1 from by (repeat' (first | (with_reducible exact Below.refl _ _) | (with_reducible refine below_alloc ?_) | (with_reducible refine below_drew ?_) | (with_reducible refine below_drewN ?_) | (with_reducible refine below_set (by simp; omega) ?_) | (with_reducible refine below_call (by with_reducible assumption) ?_)))), (show Aside _ from (hb1.block _ (by simp; omega)).trans ((heap_alloc_old _ _ hsz).trans HX.out)), HN.out, HNA.out⟩
    · obtain rfl : k = vars.length := by omega
      have hltz : ¬ (vars.length : Int) < (vars.length : Int) := by omega
      have HR := Lib.hid (show findV vars s = none by rw [← HF.out, List.drop_length]; rfl)
      have r0 := cell_of_row _ _ 0 _ _ _ HX.out
      have r1 := cell_of_row _ _ 1 _ _ _ HX.out
      have r2 := cell_of_row _ _ 2 _ _ _ HX.out
      have r3 := cell_of_row _ _ 3 _ _ _ HX.out
      have r4 := cell_of_row _ _ 4 _ _ _ HX.out
      have f0 := frozen_row 0 HX.out
      have f1 := frozen_row 1 HX.out
      have f2 := frozen_row 2 HX.out
      have f3 := frozen_row 3 HX.out
      have f4 := frozen_row 4 HX.out
      simp at r0 r1 r2 r3 r4
      go_wp2
      (try simp only [Exit.inBlock, Exit.then])
      refine bodyPost_ret (v := .tuple #[.agg #[.string ⟨#[]⟩, .int .i64 0, .int .i64 0, .int .i64 0, .int .i64 0], .int .i64 0, .bool false]) (by rw [results_cell3 rfl]; go_simp) rfl ?_
      rw [HR.out]
      exact FindR.no (by (repeat' (first | (with_reducible exact Below.refl _ _) | (with_reducible refine below_alloc ?_) | (with_reducible refine below_drew ?_) | (with_reducible refine below_drewN ?_) | (with_reducible refine below_set (by first | (simp; done) | (simp; omega)) ?_) | (with_reducible refine below_call (by with_reducible assumption) ?_))))
end Go.Proofs.YtenjkplijblcoaaGreatDoor
