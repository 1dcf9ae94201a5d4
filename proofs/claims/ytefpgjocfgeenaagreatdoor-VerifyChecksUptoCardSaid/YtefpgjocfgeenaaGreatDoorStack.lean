/- The stacks of package verify: 64 ints and how many. -/
import Derived.Test.YtefpgjocfgeenaaGreatDoorProg
import Derived.Test.YtefpgjocfgeenaaGreatDoorKit
import Derived.RegionTactic
import Derived.ChangeKeysEq
import Derived.Laws.Rows
namespace Go.Proofs.YtefpgjocfgeenaaGreatDoor
open Go.RowKit Cap
set_option maxRecDepth 100000

def stk (st : List Int) : List Value := st.map (fun x => .int .i64 x) ++ List.replicate (64 - st.length) (.int .i64 0) ++ [.int .i64 st.length]
theorem stk_len {st : List Int} (h : st.length ≤ 64) : (stk st).length = 65 := by simp [stk]; omega
theorem stk_many {st : List Int} (h : st.length ≤ 64) : (stk st)[64]? = some (.int .i64 st.length) := by
  unfold stk
  rw [List.getElem?_append_right (by simp; omega)]
  simp
  rw [show 64 - (st.length + (64 - st.length)) = 0 from by omega]
  rfl
theorem stk_at {st : List Int} {j : Nat} (h : st.length ≤ 64) (hj : j < st.length) : (stk st)[j]? = some (.int .i64 (st[j])) := by
  unfold stk
  rw [List.getElem?_append_left (by simp; omega), List.getElem?_append_left (by simp; omega)]
  simp [hj]
theorem stk_zero {st : List Int} {j : Nat} (hj : st.length ≤ j) (hj2 : j < 64) : (stk st)[j]? = some (.int .i64 0) := by
  unfold stk
  rw [List.getElem?_append_left (by simp; omega), List.getElem?_append_right (by simp; omega), List.length_map, List.getElem?_replicate, if_pos (by omega)]

theorem stk_push {st : List Int} {t : Int} (h : st.length < 64) : ((stk st).set st.length (.int .i64 t)).set 64 (.int .i64 (st.length + 1)) = stk (st ++ [t]) := by
  apply List.ext_getElem?
  intro j
  have l1 : (stk st).length = 65 := stk_len (by omega)
  have l2 : (stk (st ++ [t])).length = 65 := stk_len (by simp; omega)
  by_cases h64 : j = 64
  · subst h64
    rw [List.getElem?_set_self (by simp [l1]), stk_many (by simp; omega)]
    simp
  rw [List.getElem?_set_ne (by omega)]
  by_cases hj : j = st.length
  · subst hj
    rw [List.getElem?_set_self (by omega), stk_at (by simp; omega) (by simp)]
    simp
  rw [List.getElem?_set_ne (by omega)]
  by_cases hlt : j < st.length
  · rw [stk_at (by omega) hlt, stk_at (by simp; omega) (by simp; omega)]
    simp [List.getElem_append_left hlt]
  by_cases h65 : j < 64
  · rw [stk_zero (st := st) (by omega) h65, stk_zero (st := st ++ [t]) (by simp; omega) h65]
  · rw [List.getElem?_eq_none (by omega), List.getElem?_eq_none (by omega)]
theorem stk_pop {st : List Int} {t : Int} (h : st.length < 64) : ((stk (st ++ [t])).set 64 (.int .i64 st.length)).set st.length (.int .i64 0) = stk st := by
  apply List.ext_getElem?
  intro j
  have l1 : (stk st).length = 65 := stk_len (by omega)
  have l2 : (stk (st ++ [t])).length = 65 := stk_len (by simp; omega)
  by_cases h64 : j = 64
  · subst h64
    rw [List.getElem?_set_ne (by omega), List.getElem?_set_self (by omega), stk_many (by omega)]
  by_cases hj : j = st.length
  · subst hj
    rw [List.getElem?_set_self (by simp [l2]; omega), stk_zero (by omega) h]
  rw [List.getElem?_set_ne (by omega), List.getElem?_set_ne (by omega)]
  by_cases hlt : j < st.length
  · rw [stk_at (by omega) hlt, stk_at (by simp; omega) (by simp; omega)]
    simp [List.getElem_append_left hlt]
  by_cases h65 : j < 64
  · rw [stk_zero (st := st) (by omega) h65, stk_zero (st := st ++ [t]) (by simp; omega) h65]
  · rw [List.getElem?_eq_none (by omega), List.getElem?_eq_none (by omega)]
/-- w' is w, but block b holds these cells; new blocks may have been laid, and orders drawn. -/
structure PutB (b : Nat) (cs : List Value) (T : TypeId) (w w' : World) : Prop where
  os : w'.os = w.os
  tape : w'.tape = w.tape
  output : w'.output = w.output
  size : w.heap.size ≤ w'.heap.size
  at_ : w'.heap[b]? = some (.cells cs.toArray T (0, 0))
  block : ∀ k, k < w.heap.size → k ≠ b → w'.heap[k]? = w.heap[k]?
theorem hp_alloc {W : World} {b : Nat} {o p : Obj} (h : W.heap[b]? = some o) : (W.alloc p).heap[b]? = some o := by
  have hl := (Array.getElem?_eq_some_iff.1 h).1
  rw [heap_alloc_old W p hl]
  exact h
theorem hp_drew {W : World} {b : Nat} {o : Obj} (h : W.heap[b]? = some o) : W.drew.heap[b]? = some o := h
theorem hp_below {W W' : World} {b : Nat} {o : Obj} (k : Below W.heap.size W W') (h : W.heap[b]? = some o) : W'.heap[b]? = some o := by
  rw [k.block b (Array.getElem?_eq_some_iff.1 h).1]
  exact h
theorem PutB.refl {b : Nat} {cs : List Value} {T : TypeId} {w : World} (h : w.heap[b]? = some (.cells cs.toArray T (0, 0))) : PutB b cs T w w := ⟨rfl, rfl, rfl, Nat.le_refl _, h, fun _ _ _ => rfl⟩
theorem PutB.drew {b : Nat} {cs : List Value} {T : TypeId} {w w' : World} (h : PutB b cs T w w') : PutB b cs T w w'.drew := ⟨h.os, h.tape, h.output, h.size, h.at_, h.block⟩
theorem PutB.alloc {b : Nat} {cs : List Value} {T : TypeId} {w w' : World} {o : Obj} (h : PutB b cs T w w') : PutB b cs T w (w'.alloc o) :=
  ⟨h.os, h.tape, h.output, by have := h.size; simp; omega, hp_alloc h.at_, fun k hk hb => by rw [heap_alloc_old w' o (Nat.lt_of_lt_of_le hk h.size)]; exact h.block k hk hb⟩
theorem PutB.set {b : Nat} {cs : List Value} {T : TypeId} {w w' : World} (h : PutB b cs T w w') (j : Nat) (v : Value) : PutB b (cs.set j v) T w (w'.setCell ⟨b, j, none⟩ v) := by
  refine ⟨h.os, h.tape, h.output, ?_, ?_, fun k hk hb => ?_⟩
  · simp [World.setCell, h.size]
  · have ha := h.at_
    simp [World.setCell, Array.getElem?_modify, ha]
  · simp only [World.setCell, Array.getElem?_modify]
    rw [if_neg (fun e => hb e.symm)]
    exact h.block k hk hb
/-- Block b alone has turned, of what was there. -/
structure Chg (b : Nat) (w w' : World) : Prop where
  os : w'.os = w.os
  tape : w'.tape = w.tape
  output : w'.output = w.output
  size : w.heap.size ≤ w'.heap.size
  block : ∀ k, k < w.heap.size → k ≠ b → w'.heap[k]? = w.heap[k]?
theorem Chg.refl (b : Nat) (w : World) : Chg b w w := ⟨rfl, rfl, rfl, Nat.le_refl _, fun _ _ _ => rfl⟩
theorem PutB.chg {b : Nat} {cs : List Value} {T : TypeId} {w w' : World} (h : PutB b cs T w w') : Chg b w w' := ⟨h.os, h.tape, h.output, h.size, h.block⟩
theorem Chg.drew {b : Nat} {w w' : World} (h : Chg b w w') : Chg b w w'.drew := ⟨h.os, h.tape, h.output, h.size, h.block⟩
theorem Chg.alloc {b : Nat} {w w' : World} {o : Obj} (h : Chg b w w') : Chg b w (w'.alloc o) :=
  ⟨h.os, h.tape, h.output, by have := h.size; simp; omega, fun k hk hb => by rw [heap_alloc_old w' o (Nat.lt_of_lt_of_le hk h.size)]; exact h.block k hk hb⟩
theorem Chg.call {b : Nat} {w w' w'' : World} (k : Below w'.heap.size w' w'') (h : Chg b w w') : Chg b w w'' :=
  ⟨k.os.trans h.os, k.tape.trans h.tape, k.output.trans h.output, Nat.le_trans h.size k.size, fun i hi hb => (k.block i (Nat.lt_of_lt_of_le hi h.size)).trans (h.block i hi hb)⟩
theorem Chg.put {b : Nat} {cs : List Value} {T : TypeId} {w w' w'' : World} (k : PutB b cs T w' w'') (h : Chg b w w') : Chg b w w'' :=
  ⟨k.os.trans h.os, k.tape.trans h.tape, k.output.trans h.output, Nat.le_trans h.size k.size, fun i hi hb => (k.block i (Nat.lt_of_lt_of_le hi h.size) hb).trans (h.block i hi hb)⟩
theorem Chg.below {b : Nat} {w0 w w' : World} (h : Chg b w w') (h0 : Below w0.heap.size w0 w) (hb : w0.heap.size ≤ b) : Below w0.heap.size w0 w' :=
  ⟨h.os.trans h0.os, h.tape.trans h0.tape, h.output.trans h0.output, Nat.le_trans h0.size h.size, fun i hi => (h.block i (Nat.lt_of_lt_of_le hi h0.size) (by omega)).trans (h0.block i hi)⟩
theorem PutB.then {b : Nat} {cs' : List Value} {T : TypeId} {w w' w'' : World} (k : PutB b cs' T w' w'') (h : Chg b w w') : PutB b cs' T w w'' :=
  ⟨k.os.trans h.os, k.tape.trans h.tape, k.output.trans h.output, Nat.le_trans h.size k.size, k.at_, fun i hi hb => (k.block i (Nat.lt_of_lt_of_le hi h.size) hb).trans (h.block i hi hb)⟩
theorem PutB.call {b : Nat} {cs : List Value} {T : TypeId} {w w' w'' : World} (k : Below w'.heap.size w' w'') (h : PutB b cs T w w') : PutB b cs T w w'' :=
  ⟨k.os.trans h.os, k.tape.trans h.tape, k.output.trans h.output, Nat.le_trans h.size k.size, hp_below k h.at_, fun i hi hb => (k.block i (Nat.lt_of_lt_of_le hi h.size)).trans (h.block i hi hb)⟩
theorem PutB.below {b : Nat} {cs : List Value} {T : TypeId} {w0 w w' : World} (h : PutB b cs T w w') (h0 : Below w0.heap.size w0 w) (hb : w0.heap.size ≤ b) : Below w0.heap.size w0 w' :=
  ⟨h.os.trans h0.os, h.tape.trans h0.tape, h.output.trans h0.output, Nat.le_trans h0.size h.size, fun i hi => (h.block i (Nat.lt_of_lt_of_le hi h0.size) (by omega)).trans (h0.block i hi)⟩
theorem cell_of {w : World} {b j : Nat} {cs : List Value} {T : TypeId} (h : w.heap[b]? = some (.cells cs.toArray T (0, 0))) : w.cell? ⟨b, j, none⟩ = cs[j]? := by
  simp [World.cell?, h]
theorem free_of {w : World} {b j : Nat} {cs : List Value} {T : TypeId} (h : w.heap[b]? = some (.cells cs.toArray T (0, 0))) : w.frozen? ⟨b, j, none⟩ = false := by
  simp [World.frozen?, h]

theorem push_full (st : List Int) (t : Int) (b : Nat) (w : World) (hb : w.heap[b]? = some (.cells (stk st).toArray 122 (0, 0))) (hl : st.length = 64) :
    Calls Tryz.prog 110 #[.pointer (some ⟨b, 0, none⟩), .int .i64 t] w fun e w' => e = .returned (.bool false) ∧ w = w' := by
  have c0 : w.cell? ⟨b, 64, none⟩ = some (.int .i64 64) := by rw [cell_of hb, stk_many (by omega), hl]; rfl
  clear hb hl
  go_enter Tryz.func110, Tryz.ntmps110
  go_wp2
  go_ret
  exact ⟨rfl, rfl⟩

theorem push_ok (st : List Int) (t : Int) (b : Nat) (w : World) (hb : w.heap[b]? = some (.cells (stk st).toArray 122 (0, 0))) (hl : st.length < 64) :
    Calls Tryz.prog 110 #[.pointer (some ⟨b, 0, none⟩), .int .i64 t] w fun e w' => e = .returned (.bool true) ∧ PutB b (stk (st ++ [t])) 122 w w' := by
  have c0 : w.cell? ⟨b, 64, none⟩ = some (.int .i64 st.length) := by rw [cell_of hb, stk_many (by omega)]
  have c1 : w.cell? ⟨b, st.length, none⟩ = some (.int .i64 0) := by rw [cell_of hb, stk_zero (by omega) hl]
  have f0 : w.frozen? ⟨b, 64, none⟩ = false := free_of hb
  have f1 : w.frozen? ⟨b, st.length, none⟩ = false := free_of hb
  have hne : st.length ≠ 64 := by omega
  have HB := Lib.hid hb
  clear hb
  have hI : (st.length : Int) < 64 := by omega
  go_enter Tryz.func110, Tryz.ntmps110
  go_wp2
  go_region
  go_wp2
  go_ret
  refine ⟨rfl, ?_⟩
  have h := (((PutB.refl HB.out).set st.length (.int .i64 t)).drew).set 64 (.int .i64 (st.length + 1))
  rw [stk_push hl] at h
  exact h

theorem popTop_mem (st : List Int) (t : Int) : (st ++ [t]).length = st.length + 1 := by simp
theorem anyEq_drop {of : List Int} {i : Nat} {x t : Int} (h : of[i]? = some x) : anyEq (of.drop i) t = (x == t || anyEq (of.drop (i + 1)) t) := by
  rw [drop_cons h]
  simp [anyEq]

theorem pop_none (of : List Int) (v : Value) (b : Nat) (w : World) (hb : w.heap[b]? = some (.cells (stk []).toArray 122 (0, 0))) (hs : Sl encI 1 w v of) :
    Calls Tryz.prog 111 #[.pointer (some ⟨b, 0, none⟩), v] w fun e w' => e = .returned (.bool false) ∧ w = w' := by
  obtain ⟨A, c, rfl, -, -, -⟩ := hs
  have c0 : w.cell? ⟨b, 64, none⟩ = some (.int .i64 0) := by rw [cell_of hb, stk_many (by simp)]; rfl
  clear hb
  go_enter Tryz.func111, Tryz.ntmps111
  go_wp2
  go_ret
  exact ⟨rfl, rfl⟩

set_option maxHeartbeats 1000000 in
theorem pop_c (st : List Int) (t : Int) (of : List Int) (v : Value) (b : Nat) (w : World) (hb : w.heap[b]? = some (.cells (stk (st ++ [t])).toArray 122 (0, 0))) (hl : st.length < 64) (hs : Sl encI 1 w v of)
    (hne : ∀ A n c a, v = .slice A n c → A = some a → a.block ≠ b) :
    Calls Tryz.prog 111 #[.pointer (some ⟨b, 0, none⟩), v] w fun e w' => e = .returned (.bool (anyEq of t)) ∧ PutB b (stk st) 122 w w' := by
  obtain ⟨A, c, rfl, hlc, hc, hcell⟩ := hs
  have hbig : of.length ≤ 9223372036854775807 := Nat.le_trans hlc hc
  have c0 : w.cell? ⟨b, 64, none⟩ = some (.int .i64 (st.length + 1)) := by rw [cell_of hb, stk_many (by simp; omega)]; simp
  have c1 : w.cell? ⟨b, st.length, none⟩ = some (.int .i64 t) := by rw [cell_of hb, stk_at (by simp; omega) (by simp)]; simp
  have f0 : w.frozen? ⟨b, 64, none⟩ = false := free_of hb
  have f1 : w.frozen? ⟨b, st.length, none⟩ = false := free_of hb
  have hn64 : st.length ≠ 64 := by omega
  have HB := Lib.hid hb
  have HC := Lib.hid hcell
  have HNE := Lib.hid hne
  clear hb hcell hne
  have hI : (st.length : Int) < 64 := by omega
  go_enter Tryz.func111, Tryz.ntmps111
  go_wp2
  go_region
  go_wp2
  go_region
  go_wp2
  have hP : ((stk (st ++ [t])).set 64 (.int .i64 st.length)).set st.length (.int .i64 0) = stk st := stk_pop hl
  have HP := Lib.hid hP
  clear hP
  go_loopg [39] of.length (fun gg s39 wr => ∃ kk : Nat, kk ≤ of.length ∧ of.length - kk ≤ gg ∧ s39 = .int .i64 kk ∧ Aside (PutB b (stk st) 122 w wr) ∧ Aside (anyEq (of.drop kk) t = anyEq of t))
  case atStart =>
    refine ⟨0, Nat.zero_le _, by omega, rfl, (show Aside _ from ?_), rfl⟩
    have h := (((((PutB.refl HB.out).set 64 (.int .i64 st.length)).drew).set st.length (.int .i64 0)).drew)
    rw [HP.out] at h
    exact h
  case round =>
    obtain ⟨kk, hkk, hg, rfl, BP, HF⟩ := hrel
    by_cases hlt : kk < of.length
    · obtain ⟨x, hx⟩ : ∃ x, of[kk]? = some x := ⟨of[kk], List.getElem?_eq_getElem hlt⟩
      obtain ⟨b', off, rfl, hb, hcx⟩ := HC.out kk x hx
      have hbb : b' ≠ b := HNE.out _ _ _ _ rfl rfl
      have hX := Lib.hid hx
      clear hx
      have hltz : (kk : Int) < (of.length : Int) := by omega
      have c2 : wr.cell? ⟨b', off + kk, none⟩ = some (.int .i64 x) := by
        have h := (World.cell?_of_block (a := ⟨b', off + kk * 1 + 0, none⟩) (BP.out.block b' hb hbb)).trans (hcx 0 _ rfl)
        simpa using h
      clear hcx
      cases hq : (x == t) with
      | true =>
        go_wp2
        go_ret
        exact ⟨ret_b (by rw [← HF.out, anyEq_drop hX.out, hq, Bool.true_or]), BP.out⟩
      | false =>
        go_wp2
        go_roundg (of.length - (kk + 1))
        case measure => omega
        case rel =>
          refine ⟨kk + 1, by omega, by omega, by go_num, BP, (show Aside _ from ?_)⟩
          have h1 := HF.out
          rw [anyEq_drop hX.out, hq, Bool.false_or] at h1
          exact h1
    · have : kk = of.length := by omega
      have hltz : ¬ (kk : Int) < (of.length : Int) := by omega
      subst this
      go_wp2
      go_ret
      refine ⟨ret_b ?_, BP.out⟩
      rw [← HF.out, List.drop_length]
      rfl
end Go.Proofs.YtefpgjocfgeenaaGreatDoor
