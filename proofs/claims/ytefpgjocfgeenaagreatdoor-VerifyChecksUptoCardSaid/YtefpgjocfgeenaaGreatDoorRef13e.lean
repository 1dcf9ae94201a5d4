/- capstanref13.cells: what each call answers. -/
import Derived.Test.YtefpgjocfgeenaaGreatDoorRef13c
import Derived.Deep.RegionHeld3
namespace Go.Proofs.YtefpgjocfgeenaaGreatDoor
open Go.RowKit Cap
set_option maxRecDepth 100000

theorem endsR_drop {n : Int} {xs : List Int} {k : Nat} {c : Int} (h : xs[k]? = some c) : endsR n (xs.take k) (xs.drop k) = (if c < 0 then false else if n ≤ c then false else if (xs.take k).contains c then false else endsR n (xs.take (k + 1)) (xs.drop (k + 1))) := by
  obtain ⟨hk, rfl⟩ := List.getElem?_eq_some_iff.1 h
  rw [drop_cons (List.getElem?_eq_getElem hk), endsR, ← List.take_succ_eq_append_getElem hk]
/-- Appending to a row of the call's own, at the operation itself. -/
theorem wp_own_app {P : Program} {α : Type} {o : Oper} {a : Act} {K : Act → World → Prop} {Q : Exit → Act → World → Prop} (w : World) (s x : Operand) (t : TypeId)
    (ho : o.op = .call { callee := .builtin .append, args := #[s, x], argTypes := #[t, t] })
    (base : Nat) (e : TypeId) (z : Value) (k bytes : Nat) (ht : P.underlying t = some (.slice e)) (hi : InfoIs P e z k bytes) (hzs : z.cells.size = k) (hsz : 0 < k)
    (enc : α → List Value) (hk : ∀ x, (enc x).length = k) (h1 : ∀ x, ∀ u ∈ enc x, u.oneCell' = true)
    (v : Value) (n : Nat) (xs : List Value) (hs : a.eval s = v) (hown : w.ownsRow base e k v n xs)
    (vx : Value) (ys : List α) (hx : a.eval x = vx) (hsl : Sl enc k w vx ys)
    (h63 : n + ys.length ≤ maxLen) (hbytes : (n + ys.length) * bytes ≤ 140737488355328) (hbase : base ≤ w.heap.size)
    (h : ∀ v' w', w'.ownsRow base e k v' (n + ys.length) (xs ++ ys.flatMap enc) → w.grownBy w' v.ownBlock → K (a.put o.dst v') w') : o.wp P a w K Q := by
  obtain ⟨v', w', hr, h2, h3⟩ := run_own_app (P := P) w base t o.type e z k bytes ht hi hzs hsz v n xs hown enc hk h1 vx ys hsl h63 hbytes hbase
  unfold Oper.wp execOp
  simp only [ho, resolve, invoke, builtin, Sem.run_bind, Sem.run_pure, Result.andThen_ok, List.map_toArray, List.map_cons, List.map_nil, hs, hx, hr]
  exact h _ _ h2 h3
set_option maxHeartbeats 4000000 in
theorem rcells_c (x : Img) (vx : Value) (w : World) (hx : ImgV w vx x) (hl : x.ins.length + x.outs.length ≤ 1099511627776) :
    Calls Tryz.prog 114 #[vx] w fun e w' => e = .returned (.bool (decide ((x.ins ++ x.outs).length ≤ x.types.length) && endsR x.types.length [] (x.ins ++ x.outs))) ∧ Below w.heap.size w w' := by
  generalize hLe : x.ins ++ x.outs = L
  obtain ⟨vt, vf, vi, vo, vc, rfl, h1, h2, h3, h4, h5⟩ := hx
  have H3 := Lib.hid h3
  have H4 := Lib.hid h4
  obtain ⟨At, ct, rfl, lt1, lt2, -⟩ := h1
  obtain ⟨A3, c3, rfl, l3, m3, -⟩ := h3
  obtain ⟨A4, c4, rfl, l4, m4, -⟩ := h4
  clear h2 h5
  go_enter Tryz.func114, Tryz.ntmps114
  go_upto_region 1 with fail
  have x3 : (w.alloc (.cells #[.string x.name, .slice At x.types.length ct, vf, .slice A3 x.ins.length c3, .slice A4 x.outs.length c4, vc] 26)).cell? ⟨w.heap.size, 3, none⟩ = some (.slice A3 x.ins.length c3) := cell_of_row _ _ 3 _ _ _ (heap_alloc_new w _)
  have x4 : (w.alloc (.cells #[.string x.name, .slice At x.types.length ct, vf, .slice A3 x.ins.length c3, .slice A4 x.outs.length c4, vc] 26)).cell? ⟨w.heap.size, 4, none⟩ = some (.slice A4 x.outs.length c4) := cell_of_row _ _ 4 _ _ _ (heap_alloc_new w _)
  have hB0 : Below w.heap.size w (w.alloc (.cells #[.string x.name, .slice At x.types.length ct, vf, .slice A3 x.ins.length c3, .slice A4 x.outs.length c4, vc] 26)) := below_alloc (Below.refl _ _)
  have hrow := heap_alloc_new w (.cells #[.string x.name, .slice At x.types.length ct, vf, .slice A3 x.ins.length c3, .slice A4 x.outs.length c4, vc] 26)
  generalize w.alloc (.cells #[.string x.name, .slice At x.types.length ct, vf, .slice A3 x.ins.length c3, .slice A4 x.outs.length c4, vc] 26) = W at x3 x4 hB0 hrow ⊢
  refine wp_region_held_drew (S := fun W' => W'.cell? ⟨w.heap.size, 3, none⟩ = some (.slice A3 x.ins.length c3) ∧ W'.cell? ⟨w.heap.size, 4, none⟩ = some (.slice A4 x.outs.length c4)) (by kernel_rfl) ?_ (fun hHeld => ?_)
  · simpa using ⟨x3, x4⟩
  (refine take_at (i := 1) (v := ?_) (some 7) rfl (by rfl) (by kernel_rfl) (by kernel_rfl) (by kernel_rfl) (fun _ _ _ h => h) (Or.inl ⟨by rfl, ?_⟩) (by assumption) ?_; rotate_left; (focus ((intro w hSw; (try dsimp only at hSw); go_simp); (try with_reducible rfl))); (simp only [Act.put, List.setIfInBounds_toArray, List.set_cons_zero, List.set_cons_succ]))
  (refine take_at (i := 2) (v := ?_) (some 8) rfl (by rfl) (by kernel_rfl) (by kernel_rfl) (by kernel_rfl) (fun _ _ _ h => h) (Or.inl ⟨by rfl, ?_⟩) (by assumption) ?_; rotate_left; (focus ((intro w hSw; (try dsimp only at hSw); go_simp); (try with_reducible rfl))); (simp only [Act.put, List.setIfInBounds_toArray, List.set_cons_zero, List.set_cons_succ]))
  (refine take_at (i := 4) (v := ?_) (some 10) rfl (by rfl) (by kernel_rfl) (by kernel_rfl) (by kernel_rfl) (fun _ _ _ h => h) (Or.inl ⟨by rfl, ?_⟩) (by assumption) ?_; rotate_left; (focus ((intro w hSw; (try dsimp only at hSw); go_simp); (try with_reducible rfl))); (simp only [Act.put, List.setIfInBounds_toArray, List.set_cons_zero, List.set_cons_succ]))
  (refine take_at (i := 5) (v := ?_) (some 11) rfl (by rfl) (by kernel_rfl) (by kernel_rfl) (by kernel_rfl) (fun _ _ _ h => h) (Or.inl ⟨by rfl, ?_⟩) (by assumption) ?_; rotate_left; (focus ((intro w hSw; (try dsimp only at hSw); go_simp); (try with_reducible rfl))); (simp only [Act.put, List.setIfInBounds_toArray, List.set_cons_zero, List.set_cons_succ]))
  have hWs : W.drew.heap.size = W.heap.size := rfl
  have hwW : w.heap.size < W.heap.size := (Array.getElem?_eq_some_iff.1 hrow).1
  (refine wpAnyH_ready (rs := [0]) (by kernel_rfl) (by simp) ?_; refine AllReadyH.cons (o := ⟨some 6, .buildSlice 22 0 #[], _, _, _, none⟩) (by rfl) (fun K hK => ?_) AllReadyH.nil; rw [if_pos (by rfl)])
  refine wp_val (v := .slice (some ⟨W.heap.size, 0, none⟩) 0 0) (w' := W.drew.alloc (.cells #[] 3)) (by go_simp) ?_
  have hb0 : Below W.drew.heap.size W.drew (W.drew.alloc (.cells #[] 3)) := below_alloc (Below.refl _ _)
  refine hK.out _ _ ⟨(hb0.cell (p := ⟨w.heap.size, 3, none⟩) hwW).trans hHeld.1, (hb0.cell (p := ⟨w.heap.size, 4, none⟩) hwW).trans hHeld.2⟩ (fun hHeld2 => ?_)
  clear hK K
  try simp only [Act.put, List.setIfInBounds_toArray, List.set_cons_zero, List.set_cons_succ]
  (refine wpAnyH_ready (rs := [3]) (by kernel_rfl) (by simp) ?_; refine AllReadyH.cons (o := ⟨some 9, .call { callee := .builtin .append, args := #[.tmp 6, .tmp 8], argTypes := #[22, 22] }, _, _, _, none⟩) (by rfl) (fun K hK => ?_) AllReadyH.nil; rw [if_pos (by rfl)])
  have hB1 : Below w.heap.size w (W.drew.alloc (.cells #[] 3)) := below_alloc (below_drew hB0)
  refine wp_lit_app _ (.tmp 6) (.tmp 8) 22 rfl W.heap.size 3 _ 1 8 Tryz.underlying22 info_int rfl (by decide) encI encI_len one_I ⟨W.heap.size, rfl, Nat.le_refl _, heap_alloc_new W.drew _⟩ x.ins (H3.out.below hB1) (by unfold maxLen; omega) (by omega) ?_
  intro v1 w1 ho1 hb1
  have hsz1 : W.heap.size + 1 ≤ w1.heap.size := by have := hb1.size; simpa using this
  refine hK.out _ _ ⟨(hb1.cell (p := ⟨w.heap.size, 3, none⟩) (by simp; omega)).trans hHeld2.1, (hb1.cell (p := ⟨w.heap.size, 4, none⟩) (by simp; omega)).trans hHeld2.2⟩ (fun hHeld3 => ?_)
  clear hK K
  try simp only [Act.put, List.setIfInBounds_toArray, List.set_cons_zero, List.set_cons_succ]
  (refine wpAnyH_ready (rs := [6]) (by kernel_rfl) (by simp) ?_; refine AllReadyH.cons (o := ⟨some 12, .call { callee := .builtin .append, args := #[.tmp 9, .tmp 11], argTypes := #[22, 22] }, _, _, _, none⟩) (by rfl) (fun K hK => ?_) AllReadyH.nil; rw [if_pos (by rfl)])
  have hB2 := below_call hb1 hB1
  refine wp_own_app _ (.tmp 9) (.tmp 11) 22 rfl W.heap.size 3 _ 1 8 Tryz.underlying22 info_int rfl (by decide) encI encI_len one_I v1 _ _ rfl ho1 _ x.outs rfl (H4.out.below hB2) (by unfold maxLen; omega) (by omega) (by omega) ?_
  intro v2 w2 ho2 hg2
  have hB3 : Below w.heap.size w w2 := below_grown hB2 hg2 (fun g hg => by have := own_ge (w := W) ho1 (Nat.le_refl _) g hg; omega)
  have hxr : ∀ j v, (w1.cell? ⟨w.heap.size, j, none⟩ = some v) → w2.cell? ⟨w.heap.size, j, none⟩ = some v := fun j v h => by
    have h9 : w2.heap[w.heap.size]? = w1.heap[w.heap.size]? := hg2.block _ (by omega) (fun e => by have := own_ge (w := W) ho1 (Nat.le_refl _) _ e.symm; omega)
    exact (World.cell?_of_block (a := ⟨w.heap.size, j, none⟩) h9).trans h
  refine hK.out _ _ ⟨hxr _ _ hHeld3.1, hxr _ _ hHeld3.2⟩ (fun hHeld4 => ?_)
  clear hK K
  try simp only [Act.put, List.setIfInBounds_toArray, List.set_cons_zero, List.set_cons_succ]
  (refine take_at (i := 7) (v := ?_) (some 3) rfl (by rfl) (by kernel_rfl) (by kernel_rfl) (by kernel_rfl) (fun _ _ _ h => h) (Or.inl ⟨by rfl, ?_⟩) (by assumption) ?_; rotate_left; (focus ((intro w hSw; (try dsimp only at hSw); go_simp); (try with_reducible rfl))); (simp only [Act.put, List.setIfInBounds_toArray, List.set_cons_zero, List.set_cons_succ]))
  refine wpAnyH_done (by kernel_rfl) ?_ _
  rw [← List.flatMap_append] at ho2
  have hsl := Sl.own encI_len ho2 (by simp)
  obtain ⟨A2, n2, rfl⟩ := own_slice ho2
  have hx1 : w2.cell? ⟨w.heap.size, 1, none⟩ = some (.slice At x.types.length ct) := by
    refine hxr _ _ ((hb1.cell (p := ⟨w.heap.size, 1, none⟩) (by simp; omega)).trans ?_)
    refine (hb0.cell (p := ⟨w.heap.size, 1, none⟩) hwW).trans ?_
    exact cell_of_row _ _ 1 _ _ _ hrow
  clear hHeld hHeld2 hHeld3 hHeld4 hxr ho1 ho2 hg2 x3 x4 hb0 hb1 hrow
  have hxw2 : w.heap.size < w2.heap.size := World.block_lt_of_cell? _ _ hx1
  have hLl : x.ins.length + x.outs.length = L.length := by rw [← hLe]; simp
  rw [hLe] at hsl
  rw [hLl] at hsl ⊢ hl
  obtain ⟨A, c, hae, hc1, hc2, hcell⟩ := hsl
  injection hae with hae1 _ hae2
  subst hae1 hae2
  have HC := Lib.hid hcell
  clear hcell hLe hLl H3 H4
  (try dsimp only)
  by_cases hlen : L.length ≤ x.types.length
  case neg =>
    have hlz : (x.types.length : Int) < (L.length : Int) := by omega
    have HR := Lib.hid (show (decide (L.length ≤ x.types.length) && endsR x.types.length [] L) = false by simp [hlen])
    clear hlen
    go_wp2
    go_ret
    exact ⟨by rw [HR.out]; rfl, by (repeat' (first | (with_reducible exact Below.refl _ _) | (with_reducible refine below_alloc ?_) | (with_reducible refine below_drew ?_) | (with_reducible refine below_drewN ?_) | (with_reducible refine below_set (by simp; omega) ?_) | (with_reducible refine below_call (by with_reducible assumption) ?_)))⟩
  have hlz : ¬ (x.types.length : Int) < (L.length : Int) := by omega
  have HR := Lib.hid (show (decide (L.length ≤ x.types.length) && endsR x.types.length [] L) = endsR x.types.length [] L by simp [hlen])
  clear hlen
  go_wp2
  go_loopg [4] L.length (fun gg s4 wr => ∃ k : Nat, s4 = .int .i64 k ∧ k ≤ L.length ∧ L.length - k ≤ gg ∧ Aside (Below w2.heap.size w2 wr) ∧ Aside (endsR x.types.length (L.take k) (L.drop k) = endsR x.types.length [] L))
  case atStart => exact ⟨0, rfl, Nat.zero_le _, by omega, (show Aside _ from Below.refl _ _), rfl⟩
  case round =>
    obtain ⟨i, rfl, hi, hg, HB, HA⟩ := hrel
    have hB := HB.out
    have hbs := hB.size
    have hx2 : wr.cell? ⟨w.heap.size, 1, none⟩ = some (.slice At x.types.length ct) := (hB.cell (p := ⟨w.heap.size, 1, none⟩) hxw2).trans hx1
    by_cases hlt : i < L.length
    · have hltz : (i : Int) < (L.length : Int) := by omega
      have hi0 : (0 : Int) ≤ (i : Int) := Int.natCast_nonneg _
      obtain ⟨ci, hci⟩ : ∃ ci, L[i]? = some ci := ⟨L[i], List.getElem?_eq_getElem hlt⟩
      obtain ⟨bl, ol, rfl, hbl, hcl⟩ := HC.out i ci hci
      have e1 : wr.cell? ⟨bl, ol + i, none⟩ = some (.int .i64 ci) := (hB.cell (p := ⟨bl, ol + i, none⟩) hbl).trans (by simpa using hcl 0 _ rfl)
      have HS := Lib.hid ((HA.out).symm.trans (endsR_drop hci))
      have HCI := Lib.hid hci
      clear hci hcl
      by_cases j1 : ci < 0
      · have HF := Lib.hid (show endsR x.types.length [] L = false by rw [HS.out, if_pos j1])
        go_upto_region 7 with fail
        go_quiet (fail)
        go_wp2
        go_ret
        exact ⟨by rw [HR.out, HF.out]; rfl, by (repeat' (first | (with_reducible exact Below.refl _ _) | (with_reducible refine below_alloc ?_) | (with_reducible refine below_drew ?_) | (with_reducible refine below_drewN ?_) | (with_reducible refine below_set (by simp; omega) ?_) | (with_reducible refine below_call (by with_reducible assumption) ?_)))⟩
      by_cases j2 : (x.types.length : Int) ≤ ci
      · have HF := Lib.hid (show endsR x.types.length [] L = false by rw [HS.out, if_neg j1, if_pos j2])
        go_upto_region 7 with fail
        go_quiet (fail)
        go_wp2
        go_ret
        exact ⟨by rw [HR.out, HF.out]; rfl, by (repeat' (first | (with_reducible exact Below.refl _ _) | (with_reducible refine below_alloc ?_) | (with_reducible refine below_drew ?_) | (with_reducible refine below_drewN ?_) | (with_reducible refine below_set (by simp; omega) ?_) | (with_reducible refine below_call (by with_reducible assumption) ?_)))⟩
      have HS2 := Lib.hid (show endsR x.types.length [] L = if (L.take i).contains ci then false else endsR x.types.length (L.take (i + 1)) (L.drop (i + 1)) by rw [HS.out, if_neg j1, if_neg j2])
      go_upto_region 7 with fail
      go_quiet (fail)
      go_wp2
      go_loopg [5] i (fun gg s5 wr => ∃ k : Nat, s5 = .int .i64 k ∧ k ≤ i ∧ i - k ≤ gg ∧ Aside (Below w2.heap.size w2 wr) ∧ Aside ((L.take k).contains ci = false))
      case atStart => exact ⟨0, rfl, Nat.zero_le _, by omega, (show Aside _ from by first | exact hB | exact below_drewN hB), rfl⟩
      case round =>
        obtain ⟨k, rfl, hk, hgk, HB2, HN⟩ := hrel
        have hB2 := HB2.out
        have e2 : wr.cell? ⟨bl, ol + i, none⟩ = some (.int .i64 ci) := by
          obtain ⟨bl', ol', e', hbl', hcl'⟩ := HC.out i ci HCI.out
          injection e' with e'
          injection e' with ea eb
          subst ea eb
          exact (hB2.cell (p := ⟨bl, ol + i, none⟩) hbl).trans (by simpa using hcl' 0 _ rfl)
        by_cases hlk : k < i
        · have hlkz : (k : Int) < (i : Int) := by omega
          have hlkl : (k : Int) < (L.length : Int) := by omega
          have hk0 : (0 : Int) ≤ (k : Int) := Int.natCast_nonneg _
          obtain ⟨ck, hck⟩ : ∃ ck, L[k]? = some ck := ⟨L[k]'(by omega), List.getElem?_eq_getElem (by omega)⟩
          obtain ⟨bl', ol', e', hbl', hcl'⟩ := HC.out k ck hck
          injection e' with e'
          injection e' with ea eb
          subst ea eb
          have e3 : wr.cell? ⟨bl, ol + k, none⟩ = some (.int .i64 ck) := (hB2.cell (p := ⟨bl, ol + k, none⟩) hbl).trans (by simpa using hcl' 0 _ rfl)
          have HCK := Lib.hid hck
          clear hck hcl'
          cases hq : (ck == ci) with
          | true =>
            have HF := Lib.hid (show endsR x.types.length [] L = false by
              rw [HS2.out, if_pos ?_]
              rw [List.contains_iff_mem]
              obtain rfl : ck = ci := by simpa using hq
              have : (L.take i)[k]? = some ck := by rw [List.getElem?_take_of_lt hlk]; exact HCK.out
              exact List.mem_of_getElem? this)
            go_upto_region 12 with fail
            go_quiet (fail)
            go_wp2
            go_ret
            exact ⟨by rw [HR.out, HF.out]; rfl, by (repeat' (first | (with_reducible exact Below.refl _ _) | (with_reducible refine below_alloc ?_) | (with_reducible refine below_drew ?_) | (with_reducible refine below_drewN ?_) | (with_reducible refine below_set (by simp; omega) ?_) | (with_reducible refine below_call (by with_reducible assumption) ?_)))⟩
          | false =>
            have HN2 := Lib.hid (show (L.take (k + 1)).contains ci = false by
              obtain ⟨hkl, hkk⟩ := List.getElem?_eq_some_iff.1 HCK.out
              rw [List.take_succ_eq_append_getElem hkl, hkk, List.contains_eq_any_beq, List.any_append, ← List.contains_eq_any_beq, HN.out]
              have hq2 : (ci == ck) = false := by rw [beq_eq_false_iff_ne] at hq ⊢; exact fun e => hq e.symm
              simp [hq2])
            go_upto_region 12 with fail
            go_quiet (fail)
            go_wp2
            go_roundg (i - (k + 1))
            case measure => omega
            case rel => exact ⟨k + 1, by go_num, by omega, by omega, below_drewN hB2, HN2.out⟩
        · obtain rfl : k = i := by omega
          have hlkz : ¬ (k : Int) < (k : Int) := by omega
          go_wp2
          go_roundg (L.length - (k + 1))
          case measure => omega
          case rel =>
            refine ⟨k + 1, by go_num, by omega, by omega, hB2, (show Aside _ from ?_)⟩
            have h1 := HS2.out
            rw [HN.out, if_neg (by simp)] at h1
            exact h1.symm
    · obtain rfl : i = L.length := by omega
      have hltz : ¬ (L.length : Int) < (L.length : Int) := by omega
      have HF := Lib.hid (show endsR x.types.length [] L = true by
        rw [← HA.out, List.drop_length]
        rfl)
      go_wp2
      go_ret
      exact ⟨by rw [HR.out, HF.out]; rfl, by (repeat' (first | (with_reducible exact Below.refl _ _) | (with_reducible refine below_alloc ?_) | (with_reducible refine below_drew ?_) | (with_reducible refine below_drewN ?_) | (with_reducible refine below_set (by simp; omega) ?_) | (with_reducible refine below_call (by with_reducible assumption) ?_)))⟩
end Go.Proofs.YtefpgjocfgeenaaGreatDoor
