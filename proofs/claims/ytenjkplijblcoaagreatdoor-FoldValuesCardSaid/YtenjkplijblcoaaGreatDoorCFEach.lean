/- fold.each and the iterator that it hands back. -/
import Derived.Test.YtenjkplijblcoaaGreatDoorCLaw
import Derived.Test.YtenjkplijblcoaaGreatDoorCFClone
import Derived.Test.YtenjkplijblcoaaGreatDoorCTree5
import Derived.OwnWalkIn
import Derived.LoopNIn
import Derived.LoopIn
import Derived.RangeFuncBox
import Derived.Maps.AppendAt
import Derived.Lib.BufferOwn
set_option linter.unusedSimpArgs false
set_option linter.unusedVariables false
namespace Go.Proofs.YtenjkplijblcoaaGreatDoor
open Go.RowKit Cap
set_option maxRecDepth 100000
attribute [local go_sem] Oper.semAt_some

theorem each_c (A : Option Addr) (n c : Nat) (w : World) : Calls Tryz.prog 25 #[.slice A n c] w fun e w' => e = .returned (.func (.func 43) #[] #[.pointer (some ⟨w.heap.size, 0, none⟩)]) ∧ w' = w.alloc (.cells #[.slice A n c] 23) := by
  go_enter Tryz.func25, Tryz.ntmps25
  go_wp2
  go_ret
  exact ⟨rfl, rfl⟩
def IRow (n1 : Nat) (W : World) (v : Value) (st : List Int) : Prop := W.ownsRow n1 3 1 v st.length (st.flatMap encI)
theorem irow_own {n1 : Nat} {W : World} {v : Value} {st : List Int} (h : IRow n1 W v st) : OwnRow 3 n1 v.ownBlock W := by
  intro r hr
  rcases h.2 with ⟨rfl, _⟩ | ⟨g, cap, cur, rfl, hb, hg, _⟩
  · simp [Value.ownBlock] at hr
  · simp [Value.ownBlock] at hr
    subst hr
    exact ⟨hb, _, _, hg⟩
theorem irow_cons {base : Nat} {w : World} {v : Value} {a : Int} {r : List Int} (h : w.ownsRow base 3 1 v (a :: r).length ((a :: r).flatMap encI)) : ∃ g cap, v = .slice (some ⟨g, 0, none⟩) (r.length + 1) cap ∧ w.cell? ⟨g, 0, none⟩ = some (.int .i64 a) := by
  rcases own_form h with ⟨_, e⟩ | ⟨g, cap, rfl, _, _, _⟩
  · cases e
  · obtain ⟨A', c', e', _, _, hcell⟩ := Sl.own encI_len h rfl
    obtain ⟨b', off', he, hb', hcx⟩ := hcell 0 _ rfl
    injection e' with e1 e2 e3
    subst e1 e3
    injection he with he
    injection he with e1 e2 _
    subst e1 e2
    exact ⟨g, cap, rfl, by simpa using hcx 0 _ rfl⟩
theorem irow_own_lt {n1 : Nat} {W : World} {v : Value} {st : List Int} (h : IRow n1 W v st) : ∀ r, v.ownBlock = some r → n1 ≤ r ∧ r < W.heap.size := fun r hr => by
  obtain ⟨h1, c, fr, h2⟩ := irow_own h r hr
  exact ⟨h1, (Array.getElem?_eq_some_iff.1 h2).1⟩
theorem irow_keep {n1 : Nat} {A B : World} {v : Value} {st : List Int} (h : IRow n1 A v st) (hk : ∀ r, v.ownBlock = some r → B.heap[r]? = A.heap[r]?) : IRow n1 B v st := by
  refine ⟨h.1, ?_⟩
  rcases h.2 with h | ⟨g, cap, cur, rfl, hb, hg, rest⟩
  · exact .inl h
  · exact .inr ⟨g, cap, cur, rfl, hb, (hk g rfl).trans hg, rest⟩
theorem each_handed {n1 : Nat} {wr w3 w4 w5 : World} {o : Obj} {sv v4 : Value} {xs : List Int} {g5 : Nat}
    (hsv : ∀ r, sv.ownBlock = some r → n1 ≤ r ∧ r < wr.heap.size) (h13 : n1 ≤ wr.heap.size) (h3 : wr.heap.size ≤ w3.heap.size) (ho4 : IRow w3.heap.size w4 v4 xs)
    (hg : (w4.alloc o).grownBy w5 sv.ownBlock) (hor : sv.ownBlock = some g5 ∨ g5 = w4.heap.size + 1) : Handed 3 n1 (some g5) w5 v4 xs := by
  have hlt := irow_own_lt ho4
  have hne : ∀ r, v4.ownBlock = some r → sv.ownBlock ≠ some r := fun r hr e => by
    have h1 := hsv r e
    have h2 := hlt r hr
    omega
  have h5 : IRow w3.heap.size w5 v4 xs := irow_keep ho4 fun r hr => by
    have h2 := hlt r hr
    exact (hg.block r (by simp; omega) (fun e => hne r hr e.symm)).trans (Below.heap_alloc _ _ r h2.2)
  refine ⟨Sl.own encI_len h5 rfl, fun b hb => ?_⟩
  have h2 := hlt b hb
  obtain ⟨_, c, fr, h6⟩ := irow_own h5 b hb
  refine ⟨by omega, fun e => ?_, c, fr, h6⟩
  injection e with e
  rcases hor with h | h
  · exact hne b hb (by rw [h, e])
  · omega
theorem irow_snoc {n1 m : Nat} {w : World} {v : Value} {st : List Int} {a : Int} (h : w.ownsRow n1 3 1 v (m + 1) ((st.take m).flatMap encI ++ [.int .i64 a])) (hm : m ≤ st.length) : IRow n1 w v (st.take m ++ [a]) := by
  unfold IRow
  rw [List.length_append, List.length_take, Nat.min_eq_left hm, List.flatMap_append]
  exact h
theorem each_own {sv : Value} {g5 H S n c : Nat} (hor : sv.ownBlock = some g5 ∨ g5 = H) (hH : S ≤ H) : (Value.slice (some ⟨g5, 0, none⟩) n c).ownBlock = sv.ownBlock ∨ ∃ r, (Value.slice (some ⟨g5, 0, none⟩) n c).ownBlock = some r ∧ S ≤ r := by
  rcases hor with h | h
  · exact .inl h.symm
  · exact .inr ⟨g5, rfl, by omega⟩
theorem each_rel {n1 bx g5 : Nat} {w0 wr w5 W' : World} {sv : Value} {cs : Obj} (hsv : ∀ r, sv.ownBlock = some r → n1 ≤ r ∧ r < wr.heap.size) (h01 : w0.heap.size ≤ n1) (hbx : bx < n1) (hB : Below w0.heap.size w0 wr) (h1 : n1 ≤ wr.heap.size)
    (hx : wr.heap[bx]? = some cs) (hg : wr.grownBy w5 sv.ownBlock) (hk : KeepE w0.heap.size bx (some g5) w5 W') : Below w0.heap.size w0 W' ∧ W'.heap[bx]? = some cs ∧ n1 ≤ W'.heap.size := by
  refine ⟨(below_grown hB hg (fun r hr => by have := hsv r hr; omega)).trans hk.1, hk.2.1.trans ((hg.block bx (by omega) (fun e => ?_)).trans hx), ?_⟩
  · have := hsv bx e.symm
    omega
  · have h2 := hg.size
    have h3 := hk.1.size
    omega
theorem clone_vals (xs : List Int) (v : Value) (w : World) (hs : Sl encI 1 w v xs) (hn : xs.length ≤ 1048576) (m : Nat) (hm : xs.length = m) :
    Calls Tryz.prog 45 #[v] w fun e w' => ∃ A' c', e = .returned (.slice A' m c') ∧ IRow w.heap.size w' (.slice A' m c') xs ∧ Below w.heap.size w w' ∧ (∀ a r, xs = a :: r → ∃ g', A' = some ⟨g', 0, none⟩ ∧ w'.cell? ⟨g', 0, none⟩ = some (.int .i64 a)) := by
  subst hm
  refine (clone_int xs v w hs hn).mono ?_
  rintro e w' ⟨v', rfl, ho, hb⟩
  obtain ⟨A', c', rfl⟩ := own_slice ho
  refine ⟨A', c', rfl, ho, hb, ?_⟩
  rintro a r rfl
  obtain ⟨g, cap, e, hc⟩ := irow_cons ho
  injection e with e1 e2 e3
  subst e1
  exact ⟨g, rfl, hc⟩
section
variable {P : Program}
/-- append, and where the new slice lies, inside a fence. -/
theorem wpListIn_append_lies {F : Fence} {f : Nat} (w : World) {ops : Array Oper} {rest : List Oper} {o : Oper} {a : Act} {Q : Exit → Act → World → Prop} (hgd : o.guard = none) (s x : Operand) (t : TypeId)
    (ho : o.op = .call { callee := .builtin .append, args := #[s, x], argTypes := #[t, t] })
    (base : Nat) (e : TypeId) (i : TypeInfo) (z : Value) (size bytes : Nat) (ht : P.underlying t = some (.slice e)) (hi : P.info? e = some i) (hz : i.zero = some z)
    (hsize : i.size = size) (hby : i.bytes = bytes) (hzs : z.cells.size = size) (hsz : 0 < size)
    (v : Value) (n : Nat) (xs : List Value) (hs : a.eval s = v) (hown : w.ownsRow base e size v n xs)
    (ad : Addr) (m c : Nat) (news : List Value) (hx : a.eval x = .slice (some ad) m c) (hl : news.length = m * size) (hnews : ∀ j u, news[j]? = some u → w.cell? (ad.add j) = some u) (h1 : ∀ u ∈ news, u.oneCell' = true)
    (hm : 0 < m) (h63 : n + m ≤ maxLen) (hbytes : (n + m) * bytes ≤ 140737488355328) (hbase : base ≤ w.heap.size) (H : Nat) (hH : w.heap.size = H)
    (h : ∀ g cap w', w'.ownsRow base e size (.slice (some ⟨g, 0, none⟩) (n + m) cap) (n + m) (xs ++ news) → w.grownBy w' v.ownBlock → (v.ownBlock = some g ∨ g = H) → g < w'.heap.size → wpListIn F f P ops Q rest (a.put o.dst (.slice (some ⟨g, 0, none⟩) (n + m) cap)) w') :
    wpListIn F f P ops Q (o :: rest) a w := by
  refine wpListIn_plain hgd fun K hK' => ?_
  obtain ⟨g, cap, w', hr, h2, h3, h4, h5⟩ := run_append_lies (P := P) w t o.type base e i z size bytes ht hi hz hsize hby hzs hsz v n xs hown ad m c news hl hnews h1 hm h63 hbytes hbase H hH
  unfold Oper.wpIn
  refine ⟨?_, ?_⟩
  · simp [Oper.about, ho, resolve, Target.leads, Sem.run_pure]
  · rw [Oper.semAt_plain F _ _ (by rw [ho]; intro c hc'; cases hc')]
    simp [execOp, ho, resolve, invoke, builtin, hs, hx, hr, Result.andThen]
    exact hK' _ _ (h g cap w' h2 h3 h4 h5)
end
theorem grown_below {w w' : World} (h : Below w.heap.size w w') (row : Option Nat) : w.grownBy w' row := ⟨h.os, h.tape, h.output, h.size, fun k hk _ => h.block k hk⟩
theorem grown_trans {a b c : World} {row : Option Nat} (h : a.grownBy b row) (k : b.grownBy c row) : a.grownBy c row :=
  ⟨k.os.trans h.os, k.tape.trans h.tape, k.output.trans h.output, Nat.le_trans h.size k.size, fun i hi hne => (k.block i (Nat.lt_of_lt_of_le hi h.size) hne).trans (h.block i hi hne)⟩
set_option maxHeartbeats 8000000 in
theorem each1_c (x : List Prt) (hfl : FlatOk x) (h500 : x.length ≤ 500) (vx : Value) (w0 : World) (hx : Sl encPrt 5 w0 vx x) (w : World) (hw : Below w0.heap.size w0 w) (bx : Nat) (hbx : w.heap[bx]? = some (.cells #[vx] 23 (0, 0))) :
    EachC Tryz.prog 3 43 #[.pointer (some ⟨bx, 0, none⟩)] w0.heap.size bx x.length (valsAt x) w := by
  intro l J W hW hab hY h0
  have hbxl : bx < w.heap.size := (Array.getElem?_eq_some_iff.1 hbx).1
  have hbxW : bx < W.heap.size := Nat.lt_of_lt_of_le hbxl hW.size
  have hbx0 : W.heap[bx]? = some (.cells #[vx] 23 (0, 0)) := (hW.block bx hbxl).trans hbx
  have HBX := Lib.hid hbx0
  have hW0 : Below w0.heap.size w0 W := hw.trans (hW.mono hw.size)
  have h0W := hW0.size
  have HB0 := Lib.hid hW0
  have HAB := Lib.hid hab
  have HY := Lib.hid hY
  have HJ0 := Lib.hid h0
  have cb := cell_of_row _ _ 0 _ _ _ hbx0
  simp at cb
  obtain ⟨Ax, cx, rfl, hxl, hxm, hxc⟩ := hx
  have HXC := Lib.hid hxc
  have HFL := Lib.hid hfl
  clear hbx hbx0 hW0 hW hab hY h0 hxc hw hfl hbxl
  obtain ⟨i, hi1, hi2, hi3, hi4⟩ := info_int.parts
  have hfT : Fence.wide.fn 44 := trivial
  have hfC : Fence.wide.fn 45 := trivial
  refine (callsIn_wide (n := 4)).1 ?_
  refine callsIn_of_wp Tryz.func43 rfl trivial ?_ rfl
  simp only [Tryz.ntmps43, List.size_toArray, List.length_cons, List.length_nil, Nat.reduceAdd, Nat.reduceSub, Array.replicate_succ, Array.replicate_zero, List.push_toArray, List.append_toArray, List.nil_append, List.cons_append]
  gi_wp2
  gi_loopw [3, 11] (fun s3 s11 wr => ∃ (k : Nat) (sv : Value), sv = s3 ∧ s11 = .int .i64 k ∧ k ≤ x.length ∧ Aside (IRow W.heap.size wr s3 (stackAt x k)) ∧ Aside (J k s3.ownBlock wr) ∧ Aside (Below w0.heap.size w0 wr) ∧ Aside (wr.heap[bx]? = some (.cells #[.slice Ax x.length cx] 23 (0, 0))) ∧ W.heap.size ≤ wr.heap.size) (fun _ s11 _ => x.length - (intOf s11).toNat)
  case atStart => exact ⟨0, _, rfl, rfl, Nat.zero_le _, ⟨by simp [stackAt], .inl ⟨rfl, rfl⟩⟩, HJ0.out, HB0.out, HBX.out, Nat.le_refl _⟩
  case round =>
    obtain ⟨k, sv, rfl, rfl, hk, HO, HJ, HB, HX, hsz⟩ := hrel
    by_cases hlt : k < x.length
    · obtain ⟨p, hp⟩ : ∃ p, x[k]? = some p := ⟨x[k], List.getElem?_eq_getElem hlt⟩
      obtain ⟨b, off, rfl, hb, hcx⟩ := HXC.out k p hp
      have hB := HB.out
      have c0 : wr.cell? ⟨b, off + k * 5, none⟩ = some (.int .i64 p.k) := (hB.cell (p := ⟨b, off + k * 5, none⟩) hb).trans (by simpa using hcx 0 _ rfl)
      have c1 : wr.cell? ⟨b, off + k * 5 + 1, none⟩ = some (.int .i64 p.n) := (hB.cell (p := ⟨b, off + k * 5 + 1, none⟩) hb).trans (by simpa using hcx 1 _ rfl)
      have c2 : wr.cell? ⟨b, off + k * 5 + 2, none⟩ = some (.int .i64 p.t) := (hB.cell (p := ⟨b, off + k * 5 + 2, none⟩) hb).trans (by simpa using hcx 2 _ rfl)
      have c3 : wr.cell? ⟨b, off + k * 5 + 3, none⟩ = some (.string p.s) := (hB.cell (p := ⟨b, off + k * 5 + 3, none⟩) hb).trans (by simpa using hcx 3 _ rfl)
      have c4 : wr.cell? ⟨b, off + k * 5 + 4, none⟩ = some (.string p.f) := (hB.cell (p := ⟨b, off + k * 5 + 4, none⟩) hb).trans (by simpa using hcx 4 _ rfl)
      have hle := HFL.out k p hp
      have hnx : stackAt x (k + 1) = (stackAt x k).take ((stackAt x k).length - takesT p) ++ [((stackAt x k).drop ((stackAt x k).length - takesT p)).headD (k : Int)] := by rw [stackAt, hp]
      have hvl : valsAt x k = (stackAt x k).drop ((stackAt x k).length - takesT p) := by rw [valsAt, hp]
      have hst := stackAt_len x k
      obtain ⟨n, hn'⟩ : ∃ n, takesT p = n := ⟨_, rfl⟩
      have HT := Lib.hid (fun W => (by rw [← hn']; exact ftakes_c p W : Calls Tryz.prog 44 #[prtV p] W fun e w' => e = .returned (.int .i64 (n : Int)) ∧ Below W.heap.size W w'))
      rw [hn'] at hle hnx hvl
      obtain ⟨st, hse⟩ : ∃ st, stackAt x k = st := ⟨_, rfl⟩
      rw [hse] at hle hnx hvl HO hst
      obtain ⟨m, hm2⟩ : ∃ m, st.length = m + n := ⟨st.length - n, by omega⟩
      rw [show st.length - n = m by omega] at hnx hvl
      have hlenz : (st.length : Int) - (n : Int) = (m : Int) := by omega
      have hltz : (k : Int) < (x.length : Int) := by omega
      have hk0 : (0 : Int) ≤ (k : Int) := Int.natCast_nonneg _
      have hm0 : (0 : Int) ≤ (m : Int) := Int.natCast_nonneg _
      have hmle : (m : Int) ≤ (st.length : Int) := by omega
      have hmN : m ≤ st.length := by omega
      have hm500 : m ≤ 500 := by omega
      have HYK := Lib.hid (show ∀ (own' : Value) (W6 : World), IRow W.heap.size W6 own' (stackAt x (k + 1)) → wr.grownBy W6 sv.ownBlock → (own'.ownBlock = sv.ownBlock ∨ ∃ r, own'.ownBlock = some r ∧ wr.heap.size ≤ r) → ∀ v, Handed 3 W.heap.size own'.ownBlock W6 v (valsAt x k) →
          YieldAt Fence.wide 3 Tryz.prog l #[.int .i64 (k : Int), v] W6 fun e W' => e = .returned (.bool true) ∧ J (k + 1) own'.ownBlock W' ∧ KeepE w0.heap.size bx own'.ownBlock W6 W' from
        fun own' W6 hr hg ho v hv => HY.out k own'.ownBlock v W6 hlt (HAB.out k sv.ownBlock own'.ownBlock wr W6 HJ.out ⟨hg, irow_own HO.out, ho⟩) (irow_own hr) hv)
      rw [hnx, hvl] at HYK
      have HNX := Lib.hid hnx
      have HM2 := Lib.hid hm2
      have HOL := Lib.hid (irow_own_lt HO.out)
      clear hn' hse hnx hvl hcx hp hm2
      unfold prtV at HT
      rcases own_form HO.out with ⟨rfl, rfl⟩ | ⟨g, cap, rfl, hcap, hmax, hgw⟩
      · have h00 := HM2.out
        have hn0 : n = 0 := by simp at h00; omega
        have hm0' : m = 0 := by simp at h00; omega
        subst hn0
        subst hm0'
        have HT0 := Lib.hid (fun W => HT.out W)
        simp only [Int.ofNat_zero, Int.natCast_zero] at HT0
        clear hlenz hm0 hmle h00
        have HCL := Lib.hid (show ∀ W', Below wr.heap.size wr W' → Calls Tryz.prog 45 #[.slice none 0 0] W' fun e w' => ∃ A' c', e = .returned (.slice A' 0 c') ∧ IRow W'.heap.size w' (.slice A' 0 c') [] ∧ Below W'.heap.size W' w' ∧ (∀ a r, ([] : List Int) = a :: r → ∃ g', A' = some ⟨g', 0, none⟩ ∧ w'.cell? ⟨g', 0, none⟩ = some (.int .i64 a)) from fun W' _ => clone_vals [] _ W' (Sl.nil _ _ _) (by decide) 0 rfl)
        gi_wp2_with (first
          | (gi_at_call 44; refine (callsIn_wide.2 (HT0.out _)).mono ?_; rintro e w3 ⟨rfl, hb3⟩; have hz3 := hb3.size; (try simp at hz3))
          | (gi_at_call 45; refine (callsIn_wide.2 (HCL.out _ (by (repeat' (first | (with_reducible exact Below.refl _ _) | (with_reducible refine below_alloc ?_) | (with_reducible refine below_drew ?_) | (with_reducible refine below_drewN ?_) | (with_reducible refine below_set (by first | (simp; done) | (simp; omega)) ?_) | (with_reducible refine below_call (by with_reducible assumption) ?_)))))).mono ?_; rintro e w4 ⟨A4, c4, rfl, ho4, hb4, -⟩; have hz4 := hb4.size)
          | (gi_at_builtin; refine wpListIn_append_lies _ rfl _ _ 55 rfl W.heap.size 3 i _ 1 8 Tryz.underlying55 hi1 hi2 hi3 hi4 rfl (by decide) (.slice none 0 0) 0 [] rfl (World.ownsRow_nil _ _ _ _) ⟨w4.heap.size, 0, none⟩ 1 1 [.int .i64 k] rfl rfl (cell_one_new _ _ _) (by simp [Value.oneCell']) (by decide) (by unfold maxLen; omega) (by omega) (by simp; omega) _ rfl ?_; intro g5 cap5 w5 hown5 hgr5 hor5 hlt5; have hgr := grown_trans (grown_below (show Below wr.heap.size wr (w4.alloc (.cells #[.int .i64 k] 3)) by (repeat' (first | (with_reducible exact Below.refl _ _) | (with_reducible refine below_alloc ?_) | (with_reducible refine below_drew ?_) | (with_reducible refine below_drewN ?_) | (with_reducible refine below_set (by first | (simp; done) | (simp; omega)) ?_) | (with_reducible refine below_call (by with_reducible assumption) ?_)))) _) hgr5; obtain ⟨fn, tmps, assign, body, hy, hR⟩ := HYK.out (.slice (some ⟨g5, 0, none⟩) 1 cap5) w5 hown5 hgr (each_own hor5 (by simp; omega)) (.slice A4 0 c4) (each_handed HOL.out hsz (by omega) ho4 hgr5 (hor5.imp_right (fun h => by simpa using h)))))
        refine hR.mono ?_
        rintro e W' ⟨rfl, hJ', hk'⟩
        have hrel := each_rel HOL.out h0W hbxW HB.out hsz HX.out hgr hk'
        gi_wp2
        go_roundw
        case rel => exact ⟨k + 1, _, rfl, by simp, by omega, (by rw [HNX.out]; exact irow_keep hown5 hk'.2.2), hJ', hrel.1, hrel.2.1, hrel.2.2⟩
        case measure => simp [intOf]; omega
      · have hcapz : (st.length : Int) ≤ (cap : Int) := by omega
        have h00 : (0 : Int) ≤ (st.length : Int) := Int.natCast_nonneg _
        have hmcz : (m : Int) ≤ (cap : Int) := by omega
        have HOC := Lib.hid (show wr.ownsRow W.heap.size 3 1 (.slice (some ⟨g, 0, none⟩) m cap) m ((st.take m).flatMap encI) from own_takeL encI_len HO.out hmN)
        have HDL := Lib.hid (show (st.drop m).length = n by rw [List.length_drop]; have := HM2.out; omega)
        by_cases hcm : cap = m
        · have hmc : m = cap := hcm.symm
          clear hcm
          subst hmc
          have hn0 : n = 0 := by have := HM2.out; omega
          subst hn0
          have HTN := Lib.hid (fun W => HT.out W)
          simp only [Int.ofNat_zero, Int.natCast_zero] at HTN
          have hdr : st.drop m = [] := List.eq_nil_of_length_eq_zero HDL.out
          have HCL := Lib.hid (show ∀ W', Below wr.heap.size wr W' → Calls Tryz.prog 45 #[.slice (some ⟨g, 0, none⟩) 0 0] W' fun e w' => ∃ A' c', e = .returned (.slice A' 0 c') ∧ IRow W'.heap.size w' (.slice A' 0 c') (st.drop m) ∧ Below W'.heap.size W' w' ∧ (∀ a r, st.drop m = a :: r → ∃ g', A' = some ⟨g', 0, none⟩ ∧ w'.cell? ⟨g', 0, none⟩ = some (.int .i64 a)) from fun W' hW' => clone_vals (st.drop m) _ W' (by rw [hdr]; exact ⟨_, 0, rfl, Nat.le_refl _, by decide, fun i x hx => by simp at hx⟩) (by rw [HDL.out]; omega) 0 HDL.out)
          rw [hdr] at HYK HNX HCL
          simp only [List.headD_nil] at HYK HNX
          have hsm : (st.length : Int) - 0 = (m : Int) := by omega
          have hmm : st.length = m := by have := HM2.out; omega
          clear hdr hlenz hmm
          gi_wp2_with (first
            | (gi_at_call 44; refine (callsIn_wide.2 (HTN.out _)).mono ?_; rintro e w3 ⟨rfl, hb3⟩; have hz3 := hb3.size; (try simp at hz3))
            | (gi_at_call 45; refine (callsIn_wide.2 (HCL.out _ (by (repeat' (first | (with_reducible exact Below.refl _ _) | (with_reducible refine below_alloc ?_) | (with_reducible refine below_drew ?_) | (with_reducible refine below_drewN ?_) | (with_reducible refine below_set (by first | (simp; done) | (simp; omega)) ?_) | (with_reducible refine below_call (by with_reducible assumption) ?_)))))).mono ?_; rintro e w4 ⟨A4, c4, rfl, ho4, hb4, hv4⟩; have hz4 := hb4.size)
            | (gi_at_builtin; refine wpListIn_append_lies _ rfl _ _ 55 rfl W.heap.size 3 i _ 1 8 Tryz.underlying55 hi1 hi2 hi3 hi4 rfl (by decide) (.slice (some ⟨g, 0, none⟩) m m) m ((st.take m).flatMap encI) rfl (own_below HOC.out (by (repeat' (first | (with_reducible exact Below.refl _ _) | (with_reducible refine below_alloc ?_) | (with_reducible refine below_drew ?_) | (with_reducible refine below_drewN ?_) | (with_reducible refine below_set (by first | (simp; done) | (simp; omega)) ?_) | (with_reducible refine below_call (by with_reducible assumption) ?_))))) ⟨w4.heap.size, 0, none⟩ 1 1 [.int .i64 k] rfl rfl (cell_one_new _ _ _) (by simp [Value.oneCell']) (by decide) (by unfold maxLen; omega) (by omega) (by simp; omega) _ rfl ?_; intro g5 cap5 w5 hown5 hgr5 hor5 hlt5; have hown6 := irow_snoc hown5 hmN; have hgr := grown_trans (grown_below (show Below wr.heap.size wr (w4.alloc (.cells #[.int .i64 k] 3)) by (repeat' (first | (with_reducible exact Below.refl _ _) | (with_reducible refine below_alloc ?_) | (with_reducible refine below_drew ?_) | (with_reducible refine below_drewN ?_) | (with_reducible refine below_set (by first | (simp; done) | (simp; omega)) ?_) | (with_reducible refine below_call (by with_reducible assumption) ?_)))) _) hgr5; obtain ⟨fn, tmps, assign, body, hy, hR⟩ := HYK.out (.slice (some ⟨g5, 0, none⟩) (m + 1) cap5) w5 hown6 hgr (each_own hor5 (by simp; omega)) _ (each_handed HOL.out hsz (by omega) ho4 hgr5 (hor5.imp_right (fun h => by simpa using h)))))
          refine hR.mono ?_
          rintro e W' ⟨rfl, hJ', hk'⟩
          have hrel := each_rel HOL.out h0W hbxW HB.out hsz HX.out hgr hk'
          gi_wp2
          go_roundw
          case rel => exact ⟨k + 1, _, rfl, by simp, by omega, (by rw [HNX.out]; exact irow_keep hown6 hk'.2.2), hJ', hrel.1, hrel.2.1, hrel.2.2⟩
          case measure => simp [intOf]; omega
        have hcap0 : ¬ cap = 0 := by omega
        have HCL := Lib.hid (show ∀ W', Below wr.heap.size wr W' → Calls Tryz.prog 45 #[.slice (some ⟨g, m, none⟩) (st.length - m) (cap - m)] W' fun e w' => ∃ A' c', e = .returned (.slice A' n c') ∧ IRow W'.heap.size w' (.slice A' n c') (st.drop m) ∧ Below W'.heap.size W' w' ∧ (∀ a r, st.drop m = a :: r → ∃ g', A' = some ⟨g', 0, none⟩ ∧ w'.cell? ⟨g', 0, none⟩ = some (.int .i64 a)) from fun W' hW' => clone_vals (st.drop m) _ W' (by have h := Sl.drop (Sl.own encI_len (own_below HO.out hW') rfl) m hmN; rw [Nat.zero_add, Nat.mul_one] at h; exact h) (by rw [HDL.out]; omega) n HDL.out)
        by_cases hn0 : n = 0
        · subst hn0
          have HTN := Lib.hid (fun W => HT.out W)
          simp only [Int.ofNat_zero, Int.natCast_zero] at HTN
          have hdr : st.drop m = [] := List.eq_nil_of_length_eq_zero HDL.out
          rw [hdr] at HYK HNX HCL
          simp only [List.headD_nil] at HYK HNX
          have hsm : (st.length : Int) - 0 = (m : Int) := by omega
          clear hdr hlenz
          gi_wp2_with (first
            | (gi_at_call 44; refine (callsIn_wide.2 (HTN.out _)).mono ?_; rintro e w3 ⟨rfl, hb3⟩; have hz3 := hb3.size; (try simp at hz3))
            | (gi_at_call 45; refine (callsIn_wide.2 (HCL.out _ (by (repeat' (first | (with_reducible exact Below.refl _ _) | (with_reducible refine below_alloc ?_) | (with_reducible refine below_drew ?_) | (with_reducible refine below_drewN ?_) | (with_reducible refine below_set (by first | (simp; done) | (simp; omega)) ?_) | (with_reducible refine below_call (by with_reducible assumption) ?_)))))).mono ?_; rintro e w4 ⟨A4, c4, rfl, ho4, hb4, hv4⟩; have hz4 := hb4.size)
            | (gi_at_builtin; refine wpListIn_append_lies _ rfl _ _ 55 rfl W.heap.size 3 i _ 1 8 Tryz.underlying55 hi1 hi2 hi3 hi4 rfl (by decide) (.slice (some ⟨g, 0, none⟩) m cap) m ((st.take m).flatMap encI) rfl (own_below HOC.out (by (repeat' (first | (with_reducible exact Below.refl _ _) | (with_reducible refine below_alloc ?_) | (with_reducible refine below_drew ?_) | (with_reducible refine below_drewN ?_) | (with_reducible refine below_set (by first | (simp; done) | (simp; omega)) ?_) | (with_reducible refine below_call (by with_reducible assumption) ?_))))) ⟨w4.heap.size, 0, none⟩ 1 1 [.int .i64 k] rfl rfl (cell_one_new _ _ _) (by simp [Value.oneCell']) (by decide) (by unfold maxLen; omega) (by omega) (by simp; omega) _ rfl ?_; intro g5 cap5 w5 hown5 hgr5 hor5 hlt5; have hown6 := irow_snoc hown5 hmN; have hgr := grown_trans (grown_below (show Below wr.heap.size wr (w4.alloc (.cells #[.int .i64 k] 3)) by (repeat' (first | (with_reducible exact Below.refl _ _) | (with_reducible refine below_alloc ?_) | (with_reducible refine below_drew ?_) | (with_reducible refine below_drewN ?_) | (with_reducible refine below_set (by first | (simp; done) | (simp; omega)) ?_) | (with_reducible refine below_call (by with_reducible assumption) ?_)))) _) hgr5; obtain ⟨fn, tmps, assign, body, hy, hR⟩ := HYK.out (.slice (some ⟨g5, 0, none⟩) (m + 1) cap5) w5 hown6 hgr (each_own hor5 (by simp; omega)) _ (each_handed HOL.out hsz (by omega) ho4 hgr5 (hor5.imp_right (fun h => by simpa using h)))))
          refine hR.mono ?_
          rintro e W' ⟨rfl, hJ', hk'⟩
          have hrel := each_rel HOL.out h0W hbxW HB.out hsz HX.out hgr hk'
          gi_wp2
          go_roundw
          case rel => exact ⟨k + 1, _, rfl, by simp, by omega, (by rw [HNX.out]; exact irow_keep hown6 hk'.2.2), hJ', hrel.1, hrel.2.1, hrel.2.2⟩
          case measure => simp [intOf]; omega
        · obtain ⟨a, r, hdr⟩ : ∃ a r, st.drop m = a :: r := by
            cases hd : st.drop m with
            | nil => have := HDL.out; rw [hd] at this; simp at this; omega
            | cons a r => exact ⟨a, r, rfl⟩
          rw [hdr] at HYK HNX HCL
          simp only [List.headD_cons] at HYK HNX
          have HTN := HT
          have hn1 : (0 : Int) < (n : Int) := by omega
          have hnN : 0 < n := by omega
          clear hdr
          gi_wp2_with (first
            | (gi_at_call 44; refine (callsIn_wide.2 (HTN.out _)).mono ?_; rintro e w3 ⟨rfl, hb3⟩; have hz3 := hb3.size; (try simp at hz3))
            | (gi_at_call 45; refine (callsIn_wide.2 (HCL.out _ (by (repeat' (first | (with_reducible exact Below.refl _ _) | (with_reducible refine below_alloc ?_) | (with_reducible refine below_drew ?_) | (with_reducible refine below_drewN ?_) | (with_reducible refine below_set (by first | (simp; done) | (simp; omega)) ?_) | (with_reducible refine below_call (by with_reducible assumption) ?_)))))).mono ?_; rintro e w4 ⟨A4, c4, rfl, ho4, hb4, hv4⟩; have hz4 := hb4.size; obtain ⟨g4, rfl, hv4⟩ := hv4 a r rfl)
            | (gi_at_builtin; refine wpListIn_append_lies _ rfl _ _ 55 rfl W.heap.size 3 i _ 1 8 Tryz.underlying55 hi1 hi2 hi3 hi4 rfl (by decide) (.slice (some ⟨g, 0, none⟩) m cap) m ((st.take m).flatMap encI) rfl (own_below HOC.out (by (repeat' (first | (with_reducible exact Below.refl _ _) | (with_reducible refine below_alloc ?_) | (with_reducible refine below_drew ?_) | (with_reducible refine below_drewN ?_) | (with_reducible refine below_set (by first | (simp; done) | (simp; omega)) ?_) | (with_reducible refine below_call (by with_reducible assumption) ?_))))) ⟨w4.heap.size, 0, none⟩ 1 1 [.int .i64 a] rfl rfl (cell_one_new _ _ _) (by simp [Value.oneCell']) (by decide) (by unfold maxLen; omega) (by omega) (by simp; omega) _ rfl ?_; intro g5 cap5 w5 hown5 hgr5 hor5 hlt5; have hown6 := irow_snoc hown5 hmN; have hgr := grown_trans (grown_below (show Below wr.heap.size wr (w4.alloc (.cells #[.int .i64 a] 3)) by (repeat' (first | (with_reducible exact Below.refl _ _) | (with_reducible refine below_alloc ?_) | (with_reducible refine below_drew ?_) | (with_reducible refine below_drewN ?_) | (with_reducible refine below_set (by first | (simp; done) | (simp; omega)) ?_) | (with_reducible refine below_call (by with_reducible assumption) ?_)))) _) hgr5; obtain ⟨fn, tmps, assign, body, hy, hR⟩ := HYK.out (.slice (some ⟨g5, 0, none⟩) (m + 1) cap5) w5 hown6 hgr (each_own hor5 (by simp; omega)) _ (each_handed HOL.out hsz (by omega) ho4 hgr5 (hor5.imp_right (fun h => by simpa using h)))))
          refine hR.mono ?_
          rintro e W' ⟨rfl, hJ', hk'⟩
          have hrel := each_rel HOL.out h0W hbxW HB.out hsz HX.out hgr hk'
          gi_wp2
          go_roundw
          case rel => exact ⟨k + 1, _, rfl, by simp, by omega, (by rw [HNX.out]; exact irow_keep hown6 hk'.2.2), hJ', hrel.1, hrel.2.1, hrel.2.2⟩
          case measure => simp [intOf]; omega
    · obtain rfl : k = x.length := by omega
      gi_wp2
      go_end0
      exact ⟨⟨_, rfl⟩, _, HJ.out⟩
end Go.Proofs.YtenjkplijblcoaaGreatDoor
