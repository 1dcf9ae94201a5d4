/- capstanref09.reckon: what each call answers. -/
import Derived.Test.YtenjkplijblcoaaGreatDoorCRpart
import Derived.Test.YtenjkplijblcoaaGreatDoorCRsix
import Derived.Test.YtenjkplijblcoaaGreatDoorCRplain
set_option linter.unusedSimpArgs false
set_option linter.unusedVariables false
namespace Go.Proofs.YtenjkplijblcoaaGreatDoor
open Go.RowKit Cap
set_option maxRecDepth 100000

theorem info_rv : InfoIs Tryz.prog 83 (.agg #[.int .i64 0, .slice none 0 0]) 2 32 := by unfold InfoIs; kernel_rfl
theorem partR_len (vars : List Vr) (p : Prt) (top : List Rv) : (partR vars p top).1.nums.length ≤ (top.map (fun r => r.nums.length)).sum + 1 := by
  have g0 : ∀ (i : Nat) (l : List Rv), (l.getD i ⟨0, []⟩).nums.length ≤ (l.map (fun r => r.nums.length)).sum := by
    intro i l
    induction l generalizing i with
    | nil => simp
    | cons a r ih =>
      cases i with
      | zero => simp
      | succ i =>
        have := ih i
        simp at this ⊢
        omega
  have g01 : (top.getD 0 ⟨0, []⟩).nums.length + (top.getD 1 ⟨0, []⟩).nums.length ≤ (top.map (fun r => r.nums.length)).sum := by
    cases top with
    | nil => simp
    | cons a r =>
      have := g0 0 r
      cases r with
      | nil => simp
      | cons b r => simp at this ⊢
  have hnm : ∀ a, (namedR vars p a).1.nums = [] := by
    intro a
    unfold namedR
    repeat' split
    all_goals rfl
  unfold partR
  split
  · split
    · simp
    · simp
  · split
    · simp
    · split
      · split
        · unfold oneRv
          have := g0 0 top
          repeat' split
          all_goals first | (simp; done) | (simp only; omega)
        · unfold twoRv
          split
          · unfold none2R
            split
            · simp
            · split
              · simp only [List.length_append]
                omega
              · split <;> simp
          · split
            · simp
            · split <;> simp
      · split
        · rw [hnm]; simp
        · rw [hnm]; simp
/-- What each operation of the stack's making leaves. -/
def stF (base : Nat) (vs : Value) (m : Nat) (vt : Value) (tk : List Rr) (r : Rr) : Nat → Value → World → Prop
  | 0, v, w => LitAt base 83 w v
  | 1, v, _ => v = vs
  | 2, v, _ => v = .int .i64 (m : Int)
  | 3, v, _ => v = vt
  | 4, v, w => w.ownsRow base 83 2 v tk.length (tk.flatMap encRr)
  | 5, v, _ => v = .agg #[.int .i64 r.t, .slice r.A r.nums.length r.c]
  | 6, v, w => Sl encRr 2 w v [r]
  | 7, v, w => w.ownsRow base 83 2 v (tk.length + [r].length) (tk.flatMap encRr ++ [r].flatMap encRr)
  | _, _, _ => True
theorem stF_below {base : Nat} {vs : Value} {m : Nat} {vt : Value} {tk : List Rr} {r : Rr} (i : Nat) (v : Value) (w w' : World) (h : stF base vs m vt tk r i v w) (hb : Below w.heap.size w w') : stF base vs m vt tk r i v w' := by
  (revert h; unfold stF; split <;> intro h <;> first | exact h | exact LitAt.below h hb | exact own_below h hb | exact Sl.below h hb)
set_option maxHeartbeats 8000000 in
theorem rreckon_c (vars : List Vr) (x : List Prt) (vv vx : Value) (w : World) (hs : Sl encVr 5 w vv vars) (hx : Sl encPrt 5 w vx x) :
    Calls Tryz.prog 47 #[vv, vx] w (RvR w (rReck vars x)) := by
  have HWR := Lib.hid (fun W (hW : Below w.heap.size w W) => rwrong_c vars vv W (hs.below hW))
  have HCK := Lib.hid (fun W (hW : Below w.heap.size w W) => rcheck6_c x vx W (hx.below hW))
  have HPT := Lib.hid (fun W (hW : Below w.heap.size w W) (hw0 : wrongV vars = 0) p top vt ht hN hl hn => rpart9_c vars p top vv vt W (hs.below hW) (wrong_may hw0) ht hN hl hn)
  obtain ⟨Av, cv, rfl, -, -, -⟩ := hs
  obtain ⟨Ax, cx, rfl, hxl, hxm, hxc⟩ := hx
  have HXC := Lib.hid hxc
  clear hxc
  by_cases hw0 : wrongV vars = 0
  case neg =>
    have hwb := ne_i hw0
    have hwn : (wrongV vars != 0) = true := by simpa using hw0
    have HR := Lib.hid (show rReck vars x = (⟨0, []⟩, wrongV vars) by rw [rReck, if_pos hw0])
    obtain ⟨e0, he0⟩ : ∃ e, wrongV vars = e := ⟨_, rfl⟩
    rw [he0] at HWR hw0 hwb hwn HR
    clear he0
    go_enter Tryz.func47, Tryz.ntmps47
    go_wp2_with (go_at_call 70; refine (HWR.out _ (by (repeat' (first | (with_reducible exact Below.refl _ _) | (with_reducible refine below_alloc ?_) | (with_reducible refine below_drew ?_) | (with_reducible refine below_drewN ?_) | (with_reducible refine below_set (by simp; omega) ?_) | (with_reducible refine below_call (by with_reducible assumption) ?_))))).mono ?_; rintro e w1 ⟨rfl, hb1⟩; obtain ⟨hc1, hf1⟩ := bcell hb1; have hz1 := hb1.size; (try simp at hz1); (try have hw01 : w.heap.size < w1.heap.size := by omega); (try have hw11 : w.heap.size + 1 < w1.heap.size := by omega); (try have hw21 : w.heap.size + 1 + 1 < w1.heap.size := by omega))
    ((try simp only [Exit.inBlock, Exit.then]); refine bodyPost_ret (v := ?_) ?_ rfl ?_; rotate_left; (focus (rw [results_cell_tmp rfl]; go_simp; (first | rfl | exact ⟨rfl, rfl⟩))))
    rw [HR.out]
    exact ⟨none, 0, rfl, Nums.nil _, by (repeat' (first | (with_reducible exact Below.refl _ _) | (with_reducible refine below_alloc ?_) | (with_reducible refine below_drew ?_) | (with_reducible refine below_drewN ?_) | (with_reducible refine below_set (by first | (simp; done) | (simp; omega)) ?_) | (with_reducible refine below_call (by with_reducible assumption) ?_)))⟩
  have HPT := Lib.hid (fun W (hW : Below w.heap.size w W) p top vt ht hN hl hn => HPT.out W hW hw0 p top vt ht hN hl hn)
  by_cases hc0 : checkX x = 0
  case neg =>
    have hcb := ne_i hc0
    have hcn : (checkX x != 0) = true := by simpa using hc0
    have HR := Lib.hid (show rReck vars x = (⟨0, []⟩, checkX x) by rw [rReck, if_neg (by simp [hw0]), if_pos hc0])
    obtain ⟨e0, he0⟩ : ∃ e, checkX x = e := ⟨_, rfl⟩
    rw [he0] at HCK hc0 hcb hcn HR
    rw [hw0] at HWR
    clear he0 hw0
    go_enter Tryz.func47, Tryz.ntmps47
    go_wp2_with (first | (go_at_call 70; refine (HWR.out _ (by (repeat' (first | (with_reducible exact Below.refl _ _) | (with_reducible refine below_alloc ?_) | (with_reducible refine below_drew ?_) | (with_reducible refine below_drewN ?_) | (with_reducible refine below_set (by simp; omega) ?_) | (with_reducible refine below_call (by with_reducible assumption) ?_))))).mono ?_; rintro e w1 ⟨rfl, hb1⟩; obtain ⟨hc1, hf1⟩ := bcell hb1; have hz1 := hb1.size; (try simp at hz1); (try have hw01 : w.heap.size < w1.heap.size := by omega); (try have hw11 : w.heap.size + 1 < w1.heap.size := by omega); (try have hw21 : w.heap.size + 1 + 1 < w1.heap.size := by omega)) | (go_at_call 58; refine (HCK.out _ (by (repeat' (first | (with_reducible exact Below.refl _ _) | (with_reducible refine below_alloc ?_) | (with_reducible refine below_drew ?_) | (with_reducible refine below_drewN ?_) | (with_reducible refine below_set (by simp; omega) ?_) | (with_reducible refine below_call (by with_reducible assumption) ?_))))).mono ?_; rintro e w2 ⟨rfl, hb2⟩; obtain ⟨hc2, hf2⟩ := bcell hb2; have hz2 := hb2.size; (try simp at hz2); (try have hw02 : w.heap.size < w2.heap.size := by omega); (try have hw12 : w.heap.size + 1 < w2.heap.size := by omega); (try have hw22 : w.heap.size + 1 + 1 < w2.heap.size := by omega)))
    ((try simp only [Exit.inBlock, Exit.then]); refine bodyPost_ret (v := ?_) ?_ rfl ?_; rotate_left; (focus (rw [results_cell_tmp rfl]; go_simp; (first | rfl | exact ⟨rfl, rfl⟩))))
    rw [HR.out]
    exact ⟨none, 0, rfl, Nums.nil _, by (repeat' (first | (with_reducible exact Below.refl _ _) | (with_reducible refine below_alloc ?_) | (with_reducible refine below_drew ?_) | (with_reducible refine below_drewN ?_) | (with_reducible refine below_set (by first | (simp; done) | (simp; omega)) ?_) | (with_reducible refine below_call (by with_reducible assumption) ?_)))⟩
  obtain ⟨h500, hdx, hmay⟩ := check_in hc0
  have HDX := Lib.hid hdx
  have HMAY := Lib.hid hmay
  have HR := Lib.hid (show rReck vars x = match rGo vars x [] with
    | .error e => (⟨0, []⟩, e)
    | .ok st => if (st.getD 0 ⟨0, []⟩).t = 0 ∧ fitR (st.getD 0 ⟨0, []⟩).nums 3 = false then (⟨0, []⟩, 1) else (st.getD 0 ⟨0, []⟩, 0) by rw [rReck, if_neg (by simp [hw0]), if_neg (by simp [hc0])]; rfl)
  rw [hw0] at HWR
  rw [hc0] at HCK
  clear hw0 hc0 hdx hmay
  go_enter Tryz.func47, Tryz.ntmps47
  go_wp2_with (first | (go_at_call 70; refine (HWR.out _ (by (repeat' (first | (with_reducible exact Below.refl _ _) | (with_reducible refine below_alloc ?_) | (with_reducible refine below_drew ?_) | (with_reducible refine below_drewN ?_) | (with_reducible refine below_set (by simp; omega) ?_) | (with_reducible refine below_call (by with_reducible assumption) ?_))))).mono ?_; rintro e w1 ⟨rfl, hb1⟩; obtain ⟨hc1, hf1⟩ := bcell hb1; have hz1 := hb1.size; (try simp at hz1); (try have hw01 : w.heap.size < w1.heap.size := by omega); (try have hw11 : w.heap.size + 1 < w1.heap.size := by omega); (try have hw21 : w.heap.size + 1 + 1 < w1.heap.size := by omega)) | (go_at_call 58; refine (HCK.out _ (by (repeat' (first | (with_reducible exact Below.refl _ _) | (with_reducible refine below_alloc ?_) | (with_reducible refine below_drew ?_) | (with_reducible refine below_drewN ?_) | (with_reducible refine below_set (by simp; omega) ?_) | (with_reducible refine below_call (by with_reducible assumption) ?_))))).mono ?_; rintro e w2 ⟨rfl, hb2⟩; obtain ⟨hc2, hf2⟩ := bcell hb2; have hz2 := hb2.size; (try simp at hz2); (try have hw02 : w.heap.size < w2.heap.size := by omega); (try have hw12 : w.heap.size + 1 < w2.heap.size := by omega); (try have hw22 : w.heap.size + 1 + 1 < w2.heap.size := by omega)))
  have HX2 := Lib.hid (show w2.heap[w.heap.size]? = some (.cells #[.int .i64 0, .slice none 0 0] 83 (0, 0)) from (hb2.block _ hw01).trans ((hb1.block _ (by simp)).trans (heap_alloc_new _ _)))
  have HB2 := Lib.hid (show Below w.heap.size w w2 by (repeat' (first | (with_reducible exact Below.refl _ _) | (with_reducible refine below_alloc ?_) | (with_reducible refine below_drew ?_) | (with_reducible refine below_drewN ?_) | (with_reducible refine below_set (by simp; omega) ?_) | (with_reducible refine below_call (by with_reducible assumption) ?_))))
  clear hb1 hb2 hc1 hc2 hf1 hf2
  go_loopg [8, 9] x.length (fun gg s8 s9 wr => ∃ (k : Nat) (st : List Rr) (dst : List Int), s9 = .int .i64 k ∧ k ≤ x.length ∧ x.length - k ≤ gg ∧ st.length ≤ k ∧ dst.length = st.length ∧ Aside (wr.ownsRow (w.heap.size + 1) 83 2 s8 st.length (st.flatMap encRr)) ∧ Aside (∀ r ∈ st, Nums wr r.A r.c r.nums) ∧ Aside ((st.map (fun r => r.nums.length)).sum ≤ k) ∧ Aside (rGo vars (x.drop k) (st.map Rr.v) = rGo vars x []) ∧ Aside (∃ d, depthGo (x.drop k) dst = some [d]) ∧ Aside (Below w.heap.size w wr) ∧ Aside (wr.heap[w.heap.size]? = some (.cells #[.int .i64 0, .slice none 0 0] 83 (0, 0))))
  case atStart => exact ⟨0, [], [], rfl, Nat.zero_le _, by omega, Nat.le_refl _, rfl, (show Aside _ from ⟨by simp, .inl ⟨rfl, rfl⟩⟩), (show Aside _ from fun r hr => by cases hr), (show Aside _ from Nat.le_refl _), rfl, HDX.out, HB2.out, HX2.out⟩
  case round =>
    obtain ⟨k, st, dst, rfl, hk, hg, hst, hds, HO, HNU, HSM, HG, HDG, HB, HX⟩ := hrel
    have hB := HB.out
    have hsz := hB.size
    have hszx : w.heap.size < wr.heap.size := (Array.getElem?_eq_some_iff.1 HX.out).1
    by_cases hlt : k < x.length
    · obtain ⟨p, hp⟩ : ∃ p, x[k]? = some p := ⟨x[k], List.getElem?_eq_getElem hlt⟩
      obtain ⟨b, off, rfl, hb, hcx⟩ := HXC.out k p hp
      have c0 : wr.cell? ⟨b, off + k * 5, none⟩ = some (.int .i64 p.k) := (hB.cell (p := ⟨b, off + k * 5, none⟩) hb).trans (by simpa using hcx 0 _ rfl)
      have c1 : wr.cell? ⟨b, off + k * 5 + 1, none⟩ = some (.int .i64 p.n) := (hB.cell (p := ⟨b, off + k * 5 + 1, none⟩) hb).trans (by simpa using hcx 1 _ rfl)
      have c2 : wr.cell? ⟨b, off + k * 5 + 2, none⟩ = some (.int .i64 p.t) := (hB.cell (p := ⟨b, off + k * 5 + 2, none⟩) hb).trans (by simpa using hcx 2 _ rfl)
      have c3 : wr.cell? ⟨b, off + k * 5 + 3, none⟩ = some (.string p.s) := (hB.cell (p := ⟨b, off + k * 5 + 3, none⟩) hb).trans (by simpa using hcx 3 _ rfl)
      have c4 : wr.cell? ⟨b, off + k * 5 + 4, none⟩ = some (.string p.f) := (hB.cell (p := ⟨b, off + k * 5 + 4, none⟩) hb).trans (by simpa using hcx 4 _ rfl)
      have hbw : b < wr.heap.size := by omega
      obtain ⟨d, hd⟩ := HDG.out
      rw [drop_cons hp, depthGo] at hd
      have hnn : ¬ dst.length < takesE p := fun h => by rw [if_pos h] at hd; cases hd
      rw [if_neg hnn] at hd
      have HDN := Lib.hid hd
      have HDL := Lib.hid (depthStep_len p dst)
      obtain ⟨n, hn'⟩ : ∃ n, takesE p = n := ⟨_, rfl⟩
      have hle : n ≤ st.length := by omega
      obtain ⟨m, hm2⟩ : ∃ m, st.length = m + n := ⟨st.length - n, by omega⟩
      have hml : (st.map Rr.v).length - takesE p = m := by rw [List.length_map]; omega
      have HNX := Lib.hid (show (if (partR vars p ((st.drop m).map Rr.v)).2 ≠ 0 then .error (partR vars p ((st.drop m).map Rr.v)).2 else rGo vars (x.drop (k + 1)) ((st.take m).map Rr.v ++ [(partR vars p ((st.drop m).map Rr.v)).1])) = rGo vars x [] by
        have h := HG.out
        rw [drop_cons hp, rGo, hml, ← List.map_drop, ← List.map_take] at h
        exact h)
      have HT := Lib.hid (fun W => (by rw [← hn', ← takesR6_E]; exact rtakes_c p W : Calls Tryz.prog 51 #[prtV p] W fun e w' => e = .returned (.int .i64 (n : Int)) ∧ Below W.heap.size W w'))
      have HE := Lib.hid hn'
      have HTL := Lib.hid (show (st.drop m).length = takesE p by rw [List.length_drop]; omega)
      have hsum : ((st.take m).map (fun r => r.nums.length)).sum + ((st.drop m).map (fun r => r.nums.length)).sum ≤ k := by
        have h := HSM.out
        rw [← List.take_append_drop m st, List.map_append, List.sum_append] at h
        simpa using h
      have HLN := Lib.hid (partR_len vars p ((st.drop m).map Rr.v))
      have HSU := Lib.hid hsum
      have hk1000 : ((st.drop m).map (fun r => r.nums.length)).sum ≤ 1000 := by omega
      have HK1 := Lib.hid hk1000
      clear hn' hcx hp hd hnn hml hsum hk1000
      have hltz : (k : Int) < (x.length : Int) := by omega
      have hk0 : (0 : Int) ≤ (k : Int) := Int.natCast_nonneg _
      have hlenz : (st.length : Int) - (n : Int) = (m : Int) := by omega
      have hm0 : (0 : Int) ≤ (m : Int) := Int.natCast_nonneg _
      have hmle : (m : Int) ≤ (st.length : Int) := by omega
      have hmN : m ≤ st.length := by omega
      have HM2 := Lib.hid hm2
      clear hm2
      obtain ⟨⟨⟨rt, rn⟩, er⟩, hq⟩ : ∃ q, partR vars p ((st.drop m).map Rr.v) = q := ⟨_, rfl⟩
      rw [hq] at HNX HLN
      simp only at HNX HLN
      have HQ := Lib.hid hq
      clear hq
      rcases own_form HO.out with ⟨rfl, hst0⟩ | ⟨g, cap, rfl, hcap, hmax, hgw⟩
      · have hn0 : n = 0 := by rw [hst0] at hle; simpa using hle
        have hmm0 : m = 0 := by have h := HM2.out; rw [hst0] at h; simp at h; omega
        subst hmm0 hn0
        simp only [Int.ofNat_zero, Int.natCast_zero] at HT
        clear hlenz hm0 hmle
        have HTS := Lib.hid (show ∀ W, Below wr.heap.size wr W → Sl encRr 2 W (.slice none 0 0) (st.drop 0) from fun W hW => by
          rw [hst0]
          exact Sl.nil _ _ _)
        have HTK := Lib.hid (show ∀ W, Below wr.heap.size wr W → Sl encRr 2 W (.slice none 0 0) (st.take 0) from fun W hW => by
          rw [hst0]
          exact Sl.nil _ _ _)
        go_upto_region 12 with (go_at_call 51; refine (HT.out _).mono ?_; rintro e w3 ⟨rfl, hb3⟩; have hz3 := hb3.size; (try simp at hz3))
        have HB3 := Lib.hid hb3
        have HK := Lib.hid (show ∀ W, Below w3.heap.size w3 W → (W.cell? ⟨b, off + k * 5, none⟩ = some (.int .i64 p.k) ∧ W.cell? ⟨b, off + k * 5 + 1, none⟩ = some (.int .i64 p.n) ∧ W.cell? ⟨b, off + k * 5 + 2, none⟩ = some (.int .i64 p.t) ∧ W.cell? ⟨b, off + k * 5 + 3, none⟩ = some (.string p.s) ∧ W.cell? ⟨b, off + k * 5 + 4, none⟩ = some (.string p.f)) from fun W hW => by
          have h : ∀ j, W.cell? ⟨b, j, none⟩ = wr.cell? ⟨b, j, none⟩ := fun j => (hW.cell (p := ⟨b, j, none⟩) (by simp; omega)).trans (hb3.cell (p := ⟨b, j, none⟩) (by simp; omega))
          rw [h, h, h, h, h]
          exact ⟨c0, c1, c2, c3, c4⟩)
        have HPC := Lib.hid (show ∀ W, Below w3.heap.size w3 W → Calls Tryz.prog 71 #[.slice Av vars.length cv, .agg #[.int .i64 p.k, .int .i64 p.n, .int .i64 p.t, .string p.s, .string p.f], .slice none 0 0] W (fun e w' => ∃ A c, e = .returned (.tuple #[.agg #[.int .i64 rt, .slice A rn.length c], .int .i64 er]) ∧ Nums w' A c rn ∧ Below W.heap.size W w') from fun W hW => by
          have hWw := below_call hW HB3.out
          have h := HPT.out W (below_call hWw HB.out) p (st.drop 0) (.slice none 0 0) (HTS.out W hWw) (fun r hr => (HNU.out r (List.mem_of_mem_drop hr)).below hWw) HTL.out HK1.out
          rw [HQ.out] at h
          exact h)
        clear hb3 HT
        go_cut [11, 12] (fun s11 s12 wx => ∃ (B : Nat) (A4 : Option Addr) (c4 : Nat), s11 = .pointer (some ⟨B, 0, none⟩) ∧ s12 = .int .i64 er ∧ Aside (Below w3.heap.size w3 wx ∧ w3.heap.size ≤ B ∧ B < wx.heap.size ∧ wx.cell? ⟨B, 0, none⟩ = some (.int .i64 rt) ∧ wx.cell? ⟨B, 1, none⟩ = some (.slice A4 rn.length c4) ∧ Nums wx A4 c4 rn))
        case first =>
          go_region_held3 (fun W => W.cell? ⟨b, off + k * 5, none⟩ = some (.int .i64 p.k) ∧ W.cell? ⟨b, off + k * 5 + 1, none⟩ = some (.int .i64 p.n) ∧ W.cell? ⟨b, off + k * 5 + 2, none⟩ = some (.int .i64 p.t) ∧ W.cell? ⟨b, off + k * 5 + 3, none⟩ = some (.string p.s) ∧ W.cell? ⟨b, off + k * 5 + 4, none⟩ = some (.string p.f)) (first | exact HK.out _ (by (repeat' (first | (with_reducible exact Below.refl _ _) | (with_reducible refine below_alloc ?_) | (with_reducible refine below_drew ?_) | (with_reducible refine below_drewN ?_) | (with_reducible refine below_set (by first | (simp; done) | (simp; omega)) ?_) | (with_reducible refine below_call (by with_reducible assumption) ?_))))) (first | (go_at_call 71; refine (HPC.out _ (by (repeat' (first | (with_reducible exact Below.refl _ _) | (with_reducible refine below_alloc ?_) | (with_reducible refine below_drew ?_) | (with_reducible refine below_drewN ?_) | (with_reducible refine below_set (by first | (simp; done) | (simp; omega)) ?_) | (with_reducible refine below_call (by with_reducible assumption) ?_))))).mono ?_; rintro e w4 ⟨A4, c4', rfl, hN4, hb4⟩; have HN4 := Lib.hid hN4; clear hN4; (try have HX4 := Lib.hid ((hb4.block w3.heap.size (by simp)).trans (heap_alloc_new _ _))); obtain ⟨hc4, hf4⟩ := bcell hb4; have hz4 := hb4.size; (try simp at hz4)))
          all_goals go_wp2_with fail
          all_goals go_meet
          all_goals refine ⟨_, A4, c4', rfl, rfl, ?_⟩
          all_goals refine (show Aside _ from ⟨by (repeat' (first | (with_reducible exact Below.refl _ _) | (with_reducible refine below_alloc ?_) | (with_reducible refine below_drew ?_) | (with_reducible refine below_drewN ?_) | (with_reducible refine below_set (by first | (simp; done) | (simp; omega)) ?_) | (with_reducible refine below_call (by with_reducible assumption) ?_))), by omega, by first | (simp; done) | (simp; omega), ?_, ?_, (by first | exact HN4.out.put HX4.out (by decide) _ _ _ _ | exact HN4.out.below (by (repeat' (first | (with_reducible exact Below.refl _ _) | (with_reducible refine below_alloc ?_) | (with_reducible refine below_drew ?_) | (with_reducible refine below_drewN ?_) | (with_reducible refine below_set (by first | (simp; done) | (simp; omega)) ?_) | (with_reducible refine below_call (by with_reducible assumption) ?_)))))⟩)
          all_goals first | (rw [World.cell?_alloc_at _ _ _ _ rfl]; rfl) | go_simp
        case rest =>
          obtain ⟨B, A4, c4, rfl, rfl, hBw, hBge, hBlt, q0, q1, hN4⟩ := hcut
          have HN4 := Lib.hid hN4
          have HBC := Lib.hid (below_call hBw HB3.out)
          have hXc := (HBC.out.block _ hszx).trans HX.out
          have HXC2 := Lib.hid hXc
          have hcz := HBC.out.size
          clear hBw hN4 HPC HK HPT
          by_cases her : er = 0
          · subst her
            have HNX := Lib.hid (show rGo vars (x.drop (k + 1)) ((st.take 0).map Rr.v ++ [⟨rt, rn⟩]) = rGo vars x [] by have h := HNX.out; rw [if_neg (by simp)] at h; exact h)
            clear hXc
            go_upto_region 15 with fail
            rename_i K0 hK0 hjunk
            have htkl : (st.take 0).length = 0 := by rw [List.length_take]; omega
            obtain ⟨tk, htk⟩ : ∃ tk, st.take 0 = tk := ⟨_, rfl⟩
            have HTE := Lib.hid htk
            rw [htk] at HTK htkl HNX HSU
            clear htk
            refine wp_region_treeF (by kernel_rfl) _ _ (dropLast_last _ (by simp)) (by kernel_rfl) (by simp) (stF wc.heap.size (.slice none 0 0) 0 (.slice none 0 0) tk (Rr.mk rt A4 c4 rn)) 56 _ _ ?_ ?_
            · dsimp only [List.dropLast]
              refine ⟨fun a w' hJ hD K' hK => ?_, ?_⟩
              · exact tree_next stF_below hJ (Nat.le_of_ble_eq_true rfl) (Nat.le_of_ble_eq_true rfl) hK _ _ (below_alloc (Below.refl _ _)) ⟨_, rfl, hJ.b.size, heap_alloc_new _ _⟩ |> wp_val (v := .slice (some ⟨w'.heap.size, 0, none⟩) 0 0) (w' := w'.alloc (.cells #[] 83)) (by go_simp)
              refine ⟨fun a w' hJ hD K' hK => ?_, ?_⟩
              · have hx := raw (show a.eval (.tmp 8) = .slice none 0 0 from hJ.old 8 (.inl (by decide)))
                exact tree_next stF_below hJ (Nat.le_of_ble_eq_true rfl) (Nat.le_of_ble_eq_true rfl) hK _ _ (Below.refl _ _) rfl |> wp_val (v := .slice none 0 0) (w' := w') (by go_simp)
              refine ⟨fun a w' hJ hD K' hK => ?_, ?_⟩
              · have hx := raw (show a.eval (.tmp 10) = .int .i64 (0 : Int) from hJ.old 10 (.inl (by decide)))
                exact tree_next stF_below hJ (Nat.le_of_ble_eq_true rfl) (Nat.le_of_ble_eq_true rfl) hK _ _ (Below.refl _ _) rfl |> wp_val (v := .int .i64 (0 : Int)) (w' := w') (by go_simp)
              refine ⟨fun a w' hJ hD K' hK => ?_, ?_⟩
              · obtain ⟨d0, d1, -⟩ := hD
                have hx := raw (show a.eval (.tmp 57) = .slice none 0 0 from d0 rfl)
                have hy := raw (show a.eval (.tmp 58) = .int .i64 (0 : Int) from d1 rfl)
                exact tree_next stF_below hJ (Nat.le_of_ble_eq_true rfl) (Nat.le_of_ble_eq_true rfl) hK _ _ (Below.refl _ _) rfl |> wp_val (v := .slice none 0 0) (w' := w') (by go_simp)
              refine ⟨fun a w' hJ hD K' hK => ?_, ?_⟩
              · obtain ⟨d0, d1, -⟩ := hD
                have hl : LitAt wc.heap.size 83 w' (a.eval (.tmp 56)) := d0 rfl
                have hsrc : a.eval (.tmp 59) = .slice none 0 0 := d1 rfl
                refine wp_lit_app w' (.tmp 56) (.tmp 59) 108 rfl wc.heap.size 83 _ 2 32 Tryz.underlying108 info_rv rfl (by decide) encRr encRr_len one_Rr hl tk (by rw [hsrc]; exact HTK.out _ (below_call hJ.b HBC.out)) (by unfold maxLen; omega) (by omega) ?_
                intro v1 w1' ho hb
                exact tree_next stF_below hJ (Nat.le_of_ble_eq_true rfl) (Nat.le_of_ble_eq_true rfl) hK _ _ hb ho
              refine ⟨fun a w' hJ hD K' hK => ?_, ?_⟩
              · have hx := raw (show a.eval (.tmp 11) = .pointer (some ⟨B, 0, none⟩) from hJ.old 11 (.inl (by decide)))
                have e0 := (hJ.b.cell (p := ⟨B, 0, none⟩) hBlt).trans q0
                have e1 := (hJ.b.cell (p := ⟨B, 1, none⟩) hBlt).trans q1
                exact tree_next stF_below hJ (Nat.le_of_ble_eq_true rfl) (Nat.le_of_ble_eq_true rfl) hK _ _ (Below.refl _ _) rfl |> wp_val (v := .agg #[.int .i64 rt, .slice A4 rn.length c4]) (w' := w') (by go_simp)
              refine ⟨fun a w' hJ hD K' hK => ?_, ?_⟩
              · obtain ⟨d0, -⟩ := hD
                have hx := raw (show a.eval (.tmp 61) = .agg #[.int .i64 rt, .slice A4 rn.length c4] from d0 rfl)
                exact tree_next stF_below hJ (Nat.le_of_ble_eq_true rfl) (Nat.le_of_ble_eq_true rfl) hK _ _ (below_alloc (Below.refl _ _)) (Sl.lit encRr_len w' #[.int .i64 rt, .slice A4 rn.length c4] 83 1 [Rr.mk rt A4 c4 rn] rfl rfl (by simp)) |> wp_val (v := .slice (some ⟨w'.heap.size, 0, none⟩) 1 1) (w' := w'.alloc (.cells #[.int .i64 rt, .slice A4 rn.length c4] 83)) (by go_simp)
              refine ⟨fun a w' hJ hD K' hK => ?_, trivial⟩
              · obtain ⟨d3, d5, -⟩ := hD
                have ho3 : w'.ownsRow wc.heap.size 83 2 (a.eval (.tmp 60)) tk.length (tk.flatMap encRr) := d3 rfl
                have hsl : Sl encRr 2 w' (a.eval (.tmp 62)) [Rr.mk rt A4 c4 rn] := d5 rfl
                refine wp_own_app w' (.tmp 60) (.tmp 62) 108 rfl wc.heap.size 83 _ 2 32 Tryz.underlying108 info_rv rfl (by decide) encRr encRr_len one_Rr _ _ _ rfl ho3 _ [Rr.mk rt A4 c4 rn] rfl hsl (by unfold maxLen; simp; omega) (by simp; omega) hJ.b.size ?_
                intro v1 w1' ho hg'
                exact tree_root hJ (Nat.le_of_ble_eq_true rfl) (Nat.le_of_ble_eq_true rfl) (by kernel_rfl) hK _ _ ((Below.refl _ _).grown hg' hJ.b.size (own_ge ho3 (Nat.le_refl _))) ho
            · intro a' w' hJ hF K' hK
              refine wp_assign (x := .tmp 63) rfl ?_
              change K' (a'.put (some 8) (a'.eval (.tmp 63))) w'
              refine hK _ _ ?_
              change w'.ownsRow wc.heap.size 83 2 (a'.eval (.tmp 63)) (tk.length + [Rr.mk rt A4 c4 rn].length) (tk.flatMap encRr ++ [Rr.mk rt A4 c4 rn].flatMap encRr) at hF
              generalize a'.eval (.tmp 63) = v at hF ⊢
              (obtain ⟨tl, htl, rfl⟩ := act_tree hJ (by simp); simp only [List.dropLast, List.length_cons, List.length_nil, Nat.reduceAdd, Nat.reduceSub] at htl; (iterate 8 (have htl2 := list_cons_of htl; clear htl; obtain ⟨_, tl, htl, rfl⟩ := htl2)); obtain rfl := List.eq_nil_of_length_eq_zero htl; simp only [Act.put, List.dropLast, List.length_cons, List.length_nil, Nat.reduceAdd, List.take_succ_cons, List.take_zero, List.drop_succ_cons, List.drop_zero, List.drop_nil, List.append_nil, List.cons_append, List.nil_append, List.setIfInBounds_toArray, List.set_cons_zero, List.set_cons_succ])
              have HF := Lib.hid hF
              have HJ := Lib.hid hJ.b
              clear hF hJ
              show K0 _ _
              refine hK0 _ _ ?_
              go_wp2
              go_roundg (x.length - (k + 1))
              case measure => omega
              case rel =>
                have hbr := below_call HJ.out HBC.out
                refine ⟨k + 1, tk ++ [Rr.mk rt A4 c4 rn], depthStep p dst, by go_num, by omega, by omega, ?_, ?_, ?_, ?_, ?_, ?_, ⟨_, HDN.out⟩, below_call hbr HB.out, (show Aside _ from (HJ.out.block _ (by omega)).trans HXC2.out)⟩
                · rw [List.length_append, htkl]; have h3 := HM2.out; first | (simp; done) | (simp; omega)
                · have h1 := HDL.out; have h2 := HE.out; have h3 := HM2.out; rw [List.length_append, htkl]; simp only [List.length_singleton]; omega
                · show w'.ownsRow (w.heap.size + 1) 83 2 v (tk ++ [Rr.mk rt A4 c4 rn]).length ((tk ++ [Rr.mk rt A4 c4 rn]).flatMap encRr)
                  rw [List.length_append, List.flatMap_append]
                  exact own_base HF.out (by omega)
                · show ∀ r ∈ tk ++ [Rr.mk rt A4 c4 rn], Nums w' r.A r.c r.nums
                  intro r hr
                  rcases List.mem_append.1 hr with hr | hr
                  · rw [← HTE.out] at hr
                    exact (HNU.out r (List.mem_of_mem_take hr)).below hbr
                  · obtain rfl := List.mem_singleton.1 hr
                    exact HN4.out.below HJ.out
                · show ((tk ++ [Rr.mk rt A4 c4 rn]).map (fun r => r.nums.length)).sum ≤ k + 1
                  have h1 := HLN.out
                  have h2 := HSU.out
                  rw [List.map_map] at h1
                  rw [List.map_append, List.sum_append]
                  have h3 : ((st.drop 0).map ((fun r : Rv => r.nums.length) ∘ Rr.v)).sum = ((st.drop 0).map (fun r => r.nums.length)).sum := rfl
                  rw [h3] at h1
                  simp only [List.map_cons, List.map_nil, List.sum_cons, List.sum_nil]
                  omega
                · show rGo vars (x.drop (k + 1)) ((tk ++ [Rr.mk rt A4 c4 rn]).map Rr.v) = rGo vars x []
                  rw [List.map_append]
                  exact HNX.out
          · have hrb := ne_i her
            have hrn : (er != 0) = true := by simpa using her
            have HV := Lib.hid (show rReck vars x = (⟨0, []⟩, er) by rw [HR.out, ← HNX.out, if_pos her])
            have r0 := cell_of_row _ _ 0 _ _ _ hXc
            have r1 := cell_of_row _ _ 1 _ _ _ hXc
            have f0 := frozen_row 0 hXc
            have f1 := frozen_row 1 hXc
            simp at r0 r1
            go_wp2
            ((try simp only [Exit.inBlock, Exit.then]); refine bodyPost_ret (v := ?_) ?_ rfl ?_; rotate_left; (focus (rw [results_cell_tmp rfl]; go_simp; (first | rfl | exact ⟨rfl, rfl⟩))))
            rw [HV.out]
            exact ⟨none, 0, rfl, Nums.nil _, below_set (Nat.le_refl _) (below_set (Nat.le_refl _) (below_call HBC.out hB))⟩
      · by_cases hcm : cap = m
        · have hcapz : (st.length : Int) ≤ (cap : Int) := by omega
          have hmcz : (m : Int) ≤ (cap : Int) := by omega
          have h00 : (0 : Int) ≤ (st.length : Int) := Int.natCast_nonneg _
          have hmc : m = cap := hcm.symm
          have hn0 : st.length = m := by omega
          have HN0 := Lib.hid hn0
          clear hcm hn0
          subst hmc
          have HTS := Lib.hid (show ∀ W, Below wr.heap.size wr W → Sl encRr 2 W (.slice (some ⟨g, 0, none⟩) 0 0) (st.drop m) from fun W hW => by
            rw [List.drop_of_length_le (by have := HN0.out; omega)]
            exact ⟨_, 0, rfl, Nat.le_refl _, by decide, fun i x hx => by simp at hx⟩)
          have HTK := Lib.hid (show ∀ W, Below wr.heap.size wr W → Sl encRr 2 W (.slice (some ⟨g, 0, none⟩) m m) (st.take m) from fun W hW => by
            have h := Sl.own encRr_len (own_takeL encRr_len (own_below HO.out hW) hmN) (by rw [List.length_take]; omega)
            exact h)
          go_upto_region 12 with (go_at_call 51; refine (HT.out _).mono ?_; rintro e w3 ⟨rfl, hb3⟩; have hz3 := hb3.size; (try simp at hz3))
          have HB3 := Lib.hid hb3
          have HK := Lib.hid (show ∀ W, Below w3.heap.size w3 W → (W.cell? ⟨b, off + k * 5, none⟩ = some (.int .i64 p.k) ∧ W.cell? ⟨b, off + k * 5 + 1, none⟩ = some (.int .i64 p.n) ∧ W.cell? ⟨b, off + k * 5 + 2, none⟩ = some (.int .i64 p.t) ∧ W.cell? ⟨b, off + k * 5 + 3, none⟩ = some (.string p.s) ∧ W.cell? ⟨b, off + k * 5 + 4, none⟩ = some (.string p.f)) from fun W hW => by
            have h : ∀ j, W.cell? ⟨b, j, none⟩ = wr.cell? ⟨b, j, none⟩ := fun j => (hW.cell (p := ⟨b, j, none⟩) (by simp; omega)).trans (hb3.cell (p := ⟨b, j, none⟩) (by simp; omega))
            rw [h, h, h, h, h]
            exact ⟨c0, c1, c2, c3, c4⟩)
          have HPC := Lib.hid (show ∀ W, Below w3.heap.size w3 W → Calls Tryz.prog 71 #[.slice Av vars.length cv, .agg #[.int .i64 p.k, .int .i64 p.n, .int .i64 p.t, .string p.s, .string p.f], .slice (some ⟨g, 0, none⟩) 0 0] W (fun e w' => ∃ A c, e = .returned (.tuple #[.agg #[.int .i64 rt, .slice A rn.length c], .int .i64 er]) ∧ Nums w' A c rn ∧ Below W.heap.size W w') from fun W hW => by
            have hWw := below_call hW HB3.out
            have h := HPT.out W (below_call hWw HB.out) p (st.drop m) (.slice (some ⟨g, 0, none⟩) 0 0) (HTS.out W hWw) (fun r hr => (HNU.out r (List.mem_of_mem_drop hr)).below hWw) HTL.out HK1.out
            rw [HQ.out] at h
            exact h)
          clear hb3 HT
          go_cut [11, 12] (fun s11 s12 wx => ∃ (B : Nat) (A4 : Option Addr) (c4 : Nat), s11 = .pointer (some ⟨B, 0, none⟩) ∧ s12 = .int .i64 er ∧ Aside (Below w3.heap.size w3 wx ∧ w3.heap.size ≤ B ∧ B < wx.heap.size ∧ wx.cell? ⟨B, 0, none⟩ = some (.int .i64 rt) ∧ wx.cell? ⟨B, 1, none⟩ = some (.slice A4 rn.length c4) ∧ Nums wx A4 c4 rn))
          case first =>
            go_region_held3 (fun W => W.cell? ⟨b, off + k * 5, none⟩ = some (.int .i64 p.k) ∧ W.cell? ⟨b, off + k * 5 + 1, none⟩ = some (.int .i64 p.n) ∧ W.cell? ⟨b, off + k * 5 + 2, none⟩ = some (.int .i64 p.t) ∧ W.cell? ⟨b, off + k * 5 + 3, none⟩ = some (.string p.s) ∧ W.cell? ⟨b, off + k * 5 + 4, none⟩ = some (.string p.f)) (first | exact HK.out _ (by (repeat' (first | (with_reducible exact Below.refl _ _) | (with_reducible refine below_alloc ?_) | (with_reducible refine below_drew ?_) | (with_reducible refine below_drewN ?_) | (with_reducible refine below_set (by first | (simp; done) | (simp; omega)) ?_) | (with_reducible refine below_call (by with_reducible assumption) ?_))))) (first | (go_at_call 71; refine (HPC.out _ (by (repeat' (first | (with_reducible exact Below.refl _ _) | (with_reducible refine below_alloc ?_) | (with_reducible refine below_drew ?_) | (with_reducible refine below_drewN ?_) | (with_reducible refine below_set (by first | (simp; done) | (simp; omega)) ?_) | (with_reducible refine below_call (by with_reducible assumption) ?_))))).mono ?_; rintro e w4 ⟨A4, c4', rfl, hN4, hb4⟩; have HN4 := Lib.hid hN4; clear hN4; (try have HX4 := Lib.hid ((hb4.block w3.heap.size (by simp)).trans (heap_alloc_new _ _))); obtain ⟨hc4, hf4⟩ := bcell hb4; have hz4 := hb4.size; (try simp at hz4)))
            all_goals go_wp2_with fail
            all_goals go_meet
            all_goals refine ⟨_, A4, c4', rfl, rfl, ?_⟩
            all_goals refine (show Aside _ from ⟨by (repeat' (first | (with_reducible exact Below.refl _ _) | (with_reducible refine below_alloc ?_) | (with_reducible refine below_drew ?_) | (with_reducible refine below_drewN ?_) | (with_reducible refine below_set (by first | (simp; done) | (simp; omega)) ?_) | (with_reducible refine below_call (by with_reducible assumption) ?_))), by omega, by first | (simp; done) | (simp; omega), ?_, ?_, (by first | exact HN4.out.put HX4.out (by decide) _ _ _ _ | exact HN4.out.below (by (repeat' (first | (with_reducible exact Below.refl _ _) | (with_reducible refine below_alloc ?_) | (with_reducible refine below_drew ?_) | (with_reducible refine below_drewN ?_) | (with_reducible refine below_set (by first | (simp; done) | (simp; omega)) ?_) | (with_reducible refine below_call (by with_reducible assumption) ?_)))))⟩)
            all_goals first | (rw [World.cell?_alloc_at _ _ _ _ rfl]; rfl) | go_simp
          case rest =>
            obtain ⟨B, A4, c4, rfl, rfl, hBw, hBge, hBlt, q0, q1, hN4⟩ := hcut
            have HN4 := Lib.hid hN4
            have HBC := Lib.hid (below_call hBw HB3.out)
            have hXc := (HBC.out.block _ hszx).trans HX.out
            have HXC2 := Lib.hid hXc
            have hcz := HBC.out.size
            clear hBw hN4 HPC HK HPT
            by_cases her : er = 0
            · subst her
              have HNX := Lib.hid (show rGo vars (x.drop (k + 1)) ((st.take m).map Rr.v ++ [⟨rt, rn⟩]) = rGo vars x [] by have h := HNX.out; rw [if_neg (by simp)] at h; exact h)
              clear hXc
              go_upto_region 15 with fail
              rename_i K0 hK0 hjunk
              have htkl : (st.take m).length = m := by rw [List.length_take]; omega
              obtain ⟨tk, htk⟩ : ∃ tk, st.take m = tk := ⟨_, rfl⟩
              have HTE := Lib.hid htk
              rw [htk] at HTK htkl HNX HSU
              clear htk
              refine wp_region_treeF (by kernel_rfl) _ _ (dropLast_last _ (by simp)) (by kernel_rfl) (by simp) (stF wc.heap.size (.slice (some ⟨g, 0, none⟩) st.length m) m (.slice (some ⟨g, 0, none⟩) m m) tk (Rr.mk rt A4 c4 rn)) 56 _ _ ?_ ?_
              · dsimp only [List.dropLast]
                refine ⟨fun a w' hJ hD K' hK => ?_, ?_⟩
                · exact tree_next stF_below hJ (Nat.le_of_ble_eq_true rfl) (Nat.le_of_ble_eq_true rfl) hK _ _ (below_alloc (Below.refl _ _)) ⟨_, rfl, hJ.b.size, heap_alloc_new _ _⟩ |> wp_val (v := .slice (some ⟨w'.heap.size, 0, none⟩) 0 0) (w' := w'.alloc (.cells #[] 83)) (by go_simp)
                refine ⟨fun a w' hJ hD K' hK => ?_, ?_⟩
                · have hx := raw (show a.eval (.tmp 8) = .slice (some ⟨g, 0, none⟩) st.length m from hJ.old 8 (.inl (by decide)))
                  exact tree_next stF_below hJ (Nat.le_of_ble_eq_true rfl) (Nat.le_of_ble_eq_true rfl) hK _ _ (Below.refl _ _) rfl |> wp_val (v := .slice (some ⟨g, 0, none⟩) st.length m) (w' := w') (by go_simp)
                refine ⟨fun a w' hJ hD K' hK => ?_, ?_⟩
                · have hx := raw (show a.eval (.tmp 10) = .int .i64 (m : Int) from hJ.old 10 (.inl (by decide)))
                  exact tree_next stF_below hJ (Nat.le_of_ble_eq_true rfl) (Nat.le_of_ble_eq_true rfl) hK _ _ (Below.refl _ _) rfl |> wp_val (v := .int .i64 (m : Int)) (w' := w') (by go_simp)
                refine ⟨fun a w' hJ hD K' hK => ?_, ?_⟩
                · obtain ⟨d0, d1, -⟩ := hD
                  have hx := raw (show a.eval (.tmp 57) = .slice (some ⟨g, 0, none⟩) st.length m from d0 rfl)
                  have hy := raw (show a.eval (.tmp 58) = .int .i64 (m : Int) from d1 rfl)
                  exact tree_next stF_below hJ (Nat.le_of_ble_eq_true rfl) (Nat.le_of_ble_eq_true rfl) hK _ _ (Below.refl _ _) rfl |> wp_val (v := .slice (some ⟨g, 0, none⟩) m m) (w' := w') (by go_simp)
                refine ⟨fun a w' hJ hD K' hK => ?_, ?_⟩
                · obtain ⟨d0, d1, -⟩ := hD
                  have hl : LitAt wc.heap.size 83 w' (a.eval (.tmp 56)) := d0 rfl
                  have hsrc : a.eval (.tmp 59) = .slice (some ⟨g, 0, none⟩) m m := d1 rfl
                  refine wp_lit_app w' (.tmp 56) (.tmp 59) 108 rfl wc.heap.size 83 _ 2 32 Tryz.underlying108 info_rv rfl (by decide) encRr encRr_len one_Rr hl tk (by rw [hsrc]; exact HTK.out _ (below_call hJ.b HBC.out)) (by unfold maxLen; omega) (by omega) ?_
                  intro v1 w1' ho hb
                  exact tree_next stF_below hJ (Nat.le_of_ble_eq_true rfl) (Nat.le_of_ble_eq_true rfl) hK _ _ hb ho
                refine ⟨fun a w' hJ hD K' hK => ?_, ?_⟩
                · have hx := raw (show a.eval (.tmp 11) = .pointer (some ⟨B, 0, none⟩) from hJ.old 11 (.inl (by decide)))
                  have e0 := (hJ.b.cell (p := ⟨B, 0, none⟩) hBlt).trans q0
                  have e1 := (hJ.b.cell (p := ⟨B, 1, none⟩) hBlt).trans q1
                  exact tree_next stF_below hJ (Nat.le_of_ble_eq_true rfl) (Nat.le_of_ble_eq_true rfl) hK _ _ (Below.refl _ _) rfl |> wp_val (v := .agg #[.int .i64 rt, .slice A4 rn.length c4]) (w' := w') (by go_simp)
                refine ⟨fun a w' hJ hD K' hK => ?_, ?_⟩
                · obtain ⟨d0, -⟩ := hD
                  have hx := raw (show a.eval (.tmp 61) = .agg #[.int .i64 rt, .slice A4 rn.length c4] from d0 rfl)
                  exact tree_next stF_below hJ (Nat.le_of_ble_eq_true rfl) (Nat.le_of_ble_eq_true rfl) hK _ _ (below_alloc (Below.refl _ _)) (Sl.lit encRr_len w' #[.int .i64 rt, .slice A4 rn.length c4] 83 1 [Rr.mk rt A4 c4 rn] rfl rfl (by simp)) |> wp_val (v := .slice (some ⟨w'.heap.size, 0, none⟩) 1 1) (w' := w'.alloc (.cells #[.int .i64 rt, .slice A4 rn.length c4] 83)) (by go_simp)
                refine ⟨fun a w' hJ hD K' hK => ?_, trivial⟩
                · obtain ⟨d3, d5, -⟩ := hD
                  have ho3 : w'.ownsRow wc.heap.size 83 2 (a.eval (.tmp 60)) tk.length (tk.flatMap encRr) := d3 rfl
                  have hsl : Sl encRr 2 w' (a.eval (.tmp 62)) [Rr.mk rt A4 c4 rn] := d5 rfl
                  refine wp_own_app w' (.tmp 60) (.tmp 62) 108 rfl wc.heap.size 83 _ 2 32 Tryz.underlying108 info_rv rfl (by decide) encRr encRr_len one_Rr _ _ _ rfl ho3 _ [Rr.mk rt A4 c4 rn] rfl hsl (by unfold maxLen; simp; omega) (by simp; omega) hJ.b.size ?_
                  intro v1 w1' ho hg'
                  exact tree_root hJ (Nat.le_of_ble_eq_true rfl) (Nat.le_of_ble_eq_true rfl) (by kernel_rfl) hK _ _ ((Below.refl _ _).grown hg' hJ.b.size (own_ge ho3 (Nat.le_refl _))) ho
              · intro a' w' hJ hF K' hK
                refine wp_assign (x := .tmp 63) rfl ?_
                change K' (a'.put (some 8) (a'.eval (.tmp 63))) w'
                refine hK _ _ ?_
                change w'.ownsRow wc.heap.size 83 2 (a'.eval (.tmp 63)) (tk.length + [Rr.mk rt A4 c4 rn].length) (tk.flatMap encRr ++ [Rr.mk rt A4 c4 rn].flatMap encRr) at hF
                generalize a'.eval (.tmp 63) = v at hF ⊢
                (obtain ⟨tl, htl, rfl⟩ := act_tree hJ (by simp); simp only [List.dropLast, List.length_cons, List.length_nil, Nat.reduceAdd, Nat.reduceSub] at htl; (iterate 8 (have htl2 := list_cons_of htl; clear htl; obtain ⟨_, tl, htl, rfl⟩ := htl2)); obtain rfl := List.eq_nil_of_length_eq_zero htl; simp only [Act.put, List.dropLast, List.length_cons, List.length_nil, Nat.reduceAdd, List.take_succ_cons, List.take_zero, List.drop_succ_cons, List.drop_zero, List.drop_nil, List.append_nil, List.cons_append, List.nil_append, List.setIfInBounds_toArray, List.set_cons_zero, List.set_cons_succ])
                have HF := Lib.hid hF
                have HJ := Lib.hid hJ.b
                clear hF hJ
                show K0 _ _
                refine hK0 _ _ ?_
                go_wp2
                go_roundg (x.length - (k + 1))
                case measure => omega
                case rel =>
                  have hbr := below_call HJ.out HBC.out
                  refine ⟨k + 1, tk ++ [Rr.mk rt A4 c4 rn], depthStep p dst, by go_num, by omega, by omega, ?_, ?_, ?_, ?_, ?_, ?_, ⟨_, HDN.out⟩, below_call hbr HB.out, (show Aside _ from (HJ.out.block _ (by omega)).trans HXC2.out)⟩
                  · rw [List.length_append, htkl]; have h3 := HM2.out; first | (simp; done) | (simp; omega)
                  · have h1 := HDL.out; have h2 := HE.out; have h3 := HM2.out; rw [List.length_append, htkl]; simp only [List.length_singleton]; omega
                  · show w'.ownsRow (w.heap.size + 1) 83 2 v (tk ++ [Rr.mk rt A4 c4 rn]).length ((tk ++ [Rr.mk rt A4 c4 rn]).flatMap encRr)
                    rw [List.length_append, List.flatMap_append]
                    exact own_base HF.out (by omega)
                  · show ∀ r ∈ tk ++ [Rr.mk rt A4 c4 rn], Nums w' r.A r.c r.nums
                    intro r hr
                    rcases List.mem_append.1 hr with hr | hr
                    · rw [← HTE.out] at hr
                      exact (HNU.out r (List.mem_of_mem_take hr)).below hbr
                    · obtain rfl := List.mem_singleton.1 hr
                      exact HN4.out.below HJ.out
                  · show ((tk ++ [Rr.mk rt A4 c4 rn]).map (fun r => r.nums.length)).sum ≤ k + 1
                    have h1 := HLN.out
                    have h2 := HSU.out
                    rw [List.map_map] at h1
                    rw [List.map_append, List.sum_append]
                    have h3 : ((st.drop m).map ((fun r : Rv => r.nums.length) ∘ Rr.v)).sum = ((st.drop m).map (fun r => r.nums.length)).sum := rfl
                    rw [h3] at h1
                    simp only [List.map_cons, List.map_nil, List.sum_cons, List.sum_nil]
                    omega
                  · show rGo vars (x.drop (k + 1)) ((tk ++ [Rr.mk rt A4 c4 rn]).map Rr.v) = rGo vars x []
                    rw [List.map_append]
                    exact HNX.out
            · have hrb := ne_i her
              have hrn : (er != 0) = true := by simpa using her
              have HV := Lib.hid (show rReck vars x = (⟨0, []⟩, er) by rw [HR.out, ← HNX.out, if_pos her])
              have r0 := cell_of_row _ _ 0 _ _ _ hXc
              have r1 := cell_of_row _ _ 1 _ _ _ hXc
              have f0 := frozen_row 0 hXc
              have f1 := frozen_row 1 hXc
              simp at r0 r1
              go_wp2
              ((try simp only [Exit.inBlock, Exit.then]); refine bodyPost_ret (v := ?_) ?_ rfl ?_; rotate_left; (focus (rw [results_cell_tmp rfl]; go_simp; (first | rfl | exact ⟨rfl, rfl⟩))))
              rw [HV.out]
              exact ⟨none, 0, rfl, Nums.nil _, below_set (Nat.le_refl _) (below_set (Nat.le_refl _) (below_call HBC.out hB))⟩
        · have hcapz : (st.length : Int) ≤ (cap : Int) := by omega
          have hmcz : (m : Int) ≤ (cap : Int) := by omega
          have h00 : (0 : Int) ≤ (st.length : Int) := Int.natCast_nonneg _
          have hcm' : ¬ cap = m := hcm
          have HTS := Lib.hid (show ∀ W, Below wr.heap.size wr W → Sl encRr 2 W (.slice (some ⟨g, m * 2, none⟩) (st.length - m) (cap - m)) (st.drop m) from fun W hW => by
            have h := Sl.drop (Sl.own encRr_len (own_below HO.out hW) rfl) m hmN
            rw [Nat.zero_add] at h
            exact h)
          have HTK := Lib.hid (show ∀ W, Below wr.heap.size wr W → Sl encRr 2 W (.slice (some ⟨g, 0, none⟩) m cap) (st.take m) from fun W hW => by
            have h := Sl.own encRr_len (own_takeL encRr_len (own_below HO.out hW) hmN) (by rw [List.length_take]; omega)
            exact h)
          go_upto_region 12 with (go_at_call 51; refine (HT.out _).mono ?_; rintro e w3 ⟨rfl, hb3⟩; have hz3 := hb3.size; (try simp at hz3))
          have HB3 := Lib.hid hb3
          have HK := Lib.hid (show ∀ W, Below w3.heap.size w3 W → (W.cell? ⟨b, off + k * 5, none⟩ = some (.int .i64 p.k) ∧ W.cell? ⟨b, off + k * 5 + 1, none⟩ = some (.int .i64 p.n) ∧ W.cell? ⟨b, off + k * 5 + 2, none⟩ = some (.int .i64 p.t) ∧ W.cell? ⟨b, off + k * 5 + 3, none⟩ = some (.string p.s) ∧ W.cell? ⟨b, off + k * 5 + 4, none⟩ = some (.string p.f)) from fun W hW => by
            have h : ∀ j, W.cell? ⟨b, j, none⟩ = wr.cell? ⟨b, j, none⟩ := fun j => (hW.cell (p := ⟨b, j, none⟩) (by simp; omega)).trans (hb3.cell (p := ⟨b, j, none⟩) (by simp; omega))
            rw [h, h, h, h, h]
            exact ⟨c0, c1, c2, c3, c4⟩)
          have HPC := Lib.hid (show ∀ W, Below w3.heap.size w3 W → Calls Tryz.prog 71 #[.slice Av vars.length cv, .agg #[.int .i64 p.k, .int .i64 p.n, .int .i64 p.t, .string p.s, .string p.f], .slice (some ⟨g, m * 2, none⟩) (st.length - m) (cap - m)] W (fun e w' => ∃ A c, e = .returned (.tuple #[.agg #[.int .i64 rt, .slice A rn.length c], .int .i64 er]) ∧ Nums w' A c rn ∧ Below W.heap.size W w') from fun W hW => by
            have hWw := below_call hW HB3.out
            have h := HPT.out W (below_call hWw HB.out) p (st.drop m) (.slice (some ⟨g, m * 2, none⟩) (st.length - m) (cap - m)) (HTS.out W hWw) (fun r hr => (HNU.out r (List.mem_of_mem_drop hr)).below hWw) HTL.out HK1.out
            rw [HQ.out] at h
            exact h)
          clear hb3 HT
          go_cut [11, 12] (fun s11 s12 wx => ∃ (B : Nat) (A4 : Option Addr) (c4 : Nat), s11 = .pointer (some ⟨B, 0, none⟩) ∧ s12 = .int .i64 er ∧ Aside (Below w3.heap.size w3 wx ∧ w3.heap.size ≤ B ∧ B < wx.heap.size ∧ wx.cell? ⟨B, 0, none⟩ = some (.int .i64 rt) ∧ wx.cell? ⟨B, 1, none⟩ = some (.slice A4 rn.length c4) ∧ Nums wx A4 c4 rn))
          case first =>
            go_region_held3 (fun W => W.cell? ⟨b, off + k * 5, none⟩ = some (.int .i64 p.k) ∧ W.cell? ⟨b, off + k * 5 + 1, none⟩ = some (.int .i64 p.n) ∧ W.cell? ⟨b, off + k * 5 + 2, none⟩ = some (.int .i64 p.t) ∧ W.cell? ⟨b, off + k * 5 + 3, none⟩ = some (.string p.s) ∧ W.cell? ⟨b, off + k * 5 + 4, none⟩ = some (.string p.f)) (first | exact HK.out _ (by (repeat' (first | (with_reducible exact Below.refl _ _) | (with_reducible refine below_alloc ?_) | (with_reducible refine below_drew ?_) | (with_reducible refine below_drewN ?_) | (with_reducible refine below_set (by first | (simp; done) | (simp; omega)) ?_) | (with_reducible refine below_call (by with_reducible assumption) ?_))))) (first | (go_at_call 71; refine (HPC.out _ (by (repeat' (first | (with_reducible exact Below.refl _ _) | (with_reducible refine below_alloc ?_) | (with_reducible refine below_drew ?_) | (with_reducible refine below_drewN ?_) | (with_reducible refine below_set (by first | (simp; done) | (simp; omega)) ?_) | (with_reducible refine below_call (by with_reducible assumption) ?_))))).mono ?_; rintro e w4 ⟨A4, c4', rfl, hN4, hb4⟩; have HN4 := Lib.hid hN4; clear hN4; (try have HX4 := Lib.hid ((hb4.block w3.heap.size (by simp)).trans (heap_alloc_new _ _))); obtain ⟨hc4, hf4⟩ := bcell hb4; have hz4 := hb4.size; (try simp at hz4)))
            all_goals go_wp2_with fail
            all_goals go_meet
            all_goals refine ⟨_, A4, c4', rfl, rfl, ?_⟩
            all_goals refine (show Aside _ from ⟨by (repeat' (first | (with_reducible exact Below.refl _ _) | (with_reducible refine below_alloc ?_) | (with_reducible refine below_drew ?_) | (with_reducible refine below_drewN ?_) | (with_reducible refine below_set (by first | (simp; done) | (simp; omega)) ?_) | (with_reducible refine below_call (by with_reducible assumption) ?_))), by omega, by first | (simp; done) | (simp; omega), ?_, ?_, (by first | exact HN4.out.put HX4.out (by decide) _ _ _ _ | exact HN4.out.below (by (repeat' (first | (with_reducible exact Below.refl _ _) | (with_reducible refine below_alloc ?_) | (with_reducible refine below_drew ?_) | (with_reducible refine below_drewN ?_) | (with_reducible refine below_set (by first | (simp; done) | (simp; omega)) ?_) | (with_reducible refine below_call (by with_reducible assumption) ?_)))))⟩)
            all_goals first | (rw [World.cell?_alloc_at _ _ _ _ rfl]; rfl) | go_simp
          case rest =>
            obtain ⟨B, A4, c4, rfl, rfl, hBw, hBge, hBlt, q0, q1, hN4⟩ := hcut
            have HN4 := Lib.hid hN4
            have HBC := Lib.hid (below_call hBw HB3.out)
            have hXc := (HBC.out.block _ hszx).trans HX.out
            have HXC2 := Lib.hid hXc
            have hcz := HBC.out.size
            clear hBw hN4 HPC HK HPT
            by_cases her : er = 0
            · subst her
              have HNX := Lib.hid (show rGo vars (x.drop (k + 1)) ((st.take m).map Rr.v ++ [⟨rt, rn⟩]) = rGo vars x [] by have h := HNX.out; rw [if_neg (by simp)] at h; exact h)
              clear hXc
              go_upto_region 15 with fail
              rename_i K0 hK0 hjunk
              have htkl : (st.take m).length = m := by rw [List.length_take]; omega
              obtain ⟨tk, htk⟩ : ∃ tk, st.take m = tk := ⟨_, rfl⟩
              have HTE := Lib.hid htk
              rw [htk] at HTK htkl HNX HSU
              clear htk
              refine wp_region_treeF (by kernel_rfl) _ _ (dropLast_last _ (by simp)) (by kernel_rfl) (by simp) (stF wc.heap.size (.slice (some ⟨g, 0, none⟩) st.length cap) m (.slice (some ⟨g, 0, none⟩) m cap) tk (Rr.mk rt A4 c4 rn)) 56 _ _ ?_ ?_
              · dsimp only [List.dropLast]
                refine ⟨fun a w' hJ hD K' hK => ?_, ?_⟩
                · exact tree_next stF_below hJ (Nat.le_of_ble_eq_true rfl) (Nat.le_of_ble_eq_true rfl) hK _ _ (below_alloc (Below.refl _ _)) ⟨_, rfl, hJ.b.size, heap_alloc_new _ _⟩ |> wp_val (v := .slice (some ⟨w'.heap.size, 0, none⟩) 0 0) (w' := w'.alloc (.cells #[] 83)) (by go_simp)
                refine ⟨fun a w' hJ hD K' hK => ?_, ?_⟩
                · have hx := raw (show a.eval (.tmp 8) = .slice (some ⟨g, 0, none⟩) st.length cap from hJ.old 8 (.inl (by decide)))
                  exact tree_next stF_below hJ (Nat.le_of_ble_eq_true rfl) (Nat.le_of_ble_eq_true rfl) hK _ _ (Below.refl _ _) rfl |> wp_val (v := .slice (some ⟨g, 0, none⟩) st.length cap) (w' := w') (by go_simp)
                refine ⟨fun a w' hJ hD K' hK => ?_, ?_⟩
                · have hx := raw (show a.eval (.tmp 10) = .int .i64 (m : Int) from hJ.old 10 (.inl (by decide)))
                  exact tree_next stF_below hJ (Nat.le_of_ble_eq_true rfl) (Nat.le_of_ble_eq_true rfl) hK _ _ (Below.refl _ _) rfl |> wp_val (v := .int .i64 (m : Int)) (w' := w') (by go_simp)
                refine ⟨fun a w' hJ hD K' hK => ?_, ?_⟩
                · obtain ⟨d0, d1, -⟩ := hD
                  have hx := raw (show a.eval (.tmp 57) = .slice (some ⟨g, 0, none⟩) st.length cap from d0 rfl)
                  have hy := raw (show a.eval (.tmp 58) = .int .i64 (m : Int) from d1 rfl)
                  exact tree_next stF_below hJ (Nat.le_of_ble_eq_true rfl) (Nat.le_of_ble_eq_true rfl) hK _ _ (Below.refl _ _) rfl |> wp_val (v := .slice (some ⟨g, 0, none⟩) m cap) (w' := w') (by go_simp)
                refine ⟨fun a w' hJ hD K' hK => ?_, ?_⟩
                · obtain ⟨d0, d1, -⟩ := hD
                  have hl : LitAt wc.heap.size 83 w' (a.eval (.tmp 56)) := d0 rfl
                  have hsrc : a.eval (.tmp 59) = .slice (some ⟨g, 0, none⟩) m cap := d1 rfl
                  refine wp_lit_app w' (.tmp 56) (.tmp 59) 108 rfl wc.heap.size 83 _ 2 32 Tryz.underlying108 info_rv rfl (by decide) encRr encRr_len one_Rr hl tk (by rw [hsrc]; exact HTK.out _ (below_call hJ.b HBC.out)) (by unfold maxLen; omega) (by omega) ?_
                  intro v1 w1' ho hb
                  exact tree_next stF_below hJ (Nat.le_of_ble_eq_true rfl) (Nat.le_of_ble_eq_true rfl) hK _ _ hb ho
                refine ⟨fun a w' hJ hD K' hK => ?_, ?_⟩
                · have hx := raw (show a.eval (.tmp 11) = .pointer (some ⟨B, 0, none⟩) from hJ.old 11 (.inl (by decide)))
                  have e0 := (hJ.b.cell (p := ⟨B, 0, none⟩) hBlt).trans q0
                  have e1 := (hJ.b.cell (p := ⟨B, 1, none⟩) hBlt).trans q1
                  exact tree_next stF_below hJ (Nat.le_of_ble_eq_true rfl) (Nat.le_of_ble_eq_true rfl) hK _ _ (Below.refl _ _) rfl |> wp_val (v := .agg #[.int .i64 rt, .slice A4 rn.length c4]) (w' := w') (by go_simp)
                refine ⟨fun a w' hJ hD K' hK => ?_, ?_⟩
                · obtain ⟨d0, -⟩ := hD
                  have hx := raw (show a.eval (.tmp 61) = .agg #[.int .i64 rt, .slice A4 rn.length c4] from d0 rfl)
                  exact tree_next stF_below hJ (Nat.le_of_ble_eq_true rfl) (Nat.le_of_ble_eq_true rfl) hK _ _ (below_alloc (Below.refl _ _)) (Sl.lit encRr_len w' #[.int .i64 rt, .slice A4 rn.length c4] 83 1 [Rr.mk rt A4 c4 rn] rfl rfl (by simp)) |> wp_val (v := .slice (some ⟨w'.heap.size, 0, none⟩) 1 1) (w' := w'.alloc (.cells #[.int .i64 rt, .slice A4 rn.length c4] 83)) (by go_simp)
                refine ⟨fun a w' hJ hD K' hK => ?_, trivial⟩
                · obtain ⟨d3, d5, -⟩ := hD
                  have ho3 : w'.ownsRow wc.heap.size 83 2 (a.eval (.tmp 60)) tk.length (tk.flatMap encRr) := d3 rfl
                  have hsl : Sl encRr 2 w' (a.eval (.tmp 62)) [Rr.mk rt A4 c4 rn] := d5 rfl
                  refine wp_own_app w' (.tmp 60) (.tmp 62) 108 rfl wc.heap.size 83 _ 2 32 Tryz.underlying108 info_rv rfl (by decide) encRr encRr_len one_Rr _ _ _ rfl ho3 _ [Rr.mk rt A4 c4 rn] rfl hsl (by unfold maxLen; simp; omega) (by simp; omega) hJ.b.size ?_
                  intro v1 w1' ho hg'
                  exact tree_root hJ (Nat.le_of_ble_eq_true rfl) (Nat.le_of_ble_eq_true rfl) (by kernel_rfl) hK _ _ ((Below.refl _ _).grown hg' hJ.b.size (own_ge ho3 (Nat.le_refl _))) ho
              · intro a' w' hJ hF K' hK
                refine wp_assign (x := .tmp 63) rfl ?_
                change K' (a'.put (some 8) (a'.eval (.tmp 63))) w'
                refine hK _ _ ?_
                change w'.ownsRow wc.heap.size 83 2 (a'.eval (.tmp 63)) (tk.length + [Rr.mk rt A4 c4 rn].length) (tk.flatMap encRr ++ [Rr.mk rt A4 c4 rn].flatMap encRr) at hF
                generalize a'.eval (.tmp 63) = v at hF ⊢
                (obtain ⟨tl, htl, rfl⟩ := act_tree hJ (by simp); simp only [List.dropLast, List.length_cons, List.length_nil, Nat.reduceAdd, Nat.reduceSub] at htl; (iterate 8 (have htl2 := list_cons_of htl; clear htl; obtain ⟨_, tl, htl, rfl⟩ := htl2)); obtain rfl := List.eq_nil_of_length_eq_zero htl; simp only [Act.put, List.dropLast, List.length_cons, List.length_nil, Nat.reduceAdd, List.take_succ_cons, List.take_zero, List.drop_succ_cons, List.drop_zero, List.drop_nil, List.append_nil, List.cons_append, List.nil_append, List.setIfInBounds_toArray, List.set_cons_zero, List.set_cons_succ])
                have HF := Lib.hid hF
                have HJ := Lib.hid hJ.b
                clear hF hJ
                show K0 _ _
                refine hK0 _ _ ?_
                go_wp2
                go_roundg (x.length - (k + 1))
                case measure => omega
                case rel =>
                  have hbr := below_call HJ.out HBC.out
                  refine ⟨k + 1, tk ++ [Rr.mk rt A4 c4 rn], depthStep p dst, by go_num, by omega, by omega, ?_, ?_, ?_, ?_, ?_, ?_, ⟨_, HDN.out⟩, below_call hbr HB.out, (show Aside _ from (HJ.out.block _ (by omega)).trans HXC2.out)⟩
                  · rw [List.length_append, htkl]; have h3 := HM2.out; first | (simp; done) | (simp; omega)
                  · have h1 := HDL.out; have h2 := HE.out; have h3 := HM2.out; rw [List.length_append, htkl]; simp only [List.length_singleton]; omega
                  · show w'.ownsRow (w.heap.size + 1) 83 2 v (tk ++ [Rr.mk rt A4 c4 rn]).length ((tk ++ [Rr.mk rt A4 c4 rn]).flatMap encRr)
                    rw [List.length_append, List.flatMap_append]
                    exact own_base HF.out (by omega)
                  · show ∀ r ∈ tk ++ [Rr.mk rt A4 c4 rn], Nums w' r.A r.c r.nums
                    intro r hr
                    rcases List.mem_append.1 hr with hr | hr
                    · rw [← HTE.out] at hr
                      exact (HNU.out r (List.mem_of_mem_take hr)).below hbr
                    · obtain rfl := List.mem_singleton.1 hr
                      exact HN4.out.below HJ.out
                  · show ((tk ++ [Rr.mk rt A4 c4 rn]).map (fun r => r.nums.length)).sum ≤ k + 1
                    have h1 := HLN.out
                    have h2 := HSU.out
                    rw [List.map_map] at h1
                    rw [List.map_append, List.sum_append]
                    have h3 : ((st.drop m).map ((fun r : Rv => r.nums.length) ∘ Rr.v)).sum = ((st.drop m).map (fun r => r.nums.length)).sum := rfl
                    rw [h3] at h1
                    simp only [List.map_cons, List.map_nil, List.sum_cons, List.sum_nil]
                    omega
                  · show rGo vars (x.drop (k + 1)) ((tk ++ [Rr.mk rt A4 c4 rn]).map Rr.v) = rGo vars x []
                    rw [List.map_append]
                    exact HNX.out
            · have hrb := ne_i her
              have hrn : (er != 0) = true := by simpa using her
              have HV := Lib.hid (show rReck vars x = (⟨0, []⟩, er) by rw [HR.out, ← HNX.out, if_pos her])
              have r0 := cell_of_row _ _ 0 _ _ _ hXc
              have r1 := cell_of_row _ _ 1 _ _ _ hXc
              have f0 := frozen_row 0 hXc
              have f1 := frozen_row 1 hXc
              simp at r0 r1
              go_wp2
              ((try simp only [Exit.inBlock, Exit.then]); refine bodyPost_ret (v := ?_) ?_ rfl ?_; rotate_left; (focus (rw [results_cell_tmp rfl]; go_simp; (first | rfl | exact ⟨rfl, rfl⟩))))
              rw [HV.out]
              exact ⟨none, 0, rfl, Nums.nil _, below_set (Nat.le_refl _) (below_set (Nat.le_refl _) (below_call HBC.out hB))⟩
    · obtain rfl : k = x.length := by omega
      have hltz : ¬ (x.length : Int) < (x.length : Int) := by omega
      have HRR := Lib.hid (show rGo vars x [] = .ok (st.map Rr.v) by rw [← HG.out, List.drop_length]; rfl)
      have h1 : st.length = 1 := by
        obtain ⟨d, hd⟩ := HDG.out
        rw [List.drop_length, depthGo] at hd
        injection hd with hd
        rw [← hds, hd]
        rfl
      obtain ⟨⟨vt_, A5, c5, vn⟩, rfl⟩ := List.length_eq_one_iff.1 h1
      have HN5 := Lib.hid (HNU.out _ (List.mem_singleton.2 rfl))
      rcases own_form HO.out with ⟨rfl, hnil⟩ | ⟨g, cap, rfl, hcap, hmax, hgw⟩
      · cases hnil
      · obtain ⟨A', c', e', _, _, hcell⟩ := Sl.own encRr_len HO.out rfl
        obtain ⟨b', off', he, hb', hcx⟩ := hcell 0 _ rfl
        injection e' with e1 e2 e3
        subst e1 e3
        clear e2
        injection he with he
        injection he with e1 e2 _
        subst e1 e2
        have v0 : wr.cell? ⟨g, 0, none⟩ = some (.int .i64 vt_) := by simpa [encRr] using hcx 0 _ rfl
        have v1 : wr.cell? ⟨g, 1, none⟩ = some (.slice A5 vn.length c5) := by simpa [encRr] using hcx 1 _ rfl
        have r0 := cell_of_row _ _ 0 _ _ _ HX.out
        have r1 := cell_of_row _ _ 1 _ _ _ HX.out
        have f0 := frozen_row 0 HX.out
        have f1 := frozen_row 1 HX.out
        simp at r0 r1
        have HFT := Lib.hid (fun W (hW : Below wr.heap.size wr W) => rfit_c vn 3 _ W (HN5.out.below hW).1)
        obtain ⟨bf, hbf⟩ : ∃ q, fitR vn 3 = q := ⟨_, rfl⟩
        have HV := Lib.hid (show rReck vars x = if vt_ = 0 ∧ bf = false then (⟨0, []⟩, 1) else (⟨vt_, vn⟩, 0) by rw [HR.out, HRR.out]; simp only [List.map_cons, List.getD_cons_zero, Rr.v, hbf])
        rw [hbf] at HFT
        clear hbf hcx hcell h1
        by_cases hv : vt_ = 0
        · subst hv
          cases bf
          · have HV2 := Lib.hid (show rReck vars x = (⟨0, []⟩, 1) by rw [HV.out, if_pos ⟨rfl, rfl⟩])
            go_wp2_with (go_at_call 49; refine (HFT.out _ (by (repeat' (first | (with_reducible exact Below.refl _ _) | (with_reducible refine below_alloc ?_) | (with_reducible refine below_drew ?_) | (with_reducible refine below_drewN ?_) | (with_reducible refine below_set (by first | (simp; done) | (simp; omega)) ?_) | (with_reducible refine below_call (by with_reducible assumption) ?_))))).mono ?_; rintro e w4 ⟨rfl, hb4⟩; obtain ⟨hc4, hf4⟩ := bcell hb4; have hz4 := hb4.size; (try simp at hz4); (try have hzz := Nat.lt_of_succ_le hz4); (try have hzx := Nat.lt_trans hszx hzz); have hX4 := (hb4.block w.heap.size (by simp; omega)).trans ((heap_alloc_old wr _ hszx).trans HX.out); have s0 := cell_of_row _ _ 0 _ _ _ hX4; have s1 := cell_of_row _ _ 1 _ _ _ hX4; have g0 := frozen_row 0 hX4; have g1 := frozen_row 1 hX4; simp at s0 s1)
            ((try simp only [Exit.inBlock, Exit.then]); refine bodyPost_ret (v := ?_) ?_ rfl ?_; rotate_left; (focus (rw [results_cell_tmp rfl]; go_simp; (first | rfl | exact ⟨rfl, rfl⟩))))
            rw [HV2.out]
            exact ⟨none, 0, rfl, Nums.nil _, by (repeat' (first | (with_reducible exact Below.refl _ _) | (with_reducible refine below_alloc ?_) | (with_reducible refine below_drew ?_) | (with_reducible refine below_drewN ?_) | (with_reducible refine below_set (by first | (simp; done) | (simp; omega)) ?_) | (with_reducible refine below_call (by with_reducible assumption) ?_)))⟩
          · have HV2 := Lib.hid (show rReck vars x = (⟨0, vn⟩, 0) by rw [HV.out, if_neg (by simp)])
            go_wp2_with (go_at_call 49; refine (HFT.out _ (by (repeat' (first | (with_reducible exact Below.refl _ _) | (with_reducible refine below_alloc ?_) | (with_reducible refine below_drew ?_) | (with_reducible refine below_drewN ?_) | (with_reducible refine below_set (by first | (simp; done) | (simp; omega)) ?_) | (with_reducible refine below_call (by with_reducible assumption) ?_))))).mono ?_; rintro e w4 ⟨rfl, hb4⟩; obtain ⟨hc4, hf4⟩ := bcell hb4; have hz4 := hb4.size; (try simp at hz4); (try have hzz := Nat.lt_of_succ_le hz4); (try have hzx := Nat.lt_trans hszx hzz); have hX4 := (hb4.block w.heap.size (by simp; omega)).trans ((heap_alloc_old wr _ hszx).trans HX.out); have HX4 := Lib.hid hX4; have s0 := cell_of_row _ _ 0 _ _ _ hX4; have s1 := cell_of_row _ _ 1 _ _ _ hX4; have g0 := frozen_row 0 hX4; have g1 := frozen_row 1 hX4; simp at s0 s1)
            ((try simp only [Exit.inBlock, Exit.then]); refine bodyPost_ret (v := ?_) ?_ rfl ?_; rotate_left; (focus (rw [results_cell_tmp rfl]; go_simp; (first | rfl | exact ⟨rfl, rfl⟩))))
            rw [HV2.out]
            exact ⟨A5, c5, rfl, (HN5.out.below (by (repeat' (first | (with_reducible exact Below.refl _ _) | (with_reducible refine below_alloc ?_) | (with_reducible refine below_drew ?_) | (with_reducible refine below_drewN ?_) | (with_reducible refine below_set (by first | (simp; done) | (simp; omega)) ?_) | (with_reducible refine below_call (by with_reducible assumption) ?_))))).put HX4.out (by decide) _ _ _ _, by (repeat' (first | (with_reducible exact Below.refl _ _) | (with_reducible refine below_alloc ?_) | (with_reducible refine below_drew ?_) | (with_reducible refine below_drewN ?_) | (with_reducible refine below_set (by first | (simp; done) | (simp; omega)) ?_) | (with_reducible refine below_call (by with_reducible assumption) ?_)))⟩
        · have hvb := ne_i hv
          have HV2 := Lib.hid (show rReck vars x = (⟨vt_, vn⟩, 0) by rw [HV.out, if_neg (fun h => hv h.1)])
          go_wp2
          ((try simp only [Exit.inBlock, Exit.then]); refine bodyPost_ret (v := ?_) ?_ rfl ?_; rotate_left; (focus (rw [results_cell_tmp rfl]; go_simp; (first | rfl | exact ⟨rfl, rfl⟩))))
          rw [HV2.out]
          exact ⟨A5, c5, rfl, (HN5.out.put HX.out (by decide) _ _ _ _).below (below_alloc (Below.refl _ _)), by (repeat' (first | (with_reducible exact Below.refl _ _) | (with_reducible refine below_alloc ?_) | (with_reducible refine below_drew ?_) | (with_reducible refine below_drewN ?_) | (with_reducible refine below_set (by first | (simp; done) | (simp; omega)) ?_) | (with_reducible refine below_call (by with_reducible assumption) ?_)))⟩
end Go.Proofs.YtenjkplijblcoaaGreatDoor

/- capstanref09: Type, Fits; capstanref10: from, kind, index: what each call answers. -/
namespace Go.Proofs.YtenjkplijblcoaaGreatDoor
open Go.RowKit Cap
set_option maxRecDepth 100000

theorem rtype9_c (vars : List Vr) (x : List Prt) (vv vx : Value) (w : World) (hs : Sl encVr 5 w vv vars) (hx : Sl encPrt 5 w vx x) :
    Calls Tryz.prog 120 #[vv, vx] w fun e w' => e = .returned (.tuple #[.int .i64 (reckV vars x).1.t, .int .i64 (reckV vars x).2]) ∧ Below w.heap.size w w' := by
  have HRK := Lib.hid (fun W (hW : Below w.heap.size w W) => rreckon_c vars x vv vx W (hs.below hW) (hx.below hW))
  obtain ⟨h1, h2, -⟩ := reck_eq vars x
  rw [h1, h2]
  unfold RvR at HRK
  obtain ⟨⟨⟨rt, rn⟩, re⟩, hq⟩ : ∃ q, rReck vars x = q := ⟨_, rfl⟩
  rw [hq] at HRK ⊢
  simp only at HRK ⊢
  obtain ⟨Av, cv, rfl, -, -, -⟩ := hs
  obtain ⟨Ax, cx, rfl, -, -, -⟩ := hx
  clear hq h1 h2
  go_enter Tryz.func120, Tryz.ntmps120
  go_wp2_with (go_at_call 47; refine (HRK.out _ (by (repeat' (first | (with_reducible exact Below.refl _ _) | (with_reducible refine below_alloc ?_) | (with_reducible refine below_drew ?_) | (with_reducible refine below_drewN ?_) | (with_reducible refine below_set (by first | (simp; done) | (simp; omega)) ?_) | (with_reducible refine below_call (by with_reducible assumption) ?_))))).mono ?_; rintro e w1 ⟨A, c, rfl, hN, hb1⟩; clear hN)
  go_ret2
  exact ⟨rfl, by (repeat' (first | (with_reducible exact Below.refl _ _) | (with_reducible refine below_alloc ?_) | (with_reducible refine below_drew ?_) | (with_reducible refine below_drewN ?_) | (with_reducible refine below_set (by first | (simp; done) | (simp; omega)) ?_) | (with_reducible refine below_call (by with_reducible assumption) ?_)))⟩
set_option maxHeartbeats 1000000 in
theorem rfits9_c (vars : List Vr) (x : List Prt) (t : Int) (vv vx : Value) (w : World) (hs : Sl encVr 5 w vv vars) (hx : Sl encPrt 5 w vx x) :
    Calls Tryz.prog 27 #[vv, vx, .int .i64 t] w fun e w' => e = .returned (.int .i64 (fitsX vars x t)) ∧ Below w.heap.size w w' := by
  have HRK := Lib.hid (fun W (hW : Below w.heap.size w W) => rreckon_c vars x vv vx W (hs.below hW) (hx.below hW))
  have HWH := Lib.hid (fun W => rwhole_c t W)
  have HR := Lib.hid (show fitsX vars x t = if (rReck vars x).2 ≠ 0 then (rReck vars x).2
    else if (rReck vars x).1.t = t ∧ t ≠ 0 then 0
    else if (rReck vars x).1.t ≠ 0 ∨ whole t = false then 40
    else if fitR (rReck vars x).1.nums t = false then 1 else 0 by rw [fits_eq]; rfl)
  unfold RvR at HRK
  obtain ⟨⟨⟨rt, rn⟩, re⟩, hq⟩ : ∃ q, rReck vars x = q := ⟨_, rfl⟩
  rw [hq] at HRK HR
  simp only at HRK HR
  have HFT := Lib.hid (fun (A : Option Addr) (c : Nat) W (h : Nums W A c rn) => rfit_c rn t _ W h.1)
  obtain ⟨bf, hbf⟩ : ∃ q, fitR rn t = q := ⟨_, rfl⟩
  rw [hbf] at HFT HR
  obtain ⟨u, hu⟩ : ∃ q, whole t = q := ⟨_, rfl⟩
  rw [hu] at HWH HR
  obtain ⟨Av, cv, rfl, -, -, -⟩ := hs
  obtain ⟨Ax, cx, rfl, -, -, -⟩ := hx
  clear hq hbf hu
  by_cases he : re = 0
  case neg =>
    have heb := ne_i he
    have hen : (re != 0) = true := by simpa using he
    have HR2 := Lib.hid (show fitsX vars x t = re by rw [HR.out, if_pos he])
    clear HR
    go_enter Tryz.func27, Tryz.ntmps27
    go_wp2_with (go_at_call 47; refine (HRK.out _ (by (repeat' (first | (with_reducible exact Below.refl _ _) | (with_reducible refine below_alloc ?_) | (with_reducible refine below_drew ?_) | (with_reducible refine below_drewN ?_) | (with_reducible refine below_set (by first | (simp; done) | (simp; omega)) ?_) | (with_reducible refine below_call (by with_reducible assumption) ?_))))).mono ?_; rintro e w1 ⟨A, c, rfl, hN, hb1⟩; clear hN)
    go_ret
    exact ⟨by rw [HR2.out]; rfl, by (repeat' (first | (with_reducible exact Below.refl _ _) | (with_reducible refine below_alloc ?_) | (with_reducible refine below_drew ?_) | (with_reducible refine below_drewN ?_) | (with_reducible refine below_set (by first | (simp; done) | (simp; omega)) ?_) | (with_reducible refine below_call (by with_reducible assumption) ?_)))⟩
  subst he
  have HR := Lib.hid (show fitsX vars x t = if rt = t ∧ t ≠ 0 then 0 else if rt ≠ 0 ∨ u = false then 40 else if bf = false then 1 else 0 by rw [HR.out, if_neg (by simp)])
  by_cases ht : rt = t
  · subst ht
    by_cases h0 : rt = 0
    · subst h0
      have HR2 := Lib.hid (show fitsX vars x 0 = if u = false then 40 else if bf = false then 1 else 0 by rw [HR.out, if_neg (by simp)]; simp)
      clear HR
      cases u
      · go_enter Tryz.func27, Tryz.ntmps27
        go_wp2_with (first | (go_at_call 47; refine (HRK.out _ (by (repeat' (first | (with_reducible exact Below.refl _ _) | (with_reducible refine below_alloc ?_) | (with_reducible refine below_drew ?_) | (with_reducible refine below_drewN ?_) | (with_reducible refine below_set (by first | (simp; done) | (simp; omega)) ?_) | (with_reducible refine below_call (by with_reducible assumption) ?_))))).mono ?_; rintro e w1 ⟨A, c, rfl, hN, hb1⟩; clear hN) | (go_at_call 48; refine (HWH.out _).mono ?_; rintro e w2 ⟨rfl, rfl⟩))
        go_ret
        exact ⟨by rw [HR2.out]; rfl, by (repeat' (first | (with_reducible exact Below.refl _ _) | (with_reducible refine below_alloc ?_) | (with_reducible refine below_drew ?_) | (with_reducible refine below_drewN ?_) | (with_reducible refine below_set (by first | (simp; done) | (simp; omega)) ?_) | (with_reducible refine below_call (by with_reducible assumption) ?_)))⟩
      cases bf
      all_goals go_enter Tryz.func27, Tryz.ntmps27
      all_goals go_wp2_with (first | (go_at_call 47; refine (HRK.out _ (by (repeat' (first | (with_reducible exact Below.refl _ _) | (with_reducible refine below_alloc ?_) | (with_reducible refine below_drew ?_) | (with_reducible refine below_drewN ?_) | (with_reducible refine below_set (by first | (simp; done) | (simp; omega)) ?_) | (with_reducible refine below_call (by with_reducible assumption) ?_))))).mono ?_; rintro e w1 ⟨A, c, rfl, hN, hb1⟩; have HN := Lib.hid hN; clear hN) | (go_at_call 48; refine (HWH.out _).mono ?_; rintro e w2 ⟨rfl, rfl⟩) | (go_at_call 49; refine (HFT.out A c _ (HN.out.below (by (repeat' (first | (with_reducible exact Below.refl _ _) | (with_reducible refine below_alloc ?_) | (with_reducible refine below_drew ?_) | (with_reducible refine below_drewN ?_) | (with_reducible refine below_set (by first | (simp; done) | (simp; omega)) ?_) | (with_reducible refine below_call (by with_reducible assumption) ?_)))))).mono ?_; rintro e w3 ⟨rfl, hb3⟩))
      all_goals go_ret
      all_goals exact ⟨by rw [HR2.out]; rfl, by (repeat' (first | (with_reducible exact Below.refl _ _) | (with_reducible refine below_alloc ?_) | (with_reducible refine below_drew ?_) | (with_reducible refine below_drewN ?_) | (with_reducible refine below_set (by first | (simp; done) | (simp; omega)) ?_) | (with_reducible refine below_call (by with_reducible assumption) ?_)))⟩
    · have h0b := ne_i h0
      have h0n : (rt != 0) = true := by simpa using h0
      have HR2 := Lib.hid (show fitsX vars x rt = 0 by rw [HR.out, if_pos ⟨rfl, h0⟩])
      clear HR
      go_enter Tryz.func27, Tryz.ntmps27
      go_wp2_with (go_at_call 47; refine (HRK.out _ (by (repeat' (first | (with_reducible exact Below.refl _ _) | (with_reducible refine below_alloc ?_) | (with_reducible refine below_drew ?_) | (with_reducible refine below_drewN ?_) | (with_reducible refine below_set (by first | (simp; done) | (simp; omega)) ?_) | (with_reducible refine below_call (by with_reducible assumption) ?_))))).mono ?_; rintro e w1 ⟨A, c, rfl, hN, hb1⟩; clear hN)
      go_ret
      exact ⟨by rw [HR2.out]; rfl, by (repeat' (first | (with_reducible exact Below.refl _ _) | (with_reducible refine below_alloc ?_) | (with_reducible refine below_drew ?_) | (with_reducible refine below_drewN ?_) | (with_reducible refine below_set (by first | (simp; done) | (simp; omega)) ?_) | (with_reducible refine below_call (by with_reducible assumption) ?_)))⟩
  · have htb := ne_i ht
    have HR := Lib.hid (show fitsX vars x t = if rt ≠ 0 ∨ u = false then 40 else if bf = false then 1 else 0 by rw [HR.out, if_neg (fun h => ht h.1)])
    by_cases h0 : rt = 0
    · subst h0
      have HR2 := Lib.hid (show fitsX vars x t = if u = false then 40 else if bf = false then 1 else 0 by rw [HR.out]; simp)
      clear HR
      cases u
      · go_enter Tryz.func27, Tryz.ntmps27
        go_wp2_with (first | (go_at_call 47; refine (HRK.out _ (by (repeat' (first | (with_reducible exact Below.refl _ _) | (with_reducible refine below_alloc ?_) | (with_reducible refine below_drew ?_) | (with_reducible refine below_drewN ?_) | (with_reducible refine below_set (by first | (simp; done) | (simp; omega)) ?_) | (with_reducible refine below_call (by with_reducible assumption) ?_))))).mono ?_; rintro e w1 ⟨A, c, rfl, hN, hb1⟩; clear hN) | (go_at_call 48; refine (HWH.out _).mono ?_; rintro e w2 ⟨rfl, rfl⟩))
        go_ret
        exact ⟨by rw [HR2.out]; rfl, by (repeat' (first | (with_reducible exact Below.refl _ _) | (with_reducible refine below_alloc ?_) | (with_reducible refine below_drew ?_) | (with_reducible refine below_drewN ?_) | (with_reducible refine below_set (by first | (simp; done) | (simp; omega)) ?_) | (with_reducible refine below_call (by with_reducible assumption) ?_)))⟩
      cases bf
      all_goals go_enter Tryz.func27, Tryz.ntmps27
      all_goals go_wp2_with (first | (go_at_call 47; refine (HRK.out _ (by (repeat' (first | (with_reducible exact Below.refl _ _) | (with_reducible refine below_alloc ?_) | (with_reducible refine below_drew ?_) | (with_reducible refine below_drewN ?_) | (with_reducible refine below_set (by first | (simp; done) | (simp; omega)) ?_) | (with_reducible refine below_call (by with_reducible assumption) ?_))))).mono ?_; rintro e w1 ⟨A, c, rfl, hN, hb1⟩; have HN := Lib.hid hN; clear hN) | (go_at_call 48; refine (HWH.out _).mono ?_; rintro e w2 ⟨rfl, rfl⟩) | (go_at_call 49; refine (HFT.out A c _ (HN.out.below (by (repeat' (first | (with_reducible exact Below.refl _ _) | (with_reducible refine below_alloc ?_) | (with_reducible refine below_drew ?_) | (with_reducible refine below_drewN ?_) | (with_reducible refine below_set (by first | (simp; done) | (simp; omega)) ?_) | (with_reducible refine below_call (by with_reducible assumption) ?_)))))).mono ?_; rintro e w3 ⟨rfl, hb3⟩))
      all_goals go_ret
      all_goals exact ⟨by rw [HR2.out]; rfl, by (repeat' (first | (with_reducible exact Below.refl _ _) | (with_reducible refine below_alloc ?_) | (with_reducible refine below_drew ?_) | (with_reducible refine below_drewN ?_) | (with_reducible refine below_set (by first | (simp; done) | (simp; omega)) ?_) | (with_reducible refine below_call (by with_reducible assumption) ?_)))⟩
    · have h0b := ne_i h0
      have h0n : (rt != 0) = true := by simpa using h0
      have HR2 := Lib.hid (show fitsX vars x t = 40 by rw [HR.out, if_pos (.inl h0)])
      clear HR
      go_enter Tryz.func27, Tryz.ntmps27
      go_wp2_with (go_at_call 47; refine (HRK.out _ (by (repeat' (first | (with_reducible exact Below.refl _ _) | (with_reducible refine below_alloc ?_) | (with_reducible refine below_drew ?_) | (with_reducible refine below_drewN ?_) | (with_reducible refine below_set (by first | (simp; done) | (simp; omega)) ?_) | (with_reducible refine below_call (by with_reducible assumption) ?_))))).mono ?_; rintro e w1 ⟨A, c, rfl, hN, hb1⟩; clear hN)
      go_ret
      exact ⟨by rw [HR2.out]; rfl, by (repeat' (first | (with_reducible exact Below.refl _ _) | (with_reducible refine below_alloc ?_) | (with_reducible refine below_drew ?_) | (with_reducible refine below_drewN ?_) | (with_reducible refine below_set (by first | (simp; done) | (simp; omega)) ?_) | (with_reducible refine below_call (by with_reducible assumption) ?_)))⟩
theorem rkind_c (vars : List Vr) (x : List Prt) (vv vx : Value) (w : World) (hs : Sl encVr 5 w vv vars) (hx : Sl encPrt 5 w vx x) :
    Calls Tryz.prog 73 #[vv, vx] w fun e w' => e = .returned (.int .i64 (reckV vars x).1.t) ∧ Below w.heap.size w w' := by
  have HT := Lib.hid (fun W (hW : Below w.heap.size w W) => rtype9_c vars x vv vx W (hs.below hW) (hx.below hW))
  obtain ⟨Av, cv, rfl, -, -, -⟩ := hs
  obtain ⟨Ax, cx, rfl, -, -, -⟩ := hx
  go_enter Tryz.func73, Tryz.ntmps73
  go_wp2_with (go_at_call 120; refine (HT.out _ (by (repeat' (first | (with_reducible exact Below.refl _ _) | (with_reducible refine below_alloc ?_) | (with_reducible refine below_drew ?_) | (with_reducible refine below_drewN ?_) | (with_reducible refine below_set (by first | (simp; done) | (simp; omega)) ?_) | (with_reducible refine below_call (by with_reducible assumption) ?_))))).mono ?_; rintro e w1 ⟨rfl, hb1⟩)
  go_ret
  exact ⟨rfl, by (repeat' (first | (with_reducible exact Below.refl _ _) | (with_reducible refine below_alloc ?_) | (with_reducible refine below_drew ?_) | (with_reducible refine below_drewN ?_) | (with_reducible refine below_set (by first | (simp; done) | (simp; omega)) ?_) | (with_reducible refine below_call (by with_reducible assumption) ?_)))⟩
theorem rindex_c (vars : List Vr) (x : List Prt) (vv vx : Value) (w : World) (hs : Sl encVr 5 w vv vars) (hx : Sl encPrt 5 w vx x) :
    Calls Tryz.prog 50 #[vv, vx] w fun e w' => e = .returned (.int .i64 (if fitsX vars x 2 = 0 then 2 else 3)) ∧ Below w.heap.size w w' := by
  have HT := Lib.hid (fun W (hW : Below w.heap.size w W) => rfits9_c vars x 2 vv vx W (hs.below hW) (hx.below hW))
  obtain ⟨Av, cv, rfl, -, -, -⟩ := hs
  obtain ⟨Ax, cx, rfl, -, -, -⟩ := hx
  obtain ⟨q, hq⟩ : ∃ q, fitsX vars x 2 = q := ⟨_, rfl⟩
  rw [hq] at HT ⊢
  clear hq
  by_cases h0 : q = 0
  · subst h0
    go_enter Tryz.func50, Tryz.ntmps50
    go_wp2_with (go_at_call 27; refine (HT.out _ (by (repeat' (first | (with_reducible exact Below.refl _ _) | (with_reducible refine below_alloc ?_) | (with_reducible refine below_drew ?_) | (with_reducible refine below_drewN ?_) | (with_reducible refine below_set (by first | (simp; done) | (simp; omega)) ?_) | (with_reducible refine below_call (by with_reducible assumption) ?_))))).mono ?_; rintro e w1 ⟨rfl, hb1⟩)
    go_ret
    exact ⟨rfl, by (repeat' (first | (with_reducible exact Below.refl _ _) | (with_reducible refine below_alloc ?_) | (with_reducible refine below_drew ?_) | (with_reducible refine below_drewN ?_) | (with_reducible refine below_set (by first | (simp; done) | (simp; omega)) ?_) | (with_reducible refine below_call (by with_reducible assumption) ?_)))⟩
  · have hb := ne_i h0
    rw [if_neg h0]
    go_enter Tryz.func50, Tryz.ntmps50
    go_wp2_with (go_at_call 27; refine (HT.out _ (by (repeat' (first | (with_reducible exact Below.refl _ _) | (with_reducible refine below_alloc ?_) | (with_reducible refine below_drew ?_) | (with_reducible refine below_drewN ?_) | (with_reducible refine below_set (by first | (simp; done) | (simp; omega)) ?_) | (with_reducible refine below_call (by with_reducible assumption) ?_))))).mono ?_; rintro e w1 ⟨rfl, hb1⟩)
    go_ret
    exact ⟨rfl, by (repeat' (first | (with_reducible exact Below.refl _ _) | (with_reducible refine below_alloc ?_) | (with_reducible refine below_drew ?_) | (with_reducible refine below_drewN ?_) | (with_reducible refine below_set (by first | (simp; done) | (simp; omega)) ?_) | (with_reducible refine below_call (by with_reducible assumption) ?_)))⟩
set_option maxHeartbeats 2000000 in
theorem rfrom_c (x : List Prt) (e0 : Nat) (vx : Value) (w : World) (hx : Sl encPrt 5 w vx x) (h500 : x.length ≤ 500) (he : e0 ≤ x.length) :
    Calls Tryz.prog 56 #[vx, .int .i64 ((e0 : Int) - 1)] w fun e w' => e = .returned (.int .i64 (fromL x e0 1)) ∧ Below w.heap.size w w' := by
  obtain ⟨A, c, rfl, hl, hm, hc⟩ := hx
  have HC := Lib.hid hc
  clear hc
  go_enter Tryz.func56, Tryz.ntmps56
  go_wp2
  go_loopg [5, 6] e0 (fun gg s5 s6 wr => ∃ (i : Nat) (n : Int), s5 = .int .i64 n ∧ s6 = .int .i64 ((i : Int) - 1) ∧ i ≤ e0 ∧ i ≤ gg ∧ 1 ≤ n ∧ n ≤ 1 + (e0 - i : Nat) ∧ Aside (Below w.heap.size w wr) ∧ Aside (fromL x i n = fromL x e0 1))
  case atStart => exact ⟨e0, 1, rfl, rfl, Nat.le_refl _, Nat.le_refl _, by omega, by omega, (show Below w.heap.size w _ from by (repeat' (first | (with_reducible exact Below.refl _ _) | (with_reducible refine below_alloc ?_) | (with_reducible refine below_drew ?_) | (with_reducible refine below_drewN ?_) | (with_reducible refine below_set (by first | (simp; done) | (simp; omega)) ?_) | (with_reducible refine below_call (by with_reducible assumption) ?_)))), (show fromL x e0 1 = fromL x e0 1 from rfl)⟩
  case round =>
    obtain ⟨i, n, rfl, rfl, hi, hg, hn1, hn2, HB, HA⟩ := hrel
    have hB := HB.out
    by_cases hlt : 0 < i
    · obtain ⟨j, rfl⟩ : ∃ j, i = j + 1 := ⟨i - 1, by omega⟩
      have hjx : j < x.length := by omega
      obtain ⟨p, hp⟩ : ∃ p, x[j]? = some p := ⟨x[j], List.getElem?_eq_getElem hjx⟩
      obtain ⟨b, off, rfl, hb, hcx⟩ := HC.out j p hp
      have c0 : wr.cell? ⟨b, off + j * 5, none⟩ = some (.int .i64 p.k) := (hB.cell (p := ⟨b, off + j * 5, none⟩) hb).trans (by simpa using hcx 0 _ rfl)
      have c1 : wr.cell? ⟨b, off + j * 5 + 1, none⟩ = some (.int .i64 p.n) := (hB.cell (p := ⟨b, off + j * 5 + 1, none⟩) hb).trans (by simpa using hcx 1 _ rfl)
      have c2 : wr.cell? ⟨b, off + j * 5 + 2, none⟩ = some (.int .i64 p.t) := (hB.cell (p := ⟨b, off + j * 5 + 2, none⟩) hb).trans (by simpa using hcx 2 _ rfl)
      have c3 : wr.cell? ⟨b, off + j * 5 + 3, none⟩ = some (.string p.s) := (hB.cell (p := ⟨b, off + j * 5 + 3, none⟩) hb).trans (by simpa using hcx 3 _ rfl)
      have c4 : wr.cell? ⟨b, off + j * 5 + 4, none⟩ = some (.string p.f) := (hB.cell (p := ⟨b, off + j * 5 + 4, none⟩) hb).trans (by simpa using hcx 4 _ rfl)
      have hle := takesE_le p
      have HN := Lib.hid ((fromL_at hp n).symm.trans HA.out)
      obtain ⟨k, hk⟩ : ∃ k, takesE p = k := ⟨_, rfl⟩
      have HT := Lib.hid (fun W => (by rw [← hk, ← takesR6_E]; exact rtakes_c p W : Calls Tryz.prog 51 #[prtV p] W fun e w' => e = .returned (.int .i64 (k : Int)) ∧ Below W.heap.size W w'))
      rw [hk] at hle HN
      unfold prtV at HT
      have hj0 : (0 : Int) ≤ (j : Int) := Int.natCast_nonneg _
      have hjz : (((j + 1 : Nat) : Int) - 1) = (j : Int) := by omega
      have hjl : (j : Int) < (x.length : Int) := by omega
      clear hcx hp hk
      rw [hjz]
      have hn502 : n ≤ 502 := by omega
      obtain ⟨q, hq⟩ : ∃ q : Int, n + ((k : Int) - 1) = q := ⟨_, rfl⟩
      have hq2 : n + (k : Int) - 1 = q := by omega
      rw [hq2] at HN
      by_cases h0 : q = 0
      · subst h0
        have HZ := Lib.hid (show fromL x e0 1 = j by rw [← HN.out, if_pos rfl])
        go_wp2_with (go_at_call 51; refine (HT.out _).mono ?_; rintro e w1 ⟨rfl, hb1⟩)
        go_ret
        exact ⟨by rw [HZ.out]; rfl, by (repeat' (first | (with_reducible exact Below.refl _ _) | (with_reducible refine below_alloc ?_) | (with_reducible refine below_drew ?_) | (with_reducible refine below_drewN ?_) | (with_reducible refine below_set (by first | (simp; done) | (simp; omega)) ?_) | (with_reducible refine below_call (by with_reducible assumption) ?_)))⟩
      · have hq0 := ne_i h0
        have HZ := Lib.hid (show fromL x j q = fromL x e0 1 by rw [← HN.out, if_neg h0])
        go_wp2_with (go_at_call 51; refine (HT.out _).mono ?_; rintro e w1 ⟨rfl, hb1⟩)

        go_roundg j
        case measure => omega
        case rel => exact ⟨j, q, by rw [← hq], by go_num, by omega, by omega, by omega, by omega, (show Below w.heap.size w _ from by (repeat' (first | (with_reducible exact Below.refl _ _) | (with_reducible refine below_alloc ?_) | (with_reducible refine below_drew ?_) | (with_reducible refine below_drewN ?_) | (with_reducible refine below_set (by first | (simp; done) | (simp; omega)) ?_) | (with_reducible refine below_call (by with_reducible assumption) ?_)))), HZ.out⟩
    · obtain rfl : i = 0 := by omega
      have HZ := Lib.hid (show fromL x e0 1 = 0 by rw [← HA.out]; rfl)
      go_wp2
      go_ret
      exact ⟨by rw [HZ.out]; rfl, by (repeat' (first | (with_reducible exact Below.refl _ _) | (with_reducible refine below_alloc ?_) | (with_reducible refine below_drew ?_) | (with_reducible refine below_drewN ?_) | (with_reducible refine below_set (by first | (simp; done) | (simp; omega)) ?_) | (with_reducible refine below_call (by with_reducible assumption) ?_)))⟩
end Go.Proofs.YtenjkplijblcoaaGreatDoor
