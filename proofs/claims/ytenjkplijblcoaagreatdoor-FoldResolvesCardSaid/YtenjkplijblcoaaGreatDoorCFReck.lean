/- typed.part whole; what an expression that may be has of values. -/
import Derived.Test.YtenjkplijblcoaaGreatDoorCPart
import Derived.Test.YtenjkplijblcoaaGreatDoorCFCheck
import Derived.Deep.DeepCutAuto
import Derived.Deep.AppendLies
import Derived.Deep.RegionLaw
set_option linter.unusedSimpArgs false
set_option linter.unusedVariables false
namespace Go.Proofs.YtenjkplijblcoaaGreatDoor
open Go.RowKit Cap
set_option maxRecDepth 100000

theorem part_c (vars : List Vr) (p : Prt) (top : List Va) (vv vt : Value) (w : World) (hs : Sl encVr 5 w vv vars) (hp : ∀ x ∈ vars, OneV x) (h64 : vars.length ≤ 64) (ht : Sl encVa 3 w vt top) (hl : top.length = takesT p) :
    Calls Tryz.prog 61 #[vv, prtV p, vt] w (PartR w (partV vars p top)) := by
  obtain ⟨k, n, t, s, f⟩ := p
  by_cases h1 : k = 1
  · subst h1
    exact part_1 vars n t s f top vv vt w
  by_cases h6 : k = 6
  · subst h6
    have hl1 : top.length = 1 := by rw [hl]; rfl
    match top, hl1 with
    | [a], _ => exact part_6 vars n t s f a [] vv vt w ht
  by_cases h5 : k = 5
  · subst h5
    by_cases h15 : 15 ≤ n
    · have hl1 : top.length = 1 := by rw [hl, takesT, if_pos (.inr (.inr ⟨rfl, h15⟩))]
      match top, hl1 with
      | [a], _ => exact part_51 vars n t s f a vv vt w ht
    · have hl2 : top.length = 2 := by rw [hl, takesT, if_neg (by rintro (h | h | h) <;> first | exact h15 h.2 | simp at h), if_pos rfl]
      match top, hl2 with
      | [a, a'], _ => exact part_52 vars n t s f a a' vv vt w ht
  refine part_n vars k n t s f top vv vt w hs hp h64 ht (fun h3 hn => ?_) h1 h6 h5
  subst h3 hn
  simp [takesT] at hl
theorem takesT_E {p : Prt} (h : mayP p = true) : takesT p = takesE p := by
  have h16 : p.k = 5 → p.n ≤ 16 := by
    intro h5
    unfold mayP at h
    rw [if_neg (by omega), if_neg (by omega), if_neg (by omega), if_pos h5] at h
    simp only [Bool.and_eq_true, decide_eq_true_eq] at h
    exact h.1.2
  unfold takesT takesE
  repeat' split
  all_goals omega
theorem checkX_ok {x : List Prt} (h : checkX x = 0) : x.length ≤ 500 ∧ (∃ d, depthGo x [] = some [d]) ∧ ∀ p ∈ x, mayP p = true := by
  unfold checkX at h
  by_cases h500 : 500 < x.length
  · rw [if_pos h500] at h
    omega
  · rw [if_neg h500] at h
    by_cases hc : depthL x = 0 ∨ 24 < depthL x ∨ x.any (fun p => !mayP p) = true
    · rw [if_pos hc] at h
      omega
    · refine ⟨by omega, ?_, fun p hp => ?_⟩
      · have hd : depthL x ≠ 0 := fun h' => hc (.inl h')
        unfold depthL at hd
        split at hd
        · rename_i d hq
          exact ⟨d, hq⟩
        · exact absurd rfl hd
      · cases hm : mayP p with
        | true => rfl
        | false =>
          exfalso
          apply hc
          right
          right
          rw [List.any_eq_true]
          exact ⟨p, hp, by rw [hm]; rfl⟩
theorem wrongV_le {vars : List Vr} (h : wrongV vars = 0) : vars.length ≤ 64 := by
  unfold wrongV at h
  by_cases h6 : 64 < vars.length
  · rw [if_pos h6] at h
    omega
  · omega
theorem wrongV_one {vars : List Vr} (h : wrongV vars = 0) : ∀ v ∈ vars, OneV v := by
  unfold wrongV at h
  by_cases h6 : 64 < vars.length
  · rw [if_pos h6] at h
    omega
  rw [if_neg h6] at h
  by_cases ha : vars.any (fun v => !mayV v) = true
  · rw [if_pos ha] at h
    omega
  intro v hv
  have hm : mayV v = true := by
    cases hm : mayV v with
    | true => rfl
    | false => exact absurd (List.any_eq_true.2 ⟨v, hv, by rw [hm]; rfl⟩) ha
  unfold mayV at hm
  unfold OneV LenOk
  by_cases c1 : isName v.name = false ∨ v.dir < 0 ∨ 2 < v.dir
  · rw [if_pos c1] at hm
    cases hm
  rw [if_neg c1] at hm
  by_cases c2 : 100 < v.ty
  · rw [if_pos c2] at hm
    simp only [Bool.and_eq_true, decide_eq_true_eq] at hm
    exact ⟨fun h => by omega, hm.1.2⟩
  rw [if_neg c2] at hm
  by_cases c3 : fits v.ty 0 = false
  · rw [if_pos c3] at hm
    cases hm
  rw [if_neg c3] at hm
  by_cases c4 : v.len ≠ 0
  · rw [if_pos c4] at hm
    simp only [Bool.and_eq_true, decide_eq_true_eq] at hm
    exact ⟨fun _ => by omega, by omega⟩
  · exact ⟨fun _ => by omega, by omega⟩
theorem news3 (W : World) (a b c : Value) (T : TypeId) (j : Nat) (u : Value) (h : [a, b, c][j]? = some u) : (W.alloc (.cells #[a, b, c] T)).cell? ((⟨W.heap.size, 0, none⟩ : Addr).add j) = some u := by
  rw [Addr.add_lit, World.cell?_alloc_at _ _ _ _ rfl, Nat.zero_add]
  simpa using h
def VaRow (w W : World) (v : Value) (st : List Va) : Prop := W.ownsRow (w.heap.size + 1) 63 3 v st.length (st.flatMap encVa)
theorem info_va : InfoIs Tryz.prog 63 (.agg #[.int .i64 0, .int .i64 0, .int .i64 0]) 3 24 := by unfold InfoIs; kernel_rfl
theorem one_Va : ∀ x, ∀ u ∈ encVa x, u.oneCell' = true := fun x u hu => by
  simp only [encVa, List.mem_cons, List.not_mem_nil, or_false] at hu
  rcases hu with rfl | rfl | rfl <;> rfl
set_option maxHeartbeats 8000000 in
theorem reckon_c (vars : List Vr) (x : List Prt) (vv vx : Value) (w : World) (hs : Sl encVr 5 w vv vars) (hvo : ∀ v ∈ vars, VrOk v) (hx : Sl encPrt 5 w vx x) (hpo : ∀ p ∈ x, PrtOk p) (hG : G w) :
    Calls Tryz.prog 33 #[vv, vx] w fun e w' => e = .returned (.tuple #[vaV (reckV vars x).1, .int .i64 (reckV vars x).2]) ∧ Below w.heap.size w w' := by
  have HWR := Lib.hid (fun W (hW : Below w.heap.size w W) => wrong_c vars vv W (hs.below hW) (hG.below hW) hvo)
  have HCK := Lib.hid (fun W (hW : Below w.heap.size w W) => checkX_c x vx W (hx.below hW) (hG.below hW) hpo)
  have HPT := Lib.hid (fun W (hW : Below w.heap.size w W) (hw0 : wrongV vars = 0) p top vt ht hl => part_c vars p top vv vt W (hs.below hW) (wrongV_one hw0) (wrongV_le hw0) ht hl)
  obtain ⟨Av, cv, rfl, -, -, -⟩ := hs
  obtain ⟨Ax, cx, rfl, hxl, hxm, hxc⟩ := hx
  have HXC := Lib.hid hxc
  clear hG hvo hpo hxc
  by_cases hw0 : wrongV vars = 0
  case neg =>
    have hwb := ne_i hw0
    have hwn : (wrongV vars != 0) = true := by simpa using hw0
    have HR := Lib.hid (show reckV vars x = (plainV 0, wrongV vars) by rw [reckV, if_pos hw0])
    obtain ⟨e0, he0⟩ : ∃ e, wrongV vars = e := ⟨_, rfl⟩
    rw [he0] at HWR hw0 hwb hwn HR
    clear he0
    rw [HR.out]
    go_enter Tryz.func33, Tryz.ntmps33
    go_wp2_with (go_at_call 59; refine (HWR.out _ (by (repeat' (first | (with_reducible exact Below.refl _ _) | (with_reducible refine below_alloc ?_) | (with_reducible refine below_drew ?_) | (with_reducible refine below_drewN ?_) | (with_reducible refine below_set (by simp; omega) ?_) | (with_reducible refine below_call (by with_reducible assumption) ?_))))).mono ?_; rintro e w1 ⟨rfl, hb1⟩; obtain ⟨hc1, hf1⟩ := bcell hb1; have hz1 := hb1.size; (try simp at hz1); (try have hw01 : w.heap.size < w1.heap.size := by omega); (try have hw11 : w.heap.size + 1 < w1.heap.size := by omega); (try have hw21 : w.heap.size + 1 + 1 < w1.heap.size := by omega))
    ((try simp only [Exit.inBlock, Exit.then]); refine bodyPost_ret (v := ?_) ?_ rfl ?_; rotate_left; (focus (rw [results_cell_tmp rfl]; go_simp; (first | rfl | exact ⟨rfl, rfl⟩))))
    exact ⟨rfl, by (repeat' (first | (with_reducible exact Below.refl _ _) | (with_reducible refine below_alloc ?_) | (with_reducible refine below_drew ?_) | (with_reducible refine below_drewN ?_) | (with_reducible refine below_set (by first | (simp; done) | (simp; omega)) ?_) | (with_reducible refine below_call (by with_reducible assumption) ?_)))⟩
  have HPT := Lib.hid (fun W (hW : Below w.heap.size w W) p top vt ht hl => HPT.out W hW hw0 p top vt ht hl)
  by_cases hc0 : checkX x = 0
  case neg =>
    have hcb := ne_i hc0
    have hcn : (checkX x != 0) = true := by simpa using hc0
    have HR := Lib.hid (show reckV vars x = (plainV 0, checkX x) by rw [reckV, if_neg (by simp [hw0]), if_pos hc0])
    obtain ⟨e0, he0⟩ : ∃ e, checkX x = e := ⟨_, rfl⟩
    rw [he0] at HCK hc0 hcb hcn HR
    rw [hw0] at HWR
    clear he0 hw0
    rw [HR.out]
    go_enter Tryz.func33, Tryz.ntmps33
    go_wp2_with (first | (go_at_call 59; refine (HWR.out _ (by (repeat' (first | (with_reducible exact Below.refl _ _) | (with_reducible refine below_alloc ?_) | (with_reducible refine below_drew ?_) | (with_reducible refine below_drewN ?_) | (with_reducible refine below_set (by simp; omega) ?_) | (with_reducible refine below_call (by with_reducible assumption) ?_))))).mono ?_; rintro e w1 ⟨rfl, hb1⟩; obtain ⟨hc1, hf1⟩ := bcell hb1; have hz1 := hb1.size; (try simp at hz1); (try have hw01 : w.heap.size < w1.heap.size := by omega); (try have hw11 : w.heap.size + 1 < w1.heap.size := by omega); (try have hw21 : w.heap.size + 1 + 1 < w1.heap.size := by omega)) | (go_at_call 37; refine (HCK.out _ (by (repeat' (first | (with_reducible exact Below.refl _ _) | (with_reducible refine below_alloc ?_) | (with_reducible refine below_drew ?_) | (with_reducible refine below_drewN ?_) | (with_reducible refine below_set (by simp; omega) ?_) | (with_reducible refine below_call (by with_reducible assumption) ?_))))).mono ?_; rintro e w2 ⟨rfl, hb2⟩; obtain ⟨hc2, hf2⟩ := bcell hb2; have hz2 := hb2.size; (try simp at hz2); (try have hw02 : w.heap.size < w2.heap.size := by omega); (try have hw12 : w.heap.size + 1 < w2.heap.size := by omega); (try have hw22 : w.heap.size + 1 + 1 < w2.heap.size := by omega)))
    ((try simp only [Exit.inBlock, Exit.then]); refine bodyPost_ret (v := ?_) ?_ rfl ?_; rotate_left; (focus (rw [results_cell_tmp rfl]; go_simp; (first | rfl | exact ⟨rfl, rfl⟩))))
    exact ⟨rfl, by (repeat' (first | (with_reducible exact Below.refl _ _) | (with_reducible refine below_alloc ?_) | (with_reducible refine below_drew ?_) | (with_reducible refine below_drewN ?_) | (with_reducible refine below_set (by first | (simp; done) | (simp; omega)) ?_) | (with_reducible refine below_call (by with_reducible assumption) ?_)))⟩
  obtain ⟨h500, hdx, hmay⟩ := checkX_ok hc0
  have HDX := Lib.hid hdx
  have HMAY := Lib.hid hmay
  have HR := Lib.hid (show reckV vars x = match reckGo vars x [] with
    | .error e => (plainV 0, e)
    | .ok st => if (st.getD 0 (plainV 0)).t ≠ 0 ∨ vaFits (st.getD 0 (plainV 0)) 3 = true then (st.getD 0 (plainV 0), 0) else (plainV 0, 1) by rw [reckV, if_neg (by simp [hw0]), if_neg (by simp [hc0])]; rfl)
  rw [hw0] at HWR
  rw [hc0] at HCK
  clear hw0 hc0 hdx hmay
  go_enter Tryz.func33, Tryz.ntmps33
  go_wp2_with (first | (go_at_call 59; refine (HWR.out _ (by (repeat' (first | (with_reducible exact Below.refl _ _) | (with_reducible refine below_alloc ?_) | (with_reducible refine below_drew ?_) | (with_reducible refine below_drewN ?_) | (with_reducible refine below_set (by simp; omega) ?_) | (with_reducible refine below_call (by with_reducible assumption) ?_))))).mono ?_; rintro e w1 ⟨rfl, hb1⟩; obtain ⟨hc1, hf1⟩ := bcell hb1; have hz1 := hb1.size; (try simp at hz1); (try have hw01 : w.heap.size < w1.heap.size := by omega); (try have hw11 : w.heap.size + 1 < w1.heap.size := by omega); (try have hw21 : w.heap.size + 1 + 1 < w1.heap.size := by omega)) | (go_at_call 37; refine (HCK.out _ (by (repeat' (first | (with_reducible exact Below.refl _ _) | (with_reducible refine below_alloc ?_) | (with_reducible refine below_drew ?_) | (with_reducible refine below_drewN ?_) | (with_reducible refine below_set (by simp; omega) ?_) | (with_reducible refine below_call (by with_reducible assumption) ?_))))).mono ?_; rintro e w2 ⟨rfl, hb2⟩; obtain ⟨hc2, hf2⟩ := bcell hb2; have hz2 := hb2.size; (try simp at hz2); (try have hw02 : w.heap.size < w2.heap.size := by omega); (try have hw12 : w.heap.size + 1 < w2.heap.size := by omega); (try have hw22 : w.heap.size + 1 + 1 < w2.heap.size := by omega)))
  have HX2 := Lib.hid (show w2.heap[w.heap.size]? = some (.cells #[.int .i64 0, .int .i64 0, .int .i64 0] 63 (0, 0)) from (hb2.block _ hw01).trans ((hb1.block _ (by simp)).trans (heap_alloc_new _ _)))
  have HB2 := Lib.hid (show Below w.heap.size w w2 by (repeat' (first | (with_reducible exact Below.refl _ _) | (with_reducible refine below_alloc ?_) | (with_reducible refine below_drew ?_) | (with_reducible refine below_drewN ?_) | (with_reducible refine below_set (by simp; omega) ?_) | (with_reducible refine below_call (by with_reducible assumption) ?_))))
  clear hb1 hb2 hc1 hc2 hf1 hf2
  go_loopg [8, 29] x.length (fun gg s8 s29 wr => ∃ (k : Nat) (st : List Va) (dst : List Int), s29 = .int .i64 k ∧ k ≤ x.length ∧ x.length - k ≤ gg ∧ st.length ≤ k ∧ dst.length = st.length ∧ Aside (VaRow w wr s8 st) ∧ Aside (reckGo vars (x.drop k) st = reckGo vars x []) ∧ Aside (∃ d, depthGo (x.drop k) dst = some [d]) ∧ Aside (Below w.heap.size w wr) ∧ Aside (wr.heap[w.heap.size]? = some (.cells #[.int .i64 0, .int .i64 0, .int .i64 0] 63 (0, 0))))
  case atStart => exact ⟨0, [], [], rfl, Nat.zero_le _, by omega, Nat.le_refl _, rfl, (show VaRow w w2 (.slice none 0 0) [] from ⟨by simp, .inl ⟨rfl, rfl⟩⟩), rfl, HDX.out, HB2.out, HX2.out⟩
  case round =>
    obtain ⟨k, st, dst, rfl, hk, hg, hst, hds, HO, HG, HDG, HB, HX⟩ := hrel
    have hB := HB.out
    have hsz := hB.size
    have hszx : w.heap.size < wr.heap.size := (Array.getElem?_eq_some_iff.1 HX.out).1
    by_cases hlt : k < x.length
    · obtain ⟨p, hp⟩ : ∃ p, x[k]? = some p := ⟨x[k], List.getElem?_eq_getElem hlt⟩
      obtain ⟨b, off, rfl, hb, hcx⟩ := HXC.out k p hp
      have c0 : wr.cell? ⟨b, off + k * 5, none⟩ = some (.int .i64 p.k) := (hB.cell (p := ⟨b, off + k * 5, none⟩) hb).trans (by simpa using hcx 0 _ rfl)
      have c1 : wr.cell? ⟨b, off + k * 5 + 1, none⟩ = some (.int .i64 p.n) := (hB.cell (p := ⟨b, off + k * 5 + 1, none⟩) hb).trans (by simpa using hcx 1 _ rfl)
      have c2 : wr.cell? ⟨b, off + k * 5 + 2, none⟩ = some (.int .i64 p.t) := (hB.cell (p := ⟨b, off + k * 5 + 2, none⟩) hb).trans (by simpa using hcx 2 _ rfl)
      have c3 : wr.cell? ⟨b, off + k * 5 + 3, none⟩ = some (.string p.s) := (hB.cell (p := ⟨b, off + k * 5 + 3, none⟩) hb).trans (by simpa using hcx 3 _ rfl)
      have c4 : wr.cell? ⟨b, off + k * 5 + 4, none⟩ = some (.string p.f) := (hB.cell (p := ⟨b, off + k * 5 + 4, none⟩) hb).trans (by simpa using hcx 4 _ rfl)
      have hTE := takesT_E (HMAY.out p (List.mem_of_getElem? hp))
      obtain ⟨d, hd⟩ := HDG.out
      rw [drop_cons hp, depthGo] at hd
      have hnn : ¬ dst.length < takesE p := fun h => by rw [if_pos h] at hd; cases hd
      rw [if_neg hnn] at hd
      have HDN := Lib.hid hd
      have HDL := Lib.hid (depthStep_len p dst)
      have HNX := Lib.hid (show (if (partV vars p (st.drop (st.length - takesT p))).2 ≠ 0 then .error (partV vars p (st.drop (st.length - takesT p))).2 else reckGo vars (x.drop (k + 1)) (st.take (st.length - takesT p) ++ [(partV vars p (st.drop (st.length - takesT p))).1])) = reckGo vars x [] by have h := HG.out; rw [drop_cons hp, reckGo] at h; exact h)
      obtain ⟨n, hn'⟩ : ∃ n, takesT p = n := ⟨_, rfl⟩
      have HT := Lib.hid (fun W => (by rw [← hn']; exact takesT_c p W : Calls Tryz.prog 60 #[prtV p] W fun e w' => e = .returned (.int .i64 (n : Int)) ∧ Below W.heap.size W w'))
      have hle : n ≤ st.length := by omega
      have HE := Lib.hid hn'
      have HTE := Lib.hid hTE
      clear hn' hcx hp hd hTE hnn
      have hltz : (k : Int) < (x.length : Int) := by omega
      have hk0 : (0 : Int) ≤ (k : Int) := Int.natCast_nonneg _
      obtain ⟨m, hm2⟩ : ∃ m, st.length = m + n := ⟨st.length - n, by omega⟩
      have hlenz : (st.length : Int) - (n : Int) = (m : Int) := by omega
      have hm0 : (0 : Int) ≤ (m : Int) := Int.natCast_nonneg _
      have hmle : (m : Int) ≤ (st.length : Int) := by omega
      have hmN : m ≤ st.length := by omega
      have HM2 := Lib.hid hm2
      clear hm2
      rcases own_form HO.out with ⟨rfl, rfl⟩ | ⟨g, cap, rfl, hcap, hmax, hgw⟩
      ·
        have hn0 : n = 0 := by simpa using hle
        subst hn0
        have hm0' : m = 0 := by have := HM2.out; simp at this; omega
        subst hm0'
        have HT0 := Lib.hid (fun W => HT.out W)
        simp only [Int.ofNat_zero, Int.natCast_zero] at HT0
        clear hlenz hm0 hmle
        go_upto_region 12 with (go_at_call 60; refine (HT0.out _).mono ?_; rintro e w3 ⟨rfl, hb3⟩; have hz3 := hb3.size; (try simp at hz3); have hp3 := Nat.lt_of_succ_le hz3)
        have hb3' : Below wr.heap.size wr w3 := below_call hb3 (below_alloc (Below.refl _ _))
        obtain ⟨⟨⟨rt, rl, rh⟩, er⟩, hq⟩ : ∃ q, partV vars p [] = q := ⟨_, rfl⟩
        have HQ := Lib.hid hq
        have HTL := Lib.hid (show ([] : List Va).length = takesT p by rw [HE.out]; rfl)
        have hbx : wr.heap.size < w3.heap.size := by omega
        have HK := Lib.hid (show ∀ W, Below w3.heap.size w3 W → (W.cell? ⟨wr.heap.size, 0, none⟩ = some (.int .i64 p.k) ∧ W.cell? ⟨wr.heap.size, 1, none⟩ = some (.int .i64 p.n) ∧ W.cell? ⟨wr.heap.size, 2, none⟩ = some (.int .i64 p.t) ∧ W.cell? ⟨wr.heap.size, 3, none⟩ = some (.string p.s) ∧ W.cell? ⟨wr.heap.size, 4, none⟩ = some (.string p.f)) from fun W hW => by
          have h : ∀ j, W.cell? ⟨wr.heap.size, j, none⟩ = (wr.alloc (.cells #[.int .i64 p.k, .int .i64 p.n, .int .i64 p.t, .string p.s, .string p.f] 38)).cell? ⟨wr.heap.size, j, none⟩ := fun j => (hW.cell (p := ⟨wr.heap.size, j, none⟩) hbx).trans (hb3.cell (p := ⟨wr.heap.size, j, none⟩) (by simp))
          simp only [h, World.cell?_alloc_at _ _ _ _ rfl]
          exact ⟨rfl, rfl, rfl, rfl, rfl⟩)
        have HB3 := Lib.hid hb3'
        clear hq hb3
        have HPC := Lib.hid (show ∀ W, Below w3.heap.size w3 W → Calls Tryz.prog 61 #[.slice Av vars.length cv, .agg #[.int .i64 p.k, .int .i64 p.n, .int .i64 p.t, .string p.s, .string p.f], .slice none 0 0] W fun e w' => e = .returned (.tuple #[.agg #[.int .i64 rt, .int .i64 rl, .int .i64 rh], .int .i64 er]) ∧ Below W.heap.size W w' from fun W hW => by
          have h := HPT.out W (below_call hW (below_call HB3.out HB.out)) p [] (.slice none 0 0) (Sl.nil _ _ _) HTL.out
          rw [HQ.out] at h
          exact h)
        go_cut [12, 13] (fun s12 s13 wx => ∃ B : Nat, s12 = .pointer (some ⟨B, 0, none⟩) ∧ s13 = .int .i64 er ∧ Aside (Below w3.heap.size w3 wx ∧ w3.heap.size ≤ B ∧ B < wx.heap.size ∧ wx.cell? ⟨B, 0, none⟩ = some (.int .i64 rt) ∧ wx.cell? ⟨B, 1, none⟩ = some (.int .i64 rl) ∧ wx.cell? ⟨B, 2, none⟩ = some (.int .i64 rh)))
        case first =>
          go_region_held3 (fun W => W.cell? ⟨wr.heap.size, 0, none⟩ = some (.int .i64 p.k) ∧ W.cell? ⟨wr.heap.size, 1, none⟩ = some (.int .i64 p.n) ∧ W.cell? ⟨wr.heap.size, 2, none⟩ = some (.int .i64 p.t) ∧ W.cell? ⟨wr.heap.size, 3, none⟩ = some (.string p.s) ∧ W.cell? ⟨wr.heap.size, 4, none⟩ = some (.string p.f)) (first | exact HK.out _ (by (repeat' (first | (with_reducible exact Below.refl _ _) | (with_reducible refine below_alloc ?_) | (with_reducible refine below_drew ?_) | (with_reducible refine below_drewN ?_) | (with_reducible refine below_set (by first | (simp; done) | (simp; omega)) ?_) | (with_reducible refine below_call (by with_reducible assumption) ?_))))) (first | (go_at_call 61; refine (HPC.out _ (by (repeat' (first | (with_reducible exact Below.refl _ _) | (with_reducible refine below_alloc ?_) | (with_reducible refine below_drew ?_) | (with_reducible refine below_drewN ?_) | (with_reducible refine below_set (by first | (simp; done) | (simp; omega)) ?_) | (with_reducible refine below_call (by with_reducible assumption) ?_))))).mono ?_; rintro e w4 ⟨rfl, hb4⟩; obtain ⟨hc4, hf4⟩ := bcell hb4; have hz4 := hb4.size; (try simp at hz4); (try have hzz := Nat.lt_of_succ_le hz4)))
          all_goals go_wp2_with fail
          all_goals go_meet
          all_goals refine ⟨_, rfl, rfl, ?_⟩
          all_goals refine (show Aside _ from ⟨by (repeat' (first | (with_reducible exact Below.refl _ _) | (with_reducible refine below_alloc ?_) | (with_reducible refine below_drew ?_) | (with_reducible refine below_drewN ?_) | (with_reducible refine below_set (by first | (simp; done) | (simp; omega)) ?_) | (with_reducible refine below_call (by with_reducible assumption) ?_))), by omega, by first | (simp; done) | (simp; omega), ?_, ?_, ?_⟩)
          all_goals first | (rw [World.cell?_alloc_at _ _ _ _ rfl]; rfl) | go_simp
        case rest =>
          obtain ⟨B, rfl, rfl, hBw, hBge, hBlt, q0, q1, q2⟩ := hcut
          have HBC := Lib.hid (below_call hBw HB3.out)
          have hXc := (HBC.out.block _ hszx).trans HX.out
          have r0 := cell_of_row _ _ 0 _ _ _ hXc
          have r1 := cell_of_row _ _ 1 _ _ _ hXc
          have r2 := cell_of_row _ _ 2 _ _ _ hXc
          have f0 := frozen_row 0 hXc
          have f1 := frozen_row 1 hXc
          have f2 := frozen_row 2 hXc
          simp at r0 r1 r2
          have HXC2 := Lib.hid hXc
          have HNX := Lib.hid (show (if er ≠ 0 then .error er else reckGo vars (x.drop (k + 1)) [⟨rt, rl, rh⟩]) = reckGo vars x [] by have h := HNX.out; rw [List.drop_nil, HQ.out, List.take_nil, List.nil_append] at h; exact h)
          clear hXc HPC HK HT HT0 HPT hBw
          by_cases her : er = 0
          · subst her
            have HNX := Lib.hid (show reckGo vars (x.drop (k + 1)) [⟨rt, rl, rh⟩] = reckGo vars x [] by have h := HNX.out; rw [if_neg (by simp)] at h; exact h)
            go_upto_region 15 with fail
            have HWC := Lib.hid (below_call HBC.out hB)
            have hszc := HBC.out.size
            obtain ⟨i, hi1, hi2, hi3, hi4⟩ := info_va.parts
            clear r0 r1 r2 f0 f1 f2
            go_region_law (refine step_append_lies _ rfl (.tmp 53) (.tmp 55) 96 rfl (w.heap.size + 1) 63 i _ 3 24 Tryz.underlying96 hi1 hi2 hi3 hi4 rfl (by decide) (.slice none 0 0) 0 [] (by rfl) (World.ownsRow_nil _ _ _ _) ⟨wc.heap.size, 0, none⟩ 1 1 [.int .i64 rt, .int .i64 rl, .int .i64 rh] (by rfl) rfl (fun j u hu => news3 _ _ _ _ _ j u hu) (by simp [Value.oneCell']) (by decide) (by unfold maxLen; omega) (by omega) (by first | (simp; omega)) _ rfl ?_; intro g' cap' w' hown' hgr hor hlt')
            all_goals go_wp2
            all_goals go_roundg (x.length - (k + 1))
            all_goals first
              | omega
              | (refine ⟨k + 1, [Va.mk rt rl rh], depthStep p dst, by go_num, by omega, by omega, ?_, ?_, ?_, HNX.out, ⟨_, HDN.out⟩, ?_, ?_⟩
                 focus (simp)
                 focus (rw [HDL.out, ← HTE.out, HE.out]; simp at hds; simp [hds])
                 focus (exact hown')
                 focus (exact below_grown (below_drew (below_alloc (below_call HBC.out hB))) hgr (fun g hg => by simp [Value.ownBlock] at hg))
                 focus (exact (show Aside _ from (hgr.block w.heap.size (by simp; omega) (fun e => by simp [Value.ownBlock] at e)).trans ((heap_alloc_old wc _ (by omega)).trans HXC2.out))))
          · have hrb := ne_i her
            have hrn : (er != 0) = true := by simpa using her
            have HV := Lib.hid (show reckGo vars x [] = .error er by rw [← HNX.out, if_pos her])
            go_wp2
            ((try simp only [Exit.inBlock, Exit.then]); refine bodyPost_ret (v := ?_) ?_ rfl ?_; rotate_left; (focus (rw [results_cell_tmp rfl]; go_simp; (first | rfl | exact ⟨rfl, rfl⟩))))
            exact ⟨by rw [HR.out, HV.out]; rfl, below_set (Nat.le_refl _) (below_set (Nat.le_refl _) (below_set (Nat.le_refl _) (below_call HBC.out hB)))⟩
      · have hcapz : (st.length : Int) ≤ (cap : Int) := by omega
        have h00 : (0 : Int) ≤ (st.length : Int) := Int.natCast_nonneg _
        go_upto_region 12 with (go_at_call 60; refine (HT.out _).mono ?_; rintro e w3 ⟨rfl, hb3⟩; have hz3 := hb3.size; (try simp at hz3); have hp3 := Nat.lt_of_succ_le hz3)
        have hb3' : Below wr.heap.size wr w3 := below_call hb3 (below_alloc (Below.refl _ _))
        obtain ⟨⟨⟨rt, rl, rh⟩, er⟩, hq⟩ : ∃ q, partV vars p (st.drop m) = q := ⟨_, rfl⟩
        have HQ := Lib.hid hq
        have HTL := Lib.hid (show (st.drop m).length = takesT p by rw [List.length_drop, HE.out]; have := HM2.out; omega)
        have hbx : wr.heap.size < w3.heap.size := by omega
        have HK := Lib.hid (show ∀ W, Below w3.heap.size w3 W → (W.cell? ⟨wr.heap.size, 0, none⟩ = some (.int .i64 p.k) ∧ W.cell? ⟨wr.heap.size, 1, none⟩ = some (.int .i64 p.n) ∧ W.cell? ⟨wr.heap.size, 2, none⟩ = some (.int .i64 p.t) ∧ W.cell? ⟨wr.heap.size, 3, none⟩ = some (.string p.s) ∧ W.cell? ⟨wr.heap.size, 4, none⟩ = some (.string p.f)) from fun W hW => by
          have h : ∀ j, W.cell? ⟨wr.heap.size, j, none⟩ = (wr.alloc (.cells #[.int .i64 p.k, .int .i64 p.n, .int .i64 p.t, .string p.s, .string p.f] 38)).cell? ⟨wr.heap.size, j, none⟩ := fun j => (hW.cell (p := ⟨wr.heap.size, j, none⟩) hbx).trans (hb3.cell (p := ⟨wr.heap.size, j, none⟩) (by simp))
          simp only [h, World.cell?_alloc_at _ _ _ _ rfl]
          exact ⟨rfl, rfl, rfl, rfl, rfl⟩)
        have HB3 := Lib.hid hb3'
        clear hq hb3
        by_cases hcm : cap = m
        · have hcm' := hcm
          have hmc : m = cap := hcm.symm
          clear hcm hcm'
          subst hmc
          have hn0 : st.length = m := by omega
          have HTS := Lib.hid (show ∀ W, Below w3.heap.size w3 W → Sl encVa 3 W (.slice (some ⟨g, 0, none⟩) 0 0) (st.drop m) from fun W hW => by
            rw [List.drop_of_length_le (by omega)]
            exact ⟨_, 0, rfl, Nat.le_refl _, by decide, fun i x hx => by simp at hx⟩)
          clear hn0
          have HPC := Lib.hid (show ∀ W, Below w3.heap.size w3 W → Calls Tryz.prog 61 #[.slice Av vars.length cv, .agg #[.int .i64 p.k, .int .i64 p.n, .int .i64 p.t, .string p.s, .string p.f], .slice (some ⟨g, 0, none⟩) 0 0] W fun e w' => e = .returned (.tuple #[.agg #[.int .i64 rt, .int .i64 rl, .int .i64 rh], .int .i64 er]) ∧ Below W.heap.size W w' from fun W hW => by
            have h := HPT.out W (below_call hW (below_call HB3.out HB.out)) p (st.drop m) (.slice (some ⟨g, 0, none⟩) 0 0) (HTS.out W hW) HTL.out
            rw [HQ.out] at h
            exact h)
          go_cut [12, 13] (fun s12 s13 wx => ∃ B : Nat, s12 = .pointer (some ⟨B, 0, none⟩) ∧ s13 = .int .i64 er ∧ Aside (Below w3.heap.size w3 wx ∧ w3.heap.size ≤ B ∧ B < wx.heap.size ∧ wx.cell? ⟨B, 0, none⟩ = some (.int .i64 rt) ∧ wx.cell? ⟨B, 1, none⟩ = some (.int .i64 rl) ∧ wx.cell? ⟨B, 2, none⟩ = some (.int .i64 rh)))
          case first =>
            go_region_held3 (fun W => W.cell? ⟨wr.heap.size, 0, none⟩ = some (.int .i64 p.k) ∧ W.cell? ⟨wr.heap.size, 1, none⟩ = some (.int .i64 p.n) ∧ W.cell? ⟨wr.heap.size, 2, none⟩ = some (.int .i64 p.t) ∧ W.cell? ⟨wr.heap.size, 3, none⟩ = some (.string p.s) ∧ W.cell? ⟨wr.heap.size, 4, none⟩ = some (.string p.f)) (first | exact HK.out _ (by (repeat' (first | (with_reducible exact Below.refl _ _) | (with_reducible refine below_alloc ?_) | (with_reducible refine below_drew ?_) | (with_reducible refine below_drewN ?_) | (with_reducible refine below_set (by first | (simp; done) | (simp; omega)) ?_) | (with_reducible refine below_call (by with_reducible assumption) ?_))))) (first | (go_at_call 61; refine (HPC.out _ (by (repeat' (first | (with_reducible exact Below.refl _ _) | (with_reducible refine below_alloc ?_) | (with_reducible refine below_drew ?_) | (with_reducible refine below_drewN ?_) | (with_reducible refine below_set (by first | (simp; done) | (simp; omega)) ?_) | (with_reducible refine below_call (by with_reducible assumption) ?_))))).mono ?_; rintro e w4 ⟨rfl, hb4⟩; obtain ⟨hc4, hf4⟩ := bcell hb4; have hz4 := hb4.size; (try simp at hz4); (try have hzz := Nat.lt_of_succ_le hz4)))
            all_goals go_wp2_with fail
            all_goals go_meet
            all_goals refine ⟨_, rfl, rfl, ?_⟩
            all_goals refine (show Aside _ from ⟨by (repeat' (first | (with_reducible exact Below.refl _ _) | (with_reducible refine below_alloc ?_) | (with_reducible refine below_drew ?_) | (with_reducible refine below_drewN ?_) | (with_reducible refine below_set (by first | (simp; done) | (simp; omega)) ?_) | (with_reducible refine below_call (by with_reducible assumption) ?_))), by omega, by first | (simp; done) | (simp; omega), ?_, ?_, ?_⟩)
            all_goals first | (rw [World.cell?_alloc_at _ _ _ _ rfl]; rfl) | go_simp
          case rest =>
            obtain ⟨B, rfl, rfl, hBw, hBge, hBlt, q0, q1, q2⟩ := hcut
            have HBC := Lib.hid (below_call hBw HB3.out)
            have hXc := (HBC.out.block _ hszx).trans HX.out
            have r0 := cell_of_row _ _ 0 _ _ _ hXc
            have r1 := cell_of_row _ _ 1 _ _ _ hXc
            have r2 := cell_of_row _ _ 2 _ _ _ hXc
            have f0 := frozen_row 0 hXc
            have f1 := frozen_row 1 hXc
            have f2 := frozen_row 2 hXc
            simp at r0 r1 r2
            have HXC2 := Lib.hid hXc
            have hmx : st.length - takesT p = m := by have h1 := HE.out; have h2 := HM2.out; omega
            have HNX := Lib.hid (show (if er ≠ 0 then .error er else reckGo vars (x.drop (k + 1)) (st.take m ++ [⟨rt, rl, rh⟩])) = reckGo vars x [] by have h := HNX.out; rw [hmx, HQ.out] at h; exact h)
            clear hXc hmx HPC HTS HK HT HPT hBw
            by_cases her : er = 0
            · subst her
              have HNX := Lib.hid (show reckGo vars (x.drop (k + 1)) (st.take m ++ [⟨rt, rl, rh⟩]) = reckGo vars x [] by have h := HNX.out; rw [if_neg (by simp)] at h; exact h)
              go_upto_region 15 with fail
              have HWC := Lib.hid (below_call HBC.out hB)
              have hHC : VaRow w wc (.slice (some ⟨g, 0, none⟩) st.length m) st := own_below HO.out HBC.out
              have HOC := Lib.hid (own_takeL encVa_len hHC hmN)
              have hszc := HBC.out.size
              obtain ⟨i, hi1, hi2, hi3, hi4⟩ := info_va.parts
              have hmcz : (m : Int) ≤ (m : Int) := by omega
              clear r0 r1 r2 f0 f1 f2 hHC
              go_region_law (refine step_append_lies _ rfl (.tmp 53) (.tmp 55) 96 rfl (w.heap.size + 1) 63 i _ 3 24 Tryz.underlying96 hi1 hi2 hi3 hi4 rfl (by decide) (.slice (some ⟨g, 0, none⟩) m m) m ((st.take m).flatMap encVa) (by rfl) (own_below HOC.out (by (repeat' (first | (with_reducible exact Below.refl _ _) | (with_reducible refine below_alloc ?_) | (with_reducible refine below_drew ?_) | (with_reducible refine below_drewN ?_) | (with_reducible refine below_set (by first | (simp; done) | (simp; omega)) ?_) | (with_reducible refine below_call (by with_reducible assumption) ?_))))) ⟨wc.heap.size, 0, none⟩ 1 1 [.int .i64 rt, .int .i64 rl, .int .i64 rh] (by rfl) rfl (fun j u hu => news3 _ _ _ _ _ j u hu) (by simp [Value.oneCell']) (by decide) (by unfold maxLen; omega) (by omega) (by simp; omega) _ rfl ?_; intro g' m' w' hown' hgr hor hlt')
              all_goals go_wp2
              all_goals go_roundg (x.length - (k + 1))
              all_goals first
                | omega
                | (refine ⟨k + 1, st.take m ++ [Va.mk rt rl rh], depthStep p dst, by go_num, by omega, by omega, ?_, ?_, ?_, HNX.out, ⟨_, HDN.out⟩, ?_, ?_⟩
                   focus (rw [List.length_append, List.length_take, Nat.min_eq_left hmN]; simp; omega)
                   focus (rw [HDL.out, List.length_append, List.length_take, Nat.min_eq_left hmN, ← HTE.out, HE.out]; have := HM2.out; simp; omega)
                   focus (show VaRow _ _ _ _; unfold VaRow; rw [List.length_append, List.length_take, Nat.min_eq_left hmN, List.flatMap_append]; exact hown')
                   focus (exact below_grown (below_drew (below_alloc (below_call HBC.out hB))) hgr (own_ge HOC.out (Nat.le_succ _)))
                   focus (refine (show Aside _ from (hgr.block w.heap.size (by simp; omega) (fun e => ?_)).trans ((heap_alloc_old wc _ (by omega)).trans HXC2.out)); have := (HOC.out.lt _ e.symm).1; omega))
            · have hrb := ne_i her
              have hrn : (er != 0) = true := by simpa using her
              have HV := Lib.hid (show reckGo vars x [] = .error er by rw [← HNX.out, if_pos her])
              go_wp2
              ((try simp only [Exit.inBlock, Exit.then]); refine bodyPost_ret (v := ?_) ?_ rfl ?_; rotate_left; (focus (rw [results_cell_tmp rfl]; go_simp; (first | rfl | exact ⟨rfl, rfl⟩))))
              exact ⟨by rw [HR.out, HV.out]; rfl, below_set (Nat.le_refl _) (below_set (Nat.le_refl _) (below_set (Nat.le_refl _) (below_call HBC.out hB)))⟩
        · have HTS := Lib.hid (fun W (hW : Below w3.heap.size w3 W) => Sl.drop (Sl.own encVa_len (own_below HO.out (below_call hW HB3.out)) rfl) m hmN)
          have HPC := Lib.hid (show ∀ W, Below w3.heap.size w3 W → Calls Tryz.prog 61 #[.slice Av vars.length cv, .agg #[.int .i64 p.k, .int .i64 p.n, .int .i64 p.t, .string p.s, .string p.f], .slice (some ⟨g, m * 3, none⟩) (st.length - m) (cap - m)] W fun e w' => e = .returned (.tuple #[.agg #[.int .i64 rt, .int .i64 rl, .int .i64 rh], .int .i64 er]) ∧ Below W.heap.size W w' from fun W hW => by
            have h := HPT.out W (below_call hW (below_call HB3.out HB.out)) p (st.drop m) (.slice (some ⟨g, m * 3, none⟩) (st.length - m) (cap - m)) (by have := HTS.out W hW; rw [Nat.zero_add] at this; exact this) HTL.out
            rw [HQ.out] at h
            exact h)
          go_cut [12, 13] (fun s12 s13 wx => ∃ B : Nat, s12 = .pointer (some ⟨B, 0, none⟩) ∧ s13 = .int .i64 er ∧ Aside (Below w3.heap.size w3 wx ∧ w3.heap.size ≤ B ∧ B < wx.heap.size ∧ wx.cell? ⟨B, 0, none⟩ = some (.int .i64 rt) ∧ wx.cell? ⟨B, 1, none⟩ = some (.int .i64 rl) ∧ wx.cell? ⟨B, 2, none⟩ = some (.int .i64 rh)))
          case first =>
            go_region_held3 (fun W => W.cell? ⟨wr.heap.size, 0, none⟩ = some (.int .i64 p.k) ∧ W.cell? ⟨wr.heap.size, 1, none⟩ = some (.int .i64 p.n) ∧ W.cell? ⟨wr.heap.size, 2, none⟩ = some (.int .i64 p.t) ∧ W.cell? ⟨wr.heap.size, 3, none⟩ = some (.string p.s) ∧ W.cell? ⟨wr.heap.size, 4, none⟩ = some (.string p.f)) (first | exact HK.out _ (by (repeat' (first | (with_reducible exact Below.refl _ _) | (with_reducible refine below_alloc ?_) | (with_reducible refine below_drew ?_) | (with_reducible refine below_drewN ?_) | (with_reducible refine below_set (by first | (simp; done) | (simp; omega)) ?_) | (with_reducible refine below_call (by with_reducible assumption) ?_))))) (first | (go_at_call 61; refine (HPC.out _ (by (repeat' (first | (with_reducible exact Below.refl _ _) | (with_reducible refine below_alloc ?_) | (with_reducible refine below_drew ?_) | (with_reducible refine below_drewN ?_) | (with_reducible refine below_set (by first | (simp; done) | (simp; omega)) ?_) | (with_reducible refine below_call (by with_reducible assumption) ?_))))).mono ?_; rintro e w4 ⟨rfl, hb4⟩; obtain ⟨hc4, hf4⟩ := bcell hb4; have hz4 := hb4.size; (try simp at hz4); (try have hzz := Nat.lt_of_succ_le hz4)))
            all_goals go_wp2_with fail
            all_goals go_meet
            all_goals refine ⟨_, rfl, rfl, ?_⟩
            all_goals refine (show Aside _ from ⟨by (repeat' (first | (with_reducible exact Below.refl _ _) | (with_reducible refine below_alloc ?_) | (with_reducible refine below_drew ?_) | (with_reducible refine below_drewN ?_) | (with_reducible refine below_set (by first | (simp; done) | (simp; omega)) ?_) | (with_reducible refine below_call (by with_reducible assumption) ?_))), by omega, by first | (simp; done) | (simp; omega), ?_, ?_, ?_⟩)
            all_goals first | (rw [World.cell?_alloc_at _ _ _ _ rfl]; rfl) | go_simp
          case rest =>
            obtain ⟨B, rfl, rfl, hBw, hBge, hBlt, q0, q1, q2⟩ := hcut
            have HBC := Lib.hid (below_call hBw HB3.out)
            have hXc := (HBC.out.block _ hszx).trans HX.out
            have r0 := cell_of_row _ _ 0 _ _ _ hXc
            have r1 := cell_of_row _ _ 1 _ _ _ hXc
            have r2 := cell_of_row _ _ 2 _ _ _ hXc
            have f0 := frozen_row 0 hXc
            have f1 := frozen_row 1 hXc
            have f2 := frozen_row 2 hXc
            simp at r0 r1 r2
            have HXC2 := Lib.hid hXc
            have hmx : st.length - takesT p = m := by have h1 := HE.out; have h2 := HM2.out; omega
            have HNX := Lib.hid (show (if er ≠ 0 then .error er else reckGo vars (x.drop (k + 1)) (st.take m ++ [⟨rt, rl, rh⟩])) = reckGo vars x [] by have h := HNX.out; rw [hmx, HQ.out] at h; exact h)
            clear hXc hmx HPC HTS HK HT HPT hBw
            by_cases her : er = 0
            · subst her
              have HNX := Lib.hid (show reckGo vars (x.drop (k + 1)) (st.take m ++ [⟨rt, rl, rh⟩]) = reckGo vars x [] by have h := HNX.out; rw [if_neg (by simp)] at h; exact h)
              go_upto_region 15 with fail
              have HWC := Lib.hid (below_call HBC.out hB)
              have hHC : VaRow w wc (.slice (some ⟨g, 0, none⟩) st.length cap) st := own_below HO.out HBC.out
              have HOC := Lib.hid (own_takeL encVa_len hHC hmN)
              have hszc := HBC.out.size
              obtain ⟨i, hi1, hi2, hi3, hi4⟩ := info_va.parts
              have hmcz : (m : Int) ≤ (cap : Int) := by omega
              have hcap0 : ¬ cap = 0 := by omega
              clear r0 r1 r2 f0 f1 f2 hHC
              go_region_law (refine step_append_lies _ rfl (.tmp 53) (.tmp 55) 96 rfl (w.heap.size + 1) 63 i _ 3 24 Tryz.underlying96 hi1 hi2 hi3 hi4 rfl (by decide) (.slice (some ⟨g, 0, none⟩) m cap) m ((st.take m).flatMap encVa) (by rfl) (own_below HOC.out (by (repeat' (first | (with_reducible exact Below.refl _ _) | (with_reducible refine below_alloc ?_) | (with_reducible refine below_drew ?_) | (with_reducible refine below_drewN ?_) | (with_reducible refine below_set (by first | (simp; done) | (simp; omega)) ?_) | (with_reducible refine below_call (by with_reducible assumption) ?_))))) ⟨wc.heap.size, 0, none⟩ 1 1 [.int .i64 rt, .int .i64 rl, .int .i64 rh] (by rfl) rfl (fun j u hu => news3 _ _ _ _ _ j u hu) (by simp [Value.oneCell']) (by decide) (by unfold maxLen; omega) (by omega) (by simp; omega) _ rfl ?_; intro g' cap' w' hown' hgr hor hlt')
              all_goals go_wp2
              all_goals go_roundg (x.length - (k + 1))
              all_goals first
                | omega
                | (refine ⟨k + 1, st.take m ++ [Va.mk rt rl rh], depthStep p dst, by go_num, by omega, by omega, ?_, ?_, ?_, HNX.out, ⟨_, HDN.out⟩, ?_, ?_⟩
                   focus (rw [List.length_append, List.length_take, Nat.min_eq_left hmN]; simp; omega)
                   focus (rw [HDL.out, List.length_append, List.length_take, Nat.min_eq_left hmN, ← HTE.out, HE.out]; have := HM2.out; simp; omega)
                   focus (show VaRow _ _ _ _; unfold VaRow; rw [List.length_append, List.length_take, Nat.min_eq_left hmN, List.flatMap_append]; exact hown')
                   focus (exact below_grown (below_drew (below_alloc (below_call HBC.out hB))) hgr (own_ge HOC.out (Nat.le_succ _)))
                   focus (refine (show Aside _ from (hgr.block w.heap.size (by simp; omega) (fun e => ?_)).trans ((heap_alloc_old wc _ (by omega)).trans HXC2.out)); have := (HOC.out.lt _ e.symm).1; omega))
            · have hrb := ne_i her
              have hrn : (er != 0) = true := by simpa using her
              have HV := Lib.hid (show reckGo vars x [] = .error er by rw [← HNX.out, if_pos her])
              go_wp2
              ((try simp only [Exit.inBlock, Exit.then]); refine bodyPost_ret (v := ?_) ?_ rfl ?_; rotate_left; (focus (rw [results_cell_tmp rfl]; go_simp; (first | rfl | exact ⟨rfl, rfl⟩))))
              exact ⟨by rw [HR.out, HV.out]; rfl, below_set (Nat.le_refl _) (below_set (Nat.le_refl _) (below_set (Nat.le_refl _) (below_call HBC.out hB)))⟩
    · obtain rfl : k = x.length := by omega
      have hltz : ¬ (x.length : Int) < (x.length : Int) := by omega
      have HRR := Lib.hid (show reckGo vars x [] = .ok st by rw [← HG.out, List.drop_length]; rfl)
      have h1 : st.length = 1 := by
        obtain ⟨d, hd⟩ := HDG.out
        rw [List.drop_length, depthGo] at hd
        injection hd with hd
        rw [← hds, hd]
        rfl
      obtain ⟨⟨vt_, lo, hi⟩, rfl⟩ := List.length_eq_one_iff.1 h1
      rcases own_form HO.out with ⟨rfl, hnil⟩ | ⟨g, cap, rfl, hcap, hmax, hgw⟩
      · cases hnil
      · obtain ⟨A', c', e', _, _, hcell⟩ := Sl.own encVa_len HO.out rfl
        obtain ⟨b', off', he, hb', hcx⟩ := hcell 0 _ rfl
        injection e' with e1 e2 e3
        subst e1 e3
        clear e2
        injection he with he
        injection he with e1 e2 _
        subst e1 e2
        have v0 : wr.cell? ⟨g, 0, none⟩ = some (.int .i64 vt_) := by simpa using hcx 0 _ rfl
        have v1 : wr.cell? ⟨g, 1, none⟩ = some (.int .i64 lo) := by simpa using hcx 1 _ rfl
        have v2 : wr.cell? ⟨g, 2, none⟩ = some (.int .i64 hi) := by simpa using hcx 2 _ rfl
        have r0 := cell_of_row _ _ 0 _ _ _ HX.out
        have r1 := cell_of_row _ _ 1 _ _ _ HX.out
        have r2 := cell_of_row _ _ 2 _ _ _ HX.out
        have f0 := frozen_row 0 HX.out
        have f1 := frozen_row 1 HX.out
        have f2 := frozen_row 2 HX.out
        simp at r0 r1 r2
        have HFT := Lib.hid (fun W => tfits_c ⟨vt_, lo, hi⟩ 3 W)
        obtain ⟨bf, hbf⟩ : ∃ q, vaFits ⟨vt_, lo, hi⟩ 3 = q := ⟨_, rfl⟩
        have HV := Lib.hid (show reckV vars x = if vt_ ≠ 0 ∨ bf = true then (⟨vt_, lo, hi⟩, 0) else (plainV 0, 1) by rw [HR.out, HRR.out]; simp only [List.getD_cons_zero, hbf])
        rw [hbf] at HFT
        unfold vaV at HFT
        clear hbf hcx hcell h1
        by_cases hv : vt_ = 0
        · subst hv
          cases bf
          all_goals go_wp2_with (go_at_call 42; refine (HFT.out _).mono ?_; rintro e w4 ⟨rfl, hb4⟩; obtain ⟨hc4, hf4⟩ := bcell hb4; have hz4 := hb4.size; (try simp at hz4); (try have hzz := Nat.lt_of_succ_le hz4); (try have hzx := Nat.lt_trans hszx hzz); have hX4 := (hb4.block w.heap.size (by simp; omega)).trans ((heap_alloc_old wr _ hszx).trans HX.out); have s0 := cell_of_row _ _ 0 _ _ _ hX4; have s1 := cell_of_row _ _ 1 _ _ _ hX4; have s2 := cell_of_row _ _ 2 _ _ _ hX4; simp at s0 s1 s2)
          all_goals ((try simp only [Exit.inBlock, Exit.then]); refine bodyPost_ret (v := ?_) ?_ rfl ?_; rotate_left; (focus (rw [results_cell_tmp rfl]; go_simp; (first | rfl | exact ⟨rfl, rfl⟩))))
          all_goals exact ⟨by rw [HV.out]; rfl, by (repeat' (first | (with_reducible exact Below.refl _ _) | (with_reducible refine below_alloc ?_) | (with_reducible refine below_drew ?_) | (with_reducible refine below_drewN ?_) | (with_reducible refine below_set (by first | (simp; done) | (simp; omega)) ?_) | (with_reducible refine below_call (by with_reducible assumption) ?_)))⟩
        · have hvb := ne_i hv
          have hvn : (vt_ != 0) = true := by simpa using hv
          go_wp2
          ((try simp only [Exit.inBlock, Exit.then]); refine bodyPost_ret (v := ?_) ?_ rfl ?_; rotate_left; (focus (rw [results_cell_tmp rfl]; go_simp; (first | rfl | exact ⟨rfl, rfl⟩))))
          exact ⟨by rw [HV.out, if_pos (.inl hv)]; rfl, by (repeat' (first | (with_reducible exact Below.refl _ _) | (with_reducible refine below_alloc ?_) | (with_reducible refine below_drew ?_) | (with_reducible refine below_drewN ?_) | (with_reducible refine below_set (by first | (simp; done) | (simp; omega)) ?_) | (with_reducible refine below_call (by with_reducible assumption) ?_)))⟩
end Go.Proofs.YtenjkplijblcoaaGreatDoor
