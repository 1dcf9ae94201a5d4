/- FoldStays: what is resolved, and what is folded, has the type, and is resolved and folded as it is. -/
import Derived.Test.YtenjkplijblcoaaGreatDoorCFSame
set_option linter.unusedSimpArgs false
set_option linter.unusedVariables false
namespace Cap
open Go Go.RowKit
/-- Parts that are resolved. -/
structure StayL (vars : List Vr) (t : Int) (F : List Prt) : Prop where
  may : ∀ p ∈ F, mayP p = true
  ty : reckV vars F = (plainV t, 0)
  fits0 : fitsX vars F t = 0
  same : (askX vars t (treeL F)).flat = F
  nums : ∀ p ∈ F, p.k = 1 → fits p.t p.n = true
theorem fitN_flat : ∀ (F : Ex), (∀ p, F = .leaf p → True) → F.Ok → FitN F → ∀ p ∈ F.flat, p.k = 1 → fits p.t p.n = true
  | .leaf q, _, _, hf, p, hp, hk => by
    rw [Ex.flat, List.mem_singleton] at hp
    subst hp
    exact hf hk
  | .un q a, _, ho, hf, p, hp, hk => by
    rw [Ex.flat, List.mem_append, List.mem_singleton] at hp
    rcases hp with hp | rfl
    · exact fitN_flat a (fun _ _ => trivial) ho.2 hf p hp hk
    · exact absurd hk (takes_k (by rw [ho.1]; decide))
  | .bin q a b, _, ho, hf, p, hp, hk => by
    rw [Ex.flat, List.mem_append, List.mem_append, List.mem_singleton] at hp
    rcases hp with (hp | hp) | rfl
    · exact fitN_flat a (fun _ _ => trivial) ho.2.1 hf.1 p hp hk
    · exact fitN_flat b (fun _ _ => trivial) ho.2.2 hf.2 p hp hk
    · exact absurd hk (takes_k (by rw [ho.1]; decide))
theorem ResG.stay {vars : List Vr} {t : Int} {F : Ex} (h : ResG vars t F) : StayL vars t F.flat :=
  ⟨h.may, h.reck, h.fits, by rw [treeL_flat h.ok, ask_same vars F t h.fit], fitN_flat F (fun _ _ => trivial) h.ok h.fit⟩
end Cap
namespace Go.Proofs.YtenjkplijblcoaaGreatDoor
open Go.RowKit Cap
set_option maxRecDepth 100000

set_option maxHeartbeats 8000000 in
theorem foldStays_c (vars : List Vr) (x : List Prt) (t : Int) (vv vx : Value) (w : World) (hs : Sl encVr 5 w vv vars) (hvo : ∀ v ∈ vars, VrOk v) (hx : Sl encPrt 5 w vx x) (hpo : ∀ p ∈ x, PrtOk p) (hG : G w) :
    Calls Tryz.prog 5 #[vv, vx, .int .i64 t] w fun e w' => e = .returned (.bool true) ∧ Below w.heap.size w w' := by
  have HWK := Lib.hid (fun W (hW : Below w.heap.size w W) => works_c W (hG.below hW))
  have HRS := Lib.hid (fun W (hW : Below w.heap.size w W) => resolve_c vars x t vv vx W (hs.below hW) hvo (hx.below hW) hpo (hG.below hW))
  have HFD := Lib.hid (fun W (hW : Below w.heap.size w W) => fold_c vars x t vv vx W (hs.below hW) hvo (hx.below hW) hpo (hG.below hW))
  have HST := Lib.hid (fun (F : List Prt) (hF : StayL vars t F) (v : Value) W (hW : Below w.heap.size w W) (hl : Sl encPrt 5 W v F) => (show Calls Tryz.prog 18 #[vv, v] W (fun e w' => e = .returned (.tuple #[.int .i64 t, .int .i64 0]) ∧ Below W.heap.size W w') from by
    have h := type_c vars F vv v W (hs.below hW) hvo hl (fun p hp => may_ok (hF.may p hp)) (hG.below hW)
    rw [hF.ty] at h
    exact h))
  have HSR := Lib.hid (fun (F : List Prt) (hF : StayL vars t F) (v : Value) W (hW : Below w.heap.size w W) (hl : Sl encPrt 5 W v F) => (show Calls Tryz.prog 9 #[vv, v, .int .i64 t] W (fun e w' => (∃ v, e = .returned (.tuple #[v, .int .i64 0]) ∧ Sl encPrt 5 w' v F) ∧ Below W.heap.size W w') from by
    have h := resolve_c vars F t vv v W (hs.below hW) hvo hl (fun p hp => may_ok (hF.may p hp)) (hG.below hW)
    unfold ResolveR at h
    rw [hF.fits0, hF.same] at h
    simp only [ne_eq, not_true_eq_false, if_false] at h
    refine h.mono ?_
    rintro e w' ⟨⟨v, rfl, ho⟩, hb⟩
    exact ⟨⟨v, rfl, Sl.own encPrt_len ho rfl⟩, hb⟩))
  have HSF := Lib.hid (fun (F B : List Prt) (hF : StayL vars t F) (hB : foldX (askX vars t (treeL F)) = B) (v : Value) W (hW : Below w.heap.size w W) (hl : Sl encPrt 5 W v F) => (show Calls Tryz.prog 11 #[vv, v, .int .i64 t] W (fun e w' => (∃ v, e = .returned (.tuple #[v, .int .i64 0]) ∧ Sl encPrt 5 w' v B) ∧ Below W.heap.size W w') from by
    have h := fold_c vars F t vv v W (hs.below hW) hvo hl (fun p hp => may_ok (hF.may p hp)) (hG.below hW)
    unfold FoldVR at h
    rw [hF.fits0, hB] at h
    simp only [ne_eq, not_true_eq_false, if_false] at h
    refine h.mono ?_
    rintro e w' ⟨⟨v, rfl, ho⟩, hb⟩
    exact ⟨⟨v, rfl, Sl.own encPrt_len ho rfl⟩, hb⟩))
  obtain ⟨Av, cv, rfl, -, -, -⟩ := hs
  obtain ⟨Ax, cx, rfl, hxl, hxm, -⟩ := hx
  have hx64 : x.length ≤ 9223372036854775807 := by omega
  unfold ResolveR at HRS
  unfold FoldVR at HFD
  by_cases hf : fitsX vars x t = 0
  case neg =>
    have hb := ne_i hf
    have hn : (fitsX vars x t != 0) = true := by simpa using hf
    simp only [ne_eq, hf, not_false_eq_true, if_true] at HRS HFD
    obtain ⟨e, he⟩ : ∃ e, fitsX vars x t = e := ⟨_, rfl⟩
    rw [he] at HRS HFD hb hn hf
    clear hG hvo hpo he HST HSR HSF
    go_enter Tryz.func5, Tryz.ntmps5
    go_wp2_with (first | (go_at_call 15; refine (HWK.out _ (by (repeat' (first | (with_reducible exact Below.refl _ _) | (with_reducible refine below_alloc ?_) | (with_reducible refine below_drew ?_) | (with_reducible refine below_drewN ?_) | (with_reducible refine below_set (by first | (simp; done) | (simp; omega)) ?_) | (with_reducible refine below_call (by with_reducible assumption) ?_))))).mono ?_; rintro e' w1 ⟨rfl, hb1⟩) | (go_at_call 9; refine (HRS.out _ (by (repeat' (first | (with_reducible exact Below.refl _ _) | (with_reducible refine below_alloc ?_) | (with_reducible refine below_drew ?_) | (with_reducible refine below_drewN ?_) | (with_reducible refine below_set (by first | (simp; done) | (simp; omega)) ?_) | (with_reducible refine below_call (by with_reducible assumption) ?_))))).mono ?_; rintro e' w2 ⟨rfl, hb2⟩) | (go_at_call 11; refine (HFD.out _ (by (repeat' (first | (with_reducible exact Below.refl _ _) | (with_reducible refine below_alloc ?_) | (with_reducible refine below_drew ?_) | (with_reducible refine below_drewN ?_) | (with_reducible refine below_set (by first | (simp; done) | (simp; omega)) ?_) | (with_reducible refine below_call (by with_reducible assumption) ?_))))).mono ?_; rintro e' w3 ⟨rfl, hb3⟩))
    go_ret
    exact ⟨rfl, by (repeat' (first | (with_reducible exact Below.refl _ _) | (with_reducible refine below_alloc ?_) | (with_reducible refine below_drew ?_) | (with_reducible refine below_drewN ?_) | (with_reducible refine below_set (by first | (simp; done) | (simp; omega)) ?_) | (with_reducible refine below_call (by with_reducible assumption) ?_)))⟩
  obtain ⟨ga, gb, -, -, la, lb⟩ := res_good hf
  simp only [ne_eq, hf, not_true_eq_false, if_false] at HRS HFD
  have sa := ga.stay
  have sb := gb.stay
  have eB : foldX (askX vars t (treeL (foldT (askX vars t (treeL x))).flat)) = (foldT (askX vars t (treeL x))).flat := by
    rw [treeL_flat gb.ok, ask_same vars _ t gb.fit, foldX_T, fold_twice]
  have eA : foldX (askX vars t (treeL (askX vars t (treeL x)).flat)) = (foldT (askX vars t (treeL x))).flat := by
    rw [treeL_flat ga.ok, ask_same vars _ t ga.fit, foldX_T]
  rw [foldX_T] at HFD
  obtain ⟨A, hA⟩ : ∃ A, (askX vars t (treeL x)).flat = A := ⟨_, rfl⟩
  obtain ⟨B, hB⟩ : ∃ B, (foldT (askX vars t (treeL x))).flat = B := ⟨_, rfl⟩
  rw [hA] at HRS la sa eA
  rw [hB] at HFD lb sb eA eB
  clear ga gb hA hB hG hvo hpo
  have SA := Lib.hid sa
  have SB := Lib.hid sb
  have EA := Lib.hid eA
  have EB := Lib.hid eB
  obtain ⟨na, hna⟩ : ∃ n, A.length = n := ⟨_, rfl⟩
  obtain ⟨nb, hnb⟩ : ∃ n, B.length = n := ⟨_, rfl⟩
  have HNA := Lib.hid hna
  have HNB := Lib.hid hnb
  rw [hna] at HRS la
  rw [hnb] at HFD lb
  obtain ⟨nx, hnx⟩ : ∃ n, x.length = n := ⟨_, rfl⟩
  rw [hnx] at la lb hx64 HRS HFD ⊢
  obtain rfl : na = nx := la
  have hlb : decide (na < nb) = false := by simp; omega
  have hnb0 : (0 : Int) ≤ (nb : Int) := Int.natCast_nonneg _
  clear sa sb eA eB hna hnb hnx hxl hf
  go_enter Tryz.func5, Tryz.ntmps5
  go_wp2_with (first
    | (go_at_call 15; refine (HWK.out _ (by (repeat' (first | (with_reducible exact Below.refl _ _) | (with_reducible refine below_alloc ?_) | (with_reducible refine below_drew ?_) | (with_reducible refine below_drewN ?_) | (with_reducible refine below_set (by first | (simp; done) | (simp; omega)) ?_) | (with_reducible refine below_call (by with_reducible assumption) ?_))))).mono ?_; rintro e' w1 ⟨rfl, hb1⟩)
    | (go_at_call_of 9 (Value.slice Ax na cx); refine (HRS.out _ (by (repeat' (first | (with_reducible exact Below.refl _ _) | (with_reducible refine below_alloc ?_) | (with_reducible refine below_drew ?_) | (with_reducible refine below_drewN ?_) | (with_reducible refine below_set (by first | (simp; done) | (simp; omega)) ?_) | (with_reducible refine below_call (by with_reducible assumption) ?_))))).mono ?_; rintro e' w2 ⟨⟨va, rfl, hoa⟩, hb2⟩; have HOA := Lib.hid (Sl.own encPrt_len hoa HNA.out.symm); obtain ⟨Aa, ca, rfl⟩ := own_slice hoa)
    | (go_at_call_of 11 (Value.slice Ax na cx); refine (HFD.out _ (by (repeat' (first | (with_reducible exact Below.refl _ _) | (with_reducible refine below_alloc ?_) | (with_reducible refine below_drew ?_) | (with_reducible refine below_drewN ?_) | (with_reducible refine below_set (by first | (simp; done) | (simp; omega)) ?_) | (with_reducible refine below_call (by with_reducible assumption) ?_))))).mono ?_; rintro e' w3 ⟨⟨vb, rfl, hob⟩, hb3⟩; have HOB := Lib.hid (Sl.own encPrt_len hob HNB.out.symm); obtain ⟨Ab, cb, rfl⟩ := own_slice hob; clear HRS HFD HWK hoa hob))
  have HB3 := Lib.hid (show Below w.heap.size w w3 by (repeat' (first | (with_reducible exact Below.refl _ _) | (with_reducible refine below_alloc ?_) | (with_reducible refine below_drew ?_) | (with_reducible refine below_drewN ?_) | (with_reducible refine below_set (by first | (simp; done) | (simp; omega)) ?_) | (with_reducible refine below_call (by with_reducible assumption) ?_))))
  have HA3 := Lib.hid (HOA.out.below hb3)
  have HX0 := Lib.hid (heap_alloc_new w3 (.cells #[.slice Aa na ca, .slice Ab nb cb] 23))
  have HFK := Lib.hid (show ∀ k : Nat, k < 2 → ∃ (F : List Prt) (AF : Option Addr) (nF cF : Nat), StayL vars t F ∧ Sl encPrt 5 w3 (.slice AF nF cF) F ∧ F.length = nF ∧ nF ≤ 9223372036854775807 ∧ (#[.slice Aa na ca, .slice Ab nb cb] : Array Value)[k]? = some (.slice AF nF cF) from fun k hk => by
    rcases k with _ | _ | k
    · exact ⟨A, Aa, na, ca, SA.out, HA3.out, HNA.out, hx64, rfl⟩
    · exact ⟨B, Ab, nb, cb, SB.out, HOB.out, HNB.out, by omega, rfl⟩
    · omega)
  clear HOA hb1 hb2 hb3 hlb hnb0 HNA HNB
  go_loopg [74] 2 (fun gg s74 wr => ∃ k : Nat, s74 = .int .i64 k ∧ k ≤ 2 ∧ 2 - k ≤ gg ∧ Aside (Below w3.heap.size w3 wr) ∧ Aside (wr.heap[w3.heap.size]? = some (.cells #[.slice Aa na ca, .slice Ab nb cb] 23 (0, 0))))
  case atStart => exact ⟨0, rfl, by omega, by omega, (show Below w3.heap.size w3 _ from below_alloc (Below.refl _ _)), HX0.out⟩
  case round =>
    obtain ⟨k, rfl, hk, hg, HBR, HX⟩ := hrel
    have HBW := Lib.hid (below_call HBR.out HB3.out)
    by_cases hlt : k < 2
    · obtain ⟨F, AF, nF, cF, hF, hSF, hln, hmx, hce⟩ := HFK.out k hlt
      have e0 : wr.cell? ⟨w3.heap.size, k, none⟩ = some (.slice AF nF cF) := (cell_of_row _ _ k _ _ _ HX.out).trans hce
      have HFF := Lib.hid hF
      have HSFF := Lib.hid hSF
      have HLN := Lib.hid hln
      have hltz : (k : Int) < 2 := by omega
      have hk0 : (0 : Int) ≤ (k : Int) := Int.natCast_nonneg _
      clear hF hSF hln hce HFK
      go_wp2_with (first
        | (go_at_call 18; refine (HST.out F HFF.out _ _ (below_call (by (repeat' (first | (with_reducible exact Below.refl _ _) | (with_reducible refine below_alloc ?_) | (with_reducible refine below_drew ?_) | (with_reducible refine below_drewN ?_) | (with_reducible refine below_set (by first | (simp; done) | (simp; omega)) ?_) | (with_reducible refine below_call (by with_reducible assumption) ?_)))) HBW.out) (HSFF.out.below (below_call (by (repeat' (first | (with_reducible exact Below.refl _ _) | (with_reducible refine below_alloc ?_) | (with_reducible refine below_drew ?_) | (with_reducible refine below_drewN ?_) | (with_reducible refine below_set (by first | (simp; done) | (simp; omega)) ?_) | (with_reducible refine below_call (by with_reducible assumption) ?_)))) HBR.out))).mono ?_; rintro e' w4 ⟨rfl, hb4⟩)
        | (go_at_call 9; refine (HSR.out F HFF.out _ _ (below_call (by (repeat' (first | (with_reducible exact Below.refl _ _) | (with_reducible refine below_alloc ?_) | (with_reducible refine below_drew ?_) | (with_reducible refine below_drewN ?_) | (with_reducible refine below_set (by first | (simp; done) | (simp; omega)) ?_) | (with_reducible refine below_call (by with_reducible assumption) ?_)))) HBW.out) (HSFF.out.below (below_call (by (repeat' (first | (with_reducible exact Below.refl _ _) | (with_reducible refine below_alloc ?_) | (with_reducible refine below_drew ?_) | (with_reducible refine below_drewN ?_) | (with_reducible refine below_set (by first | (simp; done) | (simp; omega)) ?_) | (with_reducible refine below_call (by with_reducible assumption) ?_)))) HBR.out))).mono ?_; rintro e' w5 ⟨⟨v5, rfl, hS5⟩, hb5⟩; have HS5 := Lib.hid hS5; clear hS5)
        | (go_at_call 13; refine (same_c F _ _ _ HS5.out (HSFF.out.below (below_call (by (repeat' (first | (with_reducible exact Below.refl _ _) | (with_reducible refine below_alloc ?_) | (with_reducible refine below_drew ?_) | (with_reducible refine below_drewN ?_) | (with_reducible refine below_set (by first | (simp; done) | (simp; omega)) ?_) | (with_reducible refine below_call (by with_reducible assumption) ?_)))) HBR.out))).mono ?_; rintro e' w6 ⟨rfl, hb6⟩))
      have hr6 : Below wr.heap.size wr w6 := by (repeat' (first | (with_reducible exact Below.refl _ _) | (with_reducible refine below_alloc ?_) | (with_reducible refine below_drew ?_) | (with_reducible refine below_drewN ?_) | (with_reducible refine below_set (by first | (simp; done) | (simp; omega)) ?_) | (with_reducible refine below_call (by with_reducible assumption) ?_)))
      have HR6 := Lib.hid hr6
      have HB6 := Lib.hid (below_call hr6 HBR.out)
      have HX6 := Lib.hid ((hr6.block _ (Array.getElem?_eq_some_iff.1 HX.out).1).trans HX.out)
      have HFC := Lib.hid (show ∀ j, j < nF → ∃ (p : Prt) (b o : Nat), AF = some ⟨b, o, none⟩ ∧ b < w3.heap.size ∧ F[j]? = some p ∧ ∀ i u, (encPrt p)[i]? = some u → w6.cell? ⟨b, o + j * 5 + i, none⟩ = some u from fun j hj => by
        have hjF : j < F.length := by rw [HLN.out]; exact hj
        obtain ⟨_, _, hve, -, -, h3⟩ := HSFF.out
        injection hve with e1 e2 e3
        subst e1
        obtain ⟨b, o, rfl, hb, hc⟩ := h3 j F[j] (List.getElem?_eq_getElem hjF)
        exact ⟨F[j], b, o, rfl, hb, List.getElem?_eq_getElem hjF, fun i u hu => (HB6.out.cell (p := ⟨b, o + j * 5 + i, none⟩) hb).trans (hc i u hu)⟩)
      have h36 := HB6.out.size
      clear hb4 hb5 hb6 hr6 HS5 HSFF e0
      go_loopg [110] nF (fun gg s110 wr => ∃ j : Nat, s110 = .int .i64 j ∧ j ≤ nF ∧ nF - j ≤ gg ∧ Aside (Below w6.heap.size w6 wr))
      case atStart => exact ⟨0, rfl, Nat.zero_le _, by omega, (show Below w6.heap.size w6 w6 from Below.refl _ _)⟩
      case round =>
        obtain ⟨j, rfl, hj, hgj, HB2⟩ := hrel
        by_cases hjl : j < nF
        · obtain ⟨p, b, o, rfl, hb, hpj, hcc⟩ := HFC.out j hjl
          have hB2 := HB2.out
          have a0 : wr.cell? ⟨b, o + j * 5, none⟩ = some (.int .i64 p.k) := (hB2.cell (p := ⟨b, o + j * 5, none⟩) (by show b < _; omega)).trans (by simpa using hcc 0 _ rfl)
          have a1 : wr.cell? ⟨b, o + j * 5 + 1, none⟩ = some (.int .i64 p.n) := (hB2.cell (p := ⟨b, o + j * 5 + 1, none⟩) (by show b < _; omega)).trans (by simpa using hcc 1 _ rfl)
          have a2 : wr.cell? ⟨b, o + j * 5 + 2, none⟩ = some (.int .i64 p.t) := (hB2.cell (p := ⟨b, o + j * 5 + 2, none⟩) (by show b < _; omega)).trans (by simpa using hcc 2 _ rfl)
          have a3 : wr.cell? ⟨b, o + j * 5 + 3, none⟩ = some (.string p.s) := (hB2.cell (p := ⟨b, o + j * 5 + 3, none⟩) (by show b < _; omega)).trans (by simpa using hcc 3 _ rfl)
          have a4 : wr.cell? ⟨b, o + j * 5 + 4, none⟩ = some (.string p.f) := (hB2.cell (p := ⟨b, o + j * 5 + 4, none⟩) (by show b < _; omega)).trans (by simpa using hcc 4 _ rfl)
          have hjz : (j : Int) < (nF : Int) := by omega
          have hj0 : (0 : Int) ≤ (j : Int) := Int.natCast_nonneg _
          have hz6 := hB2.size
          have HNU := Lib.hid (HFF.out.nums p (List.mem_of_getElem? hpj))
          clear hcc hpj hB2 HFC
          go_upto_region 19 with fail
          by_cases hk1 : p.k = 1
          · have HFT := Lib.hid (fun W => fits_c p.t p.n W)
            rw [HNU.out hk1] at HFT
            rw [hk1] at a0
            clear HNU
            go_wp2_with (go_at_call 19; refine (HFT.out _).mono ?_; rintro e' w7 ⟨rfl, rfl⟩)
            go_roundg (nF - (j + 1))
            case measure => omega
            case rel =>
              exact ⟨j + 1, by go_num, by omega, by omega, (show Below w6.heap.size w6 _ from below_call (by (repeat' (first | (with_reducible exact Below.refl _ _) | (with_reducible refine below_alloc ?_) | (with_reducible refine below_drew ?_) | (with_reducible refine below_drewN ?_) | (with_reducible refine below_set (by first | (simp; done) | (simp; omega)) ?_) | (with_reducible refine below_call (by with_reducible assumption) ?_)))) HB2.out)⟩
          · have hkb := ne_i hk1
            clear HNU
            go_wp2
            go_roundg (nF - (j + 1))
            case measure => omega
            case rel =>
              exact ⟨j + 1, by go_num, by omega, by omega, (show Below w6.heap.size w6 _ from below_call (by (repeat' (first | (with_reducible exact Below.refl _ _) | (with_reducible refine below_alloc ?_) | (with_reducible refine below_drew ?_) | (with_reducible refine below_drewN ?_) | (with_reducible refine below_set (by first | (simp; done) | (simp; omega)) ?_) | (with_reducible refine below_call (by with_reducible assumption) ?_)))) HB2.out)⟩
        · obtain rfl : j = nF := by omega
          have hjz : ¬ (j : Int) < (j : Int) := by omega
          clear HFC
          go_wp2
          go_roundg (2 - (k + 1))
          case measure => omega
          case rel =>
            have hB2 := HB2.out
            exact ⟨k + 1, by go_num, by omega, by omega, (show Below w3.heap.size w3 _ from below_call (below_call (by (repeat' (first | (with_reducible exact Below.refl _ _) | (with_reducible refine below_alloc ?_) | (with_reducible refine below_drew ?_) | (with_reducible refine below_drewN ?_) | (with_reducible refine below_set (by first | (simp; done) | (simp; omega)) ?_) | (with_reducible refine below_call (by with_reducible assumption) ?_)))) hB2) HB6.out), (show Aside _ from ((below_call (show Below wr.heap.size wr _ by (repeat' (first | (with_reducible exact Below.refl _ _) | (with_reducible refine below_alloc ?_) | (with_reducible refine below_drew ?_) | (with_reducible refine below_drewN ?_) | (with_reducible refine below_set (by first | (simp; done) | (simp; omega)) ?_) | (with_reducible refine below_call (by with_reducible assumption) ?_)))) hB2).block _ (Array.getElem?_eq_some_iff.1 HX6.out).1).trans HX6.out)⟩
    · obtain rfl : k = 2 := by omega
      have hB3 := HBW.out
      clear HFK HST HSR HX HX0
      go_wp2_with (first
        | (go_at_call_of 11 (Value.slice Ab nb cb); refine (HSF.out B B SB.out EB.out _ _ (below_call (by (repeat' (first | (with_reducible exact Below.refl _ _) | (with_reducible refine below_alloc ?_) | (with_reducible refine below_drew ?_) | (with_reducible refine below_drewN ?_) | (with_reducible refine below_set (by first | (simp; done) | (simp; omega)) ?_) | (with_reducible refine below_call (by with_reducible assumption) ?_)))) HBW.out) (HOB.out.below (below_call (by (repeat' (first | (with_reducible exact Below.refl _ _) | (with_reducible refine below_alloc ?_) | (with_reducible refine below_drew ?_) | (with_reducible refine below_drewN ?_) | (with_reducible refine below_set (by first | (simp; done) | (simp; omega)) ?_) | (with_reducible refine below_call (by with_reducible assumption) ?_)))) HBR.out))).mono ?_; rintro e' w4 ⟨⟨v4, rfl, hS4⟩, hb4⟩; have HS4 := Lib.hid hS4; clear hS4)
        | (go_at_call_of 11 (Value.slice Aa na ca); refine (HSF.out A B SA.out EA.out _ _ (below_call (by (repeat' (first | (with_reducible exact Below.refl _ _) | (with_reducible refine below_alloc ?_) | (with_reducible refine below_drew ?_) | (with_reducible refine below_drewN ?_) | (with_reducible refine below_set (by first | (simp; done) | (simp; omega)) ?_) | (with_reducible refine below_call (by with_reducible assumption) ?_)))) HBW.out) (HA3.out.below (below_call (by (repeat' (first | (with_reducible exact Below.refl _ _) | (with_reducible refine below_alloc ?_) | (with_reducible refine below_drew ?_) | (with_reducible refine below_drewN ?_) | (with_reducible refine below_set (by first | (simp; done) | (simp; omega)) ?_) | (with_reducible refine below_call (by with_reducible assumption) ?_)))) HBR.out))).mono ?_; rintro e' w5 ⟨⟨v5, rfl, hS5⟩, hb5⟩; have HS5 := Lib.hid hS5; clear hS5)
        | (go_at_call_of 13 v4; refine (same_c B _ _ _ (HOB.out.below (below_call (by (repeat' (first | (with_reducible exact Below.refl _ _) | (with_reducible refine below_alloc ?_) | (with_reducible refine below_drew ?_) | (with_reducible refine below_drewN ?_) | (with_reducible refine below_set (by first | (simp; done) | (simp; omega)) ?_) | (with_reducible refine below_call (by with_reducible assumption) ?_)))) HBR.out)) (HS4.out.below (by (repeat' (first | (with_reducible exact Below.refl _ _) | (with_reducible refine below_alloc ?_) | (with_reducible refine below_drew ?_) | (with_reducible refine below_drewN ?_) | (with_reducible refine below_set (by first | (simp; done) | (simp; omega)) ?_) | (with_reducible refine below_call (by with_reducible assumption) ?_)))))).mono ?_; rintro e' w6 ⟨rfl, hb6⟩)
        | (go_at_call_of 13 v5; refine (same_c B _ _ _ (HOB.out.below (below_call (by (repeat' (first | (with_reducible exact Below.refl _ _) | (with_reducible refine below_alloc ?_) | (with_reducible refine below_drew ?_) | (with_reducible refine below_drewN ?_) | (with_reducible refine below_set (by first | (simp; done) | (simp; omega)) ?_) | (with_reducible refine below_call (by with_reducible assumption) ?_)))) HBR.out)) (HS5.out.below (by (repeat' (first | (with_reducible exact Below.refl _ _) | (with_reducible refine below_alloc ?_) | (with_reducible refine below_drew ?_) | (with_reducible refine below_drewN ?_) | (with_reducible refine below_set (by first | (simp; done) | (simp; omega)) ?_) | (with_reducible refine below_call (by with_reducible assumption) ?_)))))).mono ?_; rintro e' w7 ⟨rfl, hb7⟩))
      go_ret
      exact ⟨rfl, below_call (by (repeat' (first | (with_reducible exact Below.refl _ _) | (with_reducible refine below_alloc ?_) | (with_reducible refine below_drew ?_) | (with_reducible refine below_drewN ?_) | (with_reducible refine below_set (by first | (simp; done) | (simp; omega)) ?_) | (with_reducible refine below_call (by with_reducible assumption) ?_)))) HBW.out⟩
end Go.Proofs.YtenjkplijblcoaaGreatDoor
