/- expr.depth. -/
import Derived.Test.YtbnelgniekcjdaaGreatDoorCFExpr
set_option linter.unusedSimpArgs false
set_option linter.unusedVariables false
namespace Go.Proofs.YtbnelgniekcjdaaGreatDoor
open Go.RowKit Cap
set_option maxRecDepth 100000

set_option maxHeartbeats 4000000 in
theorem depth_c (x : List Prt) (v : Value) (w : World) (hs : Sl encPrt 5 w v x) (hn : x.length ≤ 500) :
    Calls Tryz.prog 18 #[v] w fun e w' => e = .returned (.int .i64 (depthL x)) ∧ Below w.heap.size w w' := by
  obtain ⟨A, c, rfl, hl, hm, hc⟩ := hs
  have HC := Lib.hid hc
  clear hc
  go_enter Tryz.func18, Tryz.ntmps18
  go_wp2
  go_loopg [3, 11] x.length (fun gg s3 s11 wr => ∃ (k : Nat) (st : List Int), s11 = .int .i64 k ∧ k ≤ x.length ∧ x.length - k ≤ gg ∧ st.length ≤ k ∧ Aside (wr.ownsRow w.heap.size 3 1 s3 st.length (st.flatMap encI)) ∧ Aside (∀ d ∈ st, 1 ≤ d ∧ d ≤ (k : Int)) ∧ Aside (depthGo (x.drop k) st = depthGo x []) ∧ Aside (Below w.heap.size w wr))
  case atStart => exact ⟨0, [], rfl, Nat.zero_le _, by omega, Nat.le_refl _, (show Aside _ from ⟨by simp, .inl ⟨rfl, rfl⟩⟩), (show Aside _ from fun d hd => by cases hd), (show depthGo (x.drop 0) [] = depthGo x [] by rw [List.drop_zero]), (show Aside _ from Below.refl _ _)⟩
  case round =>
    obtain ⟨k, st, rfl, hk, hg, hst, HO, HD, HG, HB⟩ := hrel
    have hB := HB.out
    have hsz := hB.size
    by_cases hlt : k < x.length
    · obtain ⟨p, hp⟩ : ∃ p, x[k]? = some p := ⟨x[k], List.getElem?_eq_getElem hlt⟩
      obtain ⟨b, off, rfl, hb, hcx⟩ := HC.out k p hp
      have c0 : wr.cell? ⟨b, off + k * 5, none⟩ = some (.int .i64 p.k) := (hB.cell (p := ⟨b, off + k * 5, none⟩) hb).trans (by simpa using hcx 0 _ rfl)
      have c1 : wr.cell? ⟨b, off + k * 5 + 1, none⟩ = some (.int .i64 p.n) := (hB.cell (p := ⟨b, off + k * 5 + 1, none⟩) hb).trans (by simpa using hcx 1 _ rfl)
      have c2 : wr.cell? ⟨b, off + k * 5 + 2, none⟩ = some (.int .i64 p.t) := (hB.cell (p := ⟨b, off + k * 5 + 2, none⟩) hb).trans (by simpa using hcx 2 _ rfl)
      have c3 : wr.cell? ⟨b, off + k * 5 + 3, none⟩ = some (.string p.s) := (hB.cell (p := ⟨b, off + k * 5 + 3, none⟩) hb).trans (by simpa using hcx 3 _ rfl)
      have c4 : wr.cell? ⟨b, off + k * 5 + 4, none⟩ = some (.string p.f) := (hB.cell (p := ⟨b, off + k * 5 + 4, none⟩) hb).trans (by simpa using hcx 4 _ rfl)
      have hle := takesE_le p
      have HNX := Lib.hid (show (if st.length < takesE p then none else depthGo (x.drop (k + 1)) (depthStep p st)) = depthGo x [] by have h := HG.out; rw [drop_cons hp, depthGo] at h; exact h)
      have HSL := Lib.hid (depthStep_len p st)
      have HDS := Lib.hid (show depthStep p st = st.take (st.length - takesE p) ++ [1 + if takesE p = 0 then 0 else maxL (st.drop (st.length - takesE p))] from rfl)
      obtain ⟨n, hn'⟩ : ∃ n, takesE p = n := ⟨_, rfl⟩
      have HT := Lib.hid (fun W => (by rw [← hn']; exact takesE_c p W : Calls Tryz.prog 19 #[prtV p] W fun e w' => e = .returned (.int .i64 (n : Int)) ∧ Below W.heap.size W w'))
      rw [hn'] at hle
      have HE := Lib.hid hn'
      clear hn' hcx hp
      have hltz : (k : Int) < (x.length : Int) := by omega
      have hk0 : (0 : Int) ≤ (k : Int) := Int.natCast_nonneg _
      by_cases hlt2 : st.length < n
      · have hgt : (st.length : Int) < (n : Int) := by omega
        obtain ⟨A3, c3', rfl⟩ := own_slice HO.out
        have HZ := Lib.hid (show depthL x = 0 by
          have h := HNX.out
          rw [HE.out, if_pos hlt2] at h
          rw [depthL, ← h])
        go_wp2_with (go_at_call 19; refine (HT.out _).mono ?_; rintro e w1 ⟨rfl, hb1⟩; have hz1 := hb1.size; (try simp at hz1))
        go_ret
        exact ⟨by rw [HZ.out]; rfl, by (repeat' (first | (with_reducible exact Below.refl _ _) | (with_reducible refine below_alloc ?_) | (with_reducible refine below_drew ?_) | (with_reducible refine below_drewN ?_) | (with_reducible refine below_set (by simp; omega) ?_) | (with_reducible refine below_call (by with_reducible assumption) ?_)))⟩
      · have hgt : ¬ (st.length : Int) < (n : Int) := by omega
        have HNX := Lib.hid (show depthGo (x.drop (k + 1)) (depthStep p st) = depthGo x [] by have h := HNX.out; rw [HE.out, if_neg hlt2] at h; exact h)
        rcases own_form HO.out with ⟨rfl, rfl⟩ | ⟨g, cap, rfl, hcap, hmax, hgw⟩
        · obtain rfl : n = 0 := by simpa using hlt2
          have HT0 := Lib.hid (fun W => HT.out W)
          simp only [Int.ofNat_zero, Int.natCast_zero] at HT0
          have HST := Lib.hid (show depthStep p [] = [1] by rw [HDS.out, HE.out]; rfl)
          clear HT
          go_wp2_with (first
            | (go_at_call 19; refine (HT0.out _).mono ?_; rintro e w1 ⟨rfl, hb1⟩; have hz1 := hb1.size; (try simp at hz1))
            | (at_builtin; refine wpList_app _ rfl _ _ 24 rfl w.heap.size 3 (.int .i64 0) 1 8 Tryz.underlying24 info_int rfl (by decide) encI encI_len one_I (.slice none 0 0) 0 [] rfl (World.ownsRow_nil _ _ _ _) _ [1] rfl (by refine Sl.lit' ?_ _ _ _ _ _ _ ?_ ?_ ?_ ?_ <;> first | (intro _; rfl) | rfl | decide | (simp; done)) (by unfold maxLen; (try simp); (try omega)) (by (try simp); (try omega)) (by (try simp); (try omega)) ?_; intro v2 w3 ho2 hg2))
          go_roundg (x.length - (k + 1))
          case measure => omega
          case rel =>
            refine ⟨k + 1, depthStep p [], by go_num, by omega, by omega, by rw [HST.out]; simp, (by rw [HST.out]; exact ho2), ?_, HNX.out, below_grown (by (repeat' (first | (with_reducible exact Below.refl _ _) | (with_reducible refine below_alloc ?_) | (with_reducible refine below_drew ?_) | (with_reducible refine below_drewN ?_) | (with_reducible refine below_set (by simp; omega) ?_) | (with_reducible refine below_call (by with_reducible assumption) ?_)))) hg2 (fun g hg => by simp [Value.ownBlock] at hg)⟩
            show ∀ d ∈ depthStep p [], 1 ≤ d ∧ d ≤ ((k + 1 : Nat) : Int)
            rw [HST.out]
            intro d hd
            obtain rfl := List.mem_singleton.1 hd
            omega
        · have hcapz : (st.length : Int) ≤ (cap : Int) := by omega
          have h00 : (0 : Int) ≤ (st.length : Int) := Int.natCast_nonneg _
          obtain ⟨m, hm2⟩ : ∃ m, st.length = m + n := ⟨st.length - n, by omega⟩
          have hlenz : (st.length : Int) - (n : Int) = (m : Int) := by omega
          have hm0 : (0 : Int) ≤ (m : Int) := Int.natCast_nonneg _
          have hmle : (m : Int) ≤ (st.length : Int) := by omega
          have hmN : m ≤ st.length := by omega
          have HM2 := Lib.hid hm2
          clear hm2
          by_cases h0 : (0 : Int) < (n : Int)
          · have hcm : ¬ cap = m := by have := HM2.out; omega
            have HSLD := Lib.hid (fun W (hW : Below wr.heap.size wr W) => (by
              have h := Sl.drop (Sl.own (enc := encI) (k := 1) (fun _ => rfl) (own_below HO.out hW) rfl) m (by omega)
              simpa using h : Sl encI 1 W (.slice (some ⟨g, m, none⟩) (st.length - m) (cap - m)) (st.drop m)))
            have hMpos : 0 < (st.drop m).length := by rw [List.length_drop]; have := HM2.out; omega
            obtain ⟨M, hM⟩ : ∃ M, maxL (st.drop m) = M := ⟨_, rfl⟩
            have hMk : M ≤ (k : Int) := by rw [← hM]; exact maxL_le hk0 (fun d hd => (HD.out d (List.mem_of_mem_drop hd)).2)
            have hM0 : 0 ≤ M := by rw [← hM]; exact maxL_ge (fun d hd => (HD.out d (List.mem_of_mem_drop hd)).1)
            have HMX := Lib.hid (fun W (hW : Below wr.heap.size wr W) => (by rw [← hM]; exact max_c (st.drop m) _ W (HSLD.out W hW) hMpos : Calls Tryz.prog 35 #[.slice (some ⟨g, m, none⟩) (st.length - m) (cap - m)] W fun e w' => e = .returned (.int .i64 M) ∧ Below W.heap.size W w'))
            have HST := Lib.hid (show depthStep p st = st.take m ++ [1 + M] by rw [HDS.out, HE.out, show st.length - n = m by have := HM2.out; omega, if_neg (by omega), hM])
            clear hM hMpos
            go_wp2_with (first
              | (go_at_call 19; refine (HT.out _).mono ?_; rintro e w1 ⟨rfl, hb1⟩; have hz1 := hb1.size; (try simp at hz1))
              | (go_at_call 35; refine (HMX.out _ (by (repeat' (first | (with_reducible exact Below.refl _ _) | (with_reducible refine below_alloc ?_) | (with_reducible refine below_drew ?_) | (with_reducible refine below_drewN ?_) | (with_reducible refine below_set (by simp; omega) ?_) | (with_reducible refine below_call (by with_reducible assumption) ?_))))).mono ?_; rintro e w2 ⟨rfl, hb2⟩; have hz2 := hb2.size)
              | (at_builtin; refine wpList_app _ rfl _ _ 24 rfl w.heap.size 3 (.int .i64 0) 1 8 Tryz.underlying24 info_int rfl (by decide) encI encI_len one_I (.slice (some ⟨g, 0, none⟩) m cap) m ((st.take m).flatMap encI) rfl (own_takeL encI_len (own_below HO.out (by (repeat' (first | (with_reducible exact Below.refl _ _) | (with_reducible refine below_alloc ?_) | (with_reducible refine below_drew ?_) | (with_reducible refine below_drewN ?_) | (with_reducible refine below_set (by simp; omega) ?_) | (with_reducible refine below_call (by with_reducible assumption) ?_))))) hmN) _ [1 + M] rfl (by refine Sl.lit' ?_ _ _ _ _ _ _ ?_ ?_ ?_ ?_ <;> first | (intro _; rfl) | rfl | decide | (simp; done)) (by unfold maxLen; simp; omega) (by simp; omega) (by simp; omega) ?_; intro v2 w3 ho2 hg2))
            go_roundg (x.length - (k + 1))
            case measure => omega
            case rel =>
              have hrow : w3.ownsRow w.heap.size 3 1 v2 (depthStep p st).length ((depthStep p st).flatMap encI) := by
                rw [HST.out, List.length_append, List.length_take, Nat.min_eq_left hmN, List.flatMap_append]
                exact ho2
              refine ⟨k + 1, depthStep p st, by go_num, by omega, by omega, by rw [HSL.out, HE.out]; have := HM2.out; omega, hrow, ?_, HNX.out, below_grown (by (repeat' (first | (with_reducible exact Below.refl _ _) | (with_reducible refine below_alloc ?_) | (with_reducible refine below_drew ?_) | (with_reducible refine below_drewN ?_) | (with_reducible refine below_set (by simp; omega) ?_) | (with_reducible refine below_call (by with_reducible assumption) ?_)))) hg2 (own_ge (own_takeL encI_len HO.out hmN) (Nat.le_refl _))⟩
              show ∀ d ∈ depthStep p st, 1 ≤ d ∧ d ≤ ((k + 1 : Nat) : Int)
              rw [HST.out]
              intro d hd
              rcases List.mem_append.1 hd with hd | hd
              · have := HD.out d (List.mem_of_mem_take hd)
                omega
              · obtain rfl := List.mem_singleton.1 hd
                omega
          · have HST := Lib.hid (show depthStep p st = st.take m ++ [1] by rw [HDS.out, HE.out, show st.length - n = m by have := HM2.out; omega, if_pos (by omega)]; rfl)
            by_cases hcm : cap = m
            · subst hcm
              go_wp2_with (first
                | (go_at_call 19; refine (HT.out _).mono ?_; rintro e w1 ⟨rfl, hb1⟩; have hz1 := hb1.size; (try simp at hz1))
                | (at_builtin; refine wpList_app _ rfl _ _ 24 rfl w.heap.size 3 (.int .i64 0) 1 8 Tryz.underlying24 info_int rfl (by decide) encI encI_len one_I (.slice (some ⟨g, 0, none⟩) cap cap) cap ((st.take cap).flatMap encI) rfl (own_takeL encI_len (own_below HO.out (by (repeat' (first | (with_reducible exact Below.refl _ _) | (with_reducible refine below_alloc ?_) | (with_reducible refine below_drew ?_) | (with_reducible refine below_drewN ?_) | (with_reducible refine below_set (by simp; omega) ?_) | (with_reducible refine below_call (by with_reducible assumption) ?_))))) hmN) _ [1] rfl (by refine Sl.lit' ?_ _ _ _ _ _ _ ?_ ?_ ?_ ?_ <;> first | (intro _; rfl) | rfl | decide | (simp; done)) (by unfold maxLen; simp; omega) (by simp; omega) (by simp; omega) ?_; intro v2 w3 ho2 hg2))
              go_roundg (x.length - (k + 1))
              case measure => omega
              case rel =>
                have hrow : w3.ownsRow w.heap.size 3 1 v2 (depthStep p st).length ((depthStep p st).flatMap encI) := by
                  rw [HST.out, List.length_append, List.length_take, Nat.min_eq_left hmN, List.flatMap_append]
                  exact ho2
                refine ⟨k + 1, depthStep p st, by go_num, by omega, by omega, by rw [HSL.out, HE.out]; have := HM2.out; omega, hrow, ?_, HNX.out, below_grown (by (repeat' (first | (with_reducible exact Below.refl _ _) | (with_reducible refine below_alloc ?_) | (with_reducible refine below_drew ?_) | (with_reducible refine below_drewN ?_) | (with_reducible refine below_set (by simp; omega) ?_) | (with_reducible refine below_call (by with_reducible assumption) ?_)))) hg2 (own_ge (own_takeL encI_len HO.out hmN) (Nat.le_refl _))⟩
                show ∀ d ∈ depthStep p st, 1 ≤ d ∧ d ≤ ((k + 1 : Nat) : Int)
                rw [HST.out]
                intro d hd
                rcases List.mem_append.1 hd with hd | hd
                · have := HD.out d (List.mem_of_mem_take hd)
                  omega
                · obtain rfl := List.mem_singleton.1 hd
                  omega
            · go_wp2_with (first
                | (go_at_call 19; refine (HT.out _).mono ?_; rintro e w1 ⟨rfl, hb1⟩; have hz1 := hb1.size; (try simp at hz1))
                | (at_builtin; refine wpList_app _ rfl _ _ 24 rfl w.heap.size 3 (.int .i64 0) 1 8 Tryz.underlying24 info_int rfl (by decide) encI encI_len one_I (.slice (some ⟨g, 0, none⟩) m cap) m ((st.take m).flatMap encI) rfl (own_takeL encI_len (own_below HO.out (by (repeat' (first | (with_reducible exact Below.refl _ _) | (with_reducible refine below_alloc ?_) | (with_reducible refine below_drew ?_) | (with_reducible refine below_drewN ?_) | (with_reducible refine below_set (by simp; omega) ?_) | (with_reducible refine below_call (by with_reducible assumption) ?_))))) hmN) _ [1] rfl (by refine Sl.lit' ?_ _ _ _ _ _ _ ?_ ?_ ?_ ?_ <;> first | (intro _; rfl) | rfl | decide | (simp; done)) (by unfold maxLen; simp; omega) (by simp; omega) (by simp; omega) ?_; intro v2 w3 ho2 hg2))
              go_roundg (x.length - (k + 1))
              case measure => omega
              case rel =>
                have hrow : w3.ownsRow w.heap.size 3 1 v2 (depthStep p st).length ((depthStep p st).flatMap encI) := by
                  rw [HST.out, List.length_append, List.length_take, Nat.min_eq_left hmN, List.flatMap_append]
                  exact ho2
                refine ⟨k + 1, depthStep p st, by go_num, by omega, by omega, by rw [HSL.out, HE.out]; have := HM2.out; omega, hrow, ?_, HNX.out, below_grown (by (repeat' (first | (with_reducible exact Below.refl _ _) | (with_reducible refine below_alloc ?_) | (with_reducible refine below_drew ?_) | (with_reducible refine below_drewN ?_) | (with_reducible refine below_set (by simp; omega) ?_) | (with_reducible refine below_call (by with_reducible assumption) ?_)))) hg2 (own_ge (own_takeL encI_len HO.out hmN) (Nat.le_refl _))⟩
                show ∀ d ∈ depthStep p st, 1 ≤ d ∧ d ≤ ((k + 1 : Nat) : Int)
                rw [HST.out]
                intro d hd
                rcases List.mem_append.1 hd with hd | hd
                · have := HD.out d (List.mem_of_mem_take hd)
                  omega
                · obtain rfl := List.mem_singleton.1 hd
                  omega
    · obtain rfl : k = x.length := by omega
      have hltz : ¬ (x.length : Int) < (x.length : Int) := by omega
      have HR := Lib.hid (show depthGo x [] = some st by rw [← HG.out, List.drop_length]; rfl)
      by_cases h1 : st.length = 1
      · obtain ⟨d, rfl⟩ := List.length_eq_one_iff.1 h1
        have HZ := Lib.hid (show depthL x = d by rw [depthL, HR.out])
        rcases own_form HO.out with ⟨rfl, hnil⟩ | ⟨g, cap, rfl, hcap, hmax, hgw⟩
        · cases hnil
        · have hown := Sl.own (enc := encI) (k := 1) (fun _ => rfl) HO.out rfl
          obtain ⟨A', c', e', _, _, hcell⟩ := hown
          obtain ⟨b', off', he, hb', hcx⟩ := hcell 0 d rfl
          injection e' with e1 e2 e3
          subst e1 e3
          clear e2
          injection he with he
          injection he with e1 e2 _
          subst e1 e2
          have c0 : wr.cell? ⟨g, 0, none⟩ = some (.int .i64 d) := by simpa using hcx 0 _ rfl
          clear hcx
          go_wp2
          go_ret
          exact ⟨by rw [HZ.out]; rfl, by (repeat' (first | (with_reducible exact Below.refl _ _) | (with_reducible refine below_alloc ?_) | (with_reducible refine below_drew ?_) | (with_reducible refine below_drewN ?_) | (with_reducible refine below_set (by simp; omega) ?_) | (with_reducible refine below_call (by with_reducible assumption) ?_)))⟩
      · have hne : ¬ (st.length : Int) = 1 := by omega
        obtain ⟨A3, c3', rfl⟩ := own_slice HO.out
        have HZ := Lib.hid (show depthL x = 0 by
          rw [depthL, HR.out]
          match st, h1 with
          | [], _ => rfl
          | [_], h => exact absurd rfl h
          | _ :: _ :: _, _ => rfl)
        go_wp2
        go_ret
        exact ⟨by rw [HZ.out]; rfl, by (repeat' (first | (with_reducible exact Below.refl _ _) | (with_reducible refine below_alloc ?_) | (with_reducible refine below_drew ?_) | (with_reducible refine below_drewN ?_) | (with_reducible refine below_set (by simp; omega) ?_) | (with_reducible refine below_call (by with_reducible assumption) ?_)))⟩
end Go.Proofs.YtbnelgniekcjdaaGreatDoor
