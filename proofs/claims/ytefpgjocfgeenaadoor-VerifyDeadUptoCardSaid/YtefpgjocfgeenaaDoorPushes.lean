/- VerifyPushes: the walk. -/
import Derived.Test.YtefpgjocfgeenaaDoorLaw15
namespace Go.Proofs.YtefpgjocfgeenaaDoor
open Go.RowKit Cap
set_option maxRecDepth 100000

theorem info_ins : InfoIs Tryd.prog 26 (.agg #[.int .i64 0, .int .i64 0, .int .i64 0, .int .i64 0]) 4 32 := by unfold InfoIs; kernel_rfl
theorem one_Ins (x : Ins) : ∀ u ∈ encIns x, u.oneCell' = true := by
  intro u hu
  simp [encIns] at hu
  rcases hu with rfl | rfl | rfl | rfl <;> rfl
theorem mod70 (n : Int) : ∃ m : Nat, wrap64 ((IntKind.u64.wrap n).tmod 70) = m ∧ m < 70 := by
  have h : 0 ≤ IntKind.u64.wrap n ∧ IntKind.u64.wrap n < 18446744073709551616 := by
    unfold IntKind.wrap IntKind.bits IntKind.signed
    simp
    omega
  generalize IntKind.u64.wrap n = q at h
  have h2 : q.tmod 70 = q % 70 := Int.tmod_eq_emod_of_nonneg h.1
  refine ⟨(q % 70).toNat, ?_, by omega⟩
  rw [h2]
  unfold wrap64
  omega
theorem rep_succ (j : Nat) (i : Ins) : (List.replicate j i).flatMap encIns ++ [i].flatMap encIns = (List.replicate (j + 1) i).flatMap encIns := by
  rw [List.replicate_succ', List.flatMap_append]

theorem cpy_own {W : World} {base : Nat} {e : TypeId} {v : Value} {l : List Ins} (h : W.ownsRow base e 4 v (0 + l.length) ([] ++ l.flatMap encIns)) : W.ownsRow base e 4 v l.length (l.flatMap encIns) := by simpa using h
theorem add_own {W : World} {base : Nat} {e : TypeId} {v : Value} {l r : List Ins} (h : W.ownsRow base e 4 v (l.length + r.length) (l.flatMap encIns ++ r.flatMap encIns)) : Sl encIns 4 W v (l ++ r) := by
  rw [← List.flatMap_append] at h
  exact Sl.own encIns_len h (by simp)
theorem ok_ps (l : List Ins) (h : ∀ i ∈ l, i = iP ∨ i = iS ∨ i = iE) : ImgOk (ofI l) := fun i hi => by
  rcases h i hi with rfl | rfl | rfl <;> exact ⟨by decide, by decide⟩

theorem ok1 (m : Nat) : ∀ i ∈ List.replicate m iP ++ [iE], i = iP ∨ i = iS ∨ i = iE := by
  intro i hi
  rcases List.mem_append.1 hi with h | h
  · exact .inl (List.mem_replicate.1 h).2
  · exact .inr (.inr (List.mem_singleton.1 h))
theorem ok2 (m k : Nat) (r : List Ins) (hr : ∀ i ∈ r, i = iP ∨ i = iS ∨ i = iE) : ∀ i ∈ (List.replicate m iP ++ List.replicate k iS) ++ r, i = iP ∨ i = iS ∨ i = iE := by
  intro i hi
  rcases List.mem_append.1 hi with h | h
  · rcases List.mem_append.1 h with h | h
    · exact .inl (List.mem_replicate.1 h).2
    · exact .inr (.inl (List.mem_replicate.1 h).2)
  · exact hr i h

set_option maxHeartbeats 4000000 in
theorem pushes_c (n : Int) (w : World) (hG : G w) : Calls Tryd.prog 3 #[.int .i64 n] w fun e w' => e = .returned (.bool true) ∧ Below w.heap.size w w' := by
  have HG := Lib.hid hG
  clear hG
  obtain ⟨m, hm, hm70⟩ := mod70 n
  go_enter Tryd.func3, Tryd.ntmps3
  go_wp2_with (go_at_call 5; refine (works_c _ HG.out).mono ?_; rintro e w1 ⟨rfl, hb⟩; obtain ⟨hc, hf⟩ := bcell hb; have hz := hb.size; (try simp at hz); (try have hz1 := Nat.lt_of_succ_le hz); (try have hz2 := Nat.lt_of_succ_lt hz1); (try have hz3 := Nat.lt_of_succ_lt hz2); (try have hz4 := Nat.lt_of_succ_lt hz3))
  rw [hm]
  clear hm
  go_loopg [3, 16] m (fun gg s3 s16 wr => ∃ j : Nat, s16 = .int .i64 j ∧ j ≤ m ∧ m - j ≤ gg ∧ Aside (wr.ownsRow w.heap.size 26 4 s3 j ((List.replicate j iP).flatMap encIns)) ∧ Aside (Below w.heap.size w wr))
  case atStart =>
    exact ⟨0, rfl, Nat.zero_le _, by omega, ⟨by simp, .inl ⟨rfl, rfl⟩⟩, hb⟩
  case round =>
    obtain ⟨j, rfl, hj, hgj, HO, HB⟩ := hrel
    by_cases hlt : j < m
    case pos =>
      have hltz : (j : Int) < (m : Int) := by omega
      have hsz := HB.out.size
      go_wp2_with (at_builtin; refine wpList_app _ rfl _ _ 24 rfl w.heap.size 26 _ 4 32 Tryd.underlying24 info_ins rfl (by decide) encIns encIns_len one_Ins _ _ _ rfl (own_below HO.out (by (repeat' (first | (with_reducible exact Below.refl _ _) | (with_reducible refine below_alloc ?_) | (with_reducible refine below_drew ?_) | (with_reducible refine below_drewN ?_) | (with_reducible refine below_set (by simp; omega) ?_) | (with_reducible refine below_call (by with_reducible assumption) ?_))))) _ [iP] rfl (by refine Sl.lit' ?_ _ _ _ _ _ _ ?_ ?_ ?_ ?_ <;> first | (intro _; rfl) | rfl | decide | (simp; done)) (by unfold maxLen; simp; omega) (by simp; omega) (by simp; omega) ?_; intro v2 w2 ho2 hg2)
      go_roundg (m - (j + 1))
      case measure => omega
      case rel =>
        refine ⟨j + 1, by go_num, by omega, by omega, ?_, ?_⟩
        · rw [rep_succ] at ho2
          exact ho2
        · exact below_grown (below_alloc HB.out) hg2 (own_ge HO.out (Nat.le_refl _))
    case neg =>
      obtain rfl : j = m := by omega
      have hltz : ¬ (j : Int) < (j : Int) := by omega
      have hlit : (wr.alloc (.cells #[] 26)).ownsRow wr.heap.size 26 4 (.slice (some ⟨wr.heap.size, 0, none⟩) 0 0) 0 [] := World.ownsRow_lit wr #[] 0 (Nat.le_refl _) (by decide) (by rfl)
      have HLI := Lib.hid hlit
      have hsz := HB.out.size
      have HSL := Lib.hid (Sl.own encIns_len HO.out (by simp))
      clear hlit
      by_cases hj64 : 64 < j
      · have hf := pushes_err j hj64 hm70
        have hjz : (64 : Int) < (j : Int) := by omega
        have HF := Lib.hid hf
        clear hf
        go_wp2_with (first | (at_builtin; refine wpList_app _ rfl (.tmp 24) (.tmp 25) 24 rfl wr.heap.size 26 _ 4 32 Tryd.underlying24 info_ins rfl (by decide) encIns encIns_len one_Ins (.slice (some ⟨wr.heap.size, 0, none⟩) 0 0) _ _ rfl HLI.out _ (List.replicate j iP) rfl (HSL.out.below (by (repeat' (first | (with_reducible exact Below.refl _ _) | (with_reducible refine below_alloc ?_) | (with_reducible refine below_drew ?_) | (with_reducible refine below_drewN ?_) | (with_reducible refine below_set (by simp; omega) ?_) | (with_reducible refine below_call (by with_reducible assumption) ?_))))) (by unfold maxLen; (try simp); (try omega)) (by (try simp); (try omega)) (by (try simp); (try omega)) ?_; intro v2 w2 ho2 hg2; have HO2 := Lib.hid (cpy_own ho2); have HB2 := below_grown (w := wr) (by (repeat' (first | (with_reducible exact Below.refl _ _) | (with_reducible refine below_alloc ?_) | (with_reducible refine below_call (by with_reducible assumption) ?_)))) hg2 (own_ge HLI.out (Nat.le_refl _)); have hsz2 := HB2.size; have HB2 := Lib.hid HB2; clear ho2 hg2) | (at_builtin; refine wpList_app _ rfl (.tmp 26) (.tmp 28) 24 rfl wr.heap.size 26 _ 4 32 Tryd.underlying24 info_ins rfl (by decide) encIns encIns_len one_Ins v2 _ _ rfl (own_below HO2.out (by (repeat' (first | (with_reducible exact Below.refl _ _) | (with_reducible refine below_alloc ?_) | (with_reducible refine below_drew ?_) | (with_reducible refine below_drewN ?_) | (with_reducible refine below_set (by simp; omega) ?_) | (with_reducible refine below_call (by with_reducible assumption) ?_))))) _ ([iE]) rfl (by refine Sl.lit' ?_ _ _ _ _ _ _ ?_ ?_ ?_ ?_ <;> first | (intro _; rfl) | rfl | decide | (simp; done)) (by unfold maxLen; (try simp); (try omega)) (by (try simp); (try omega)) (by (try simp); (try omega)) ?_; intro v3 w3 ho3 hg3; have HS3 := Lib.hid (add_own ho3); have HB3 := below_grown (w := wr) (below_alloc HB2.out) hg3 (own_ge HO2.out (Nat.le_refl _)); have HB3 := Lib.hid HB3; clear ho3 hg3) | (go_at_call 7; refine (of_c _ _ _ HS3.out).mono ?_; rintro e w4 ⟨v4, rfl, hI4, hb4⟩) | (go_at_call 6; refine (check_eq _ v4 _ _ _ HF.out (ask_of _ _ _ hI4 (ok_ps _ (ok1 _))) (HG.out.below (by (repeat' (first | (with_reducible exact HB3.out) | (with_reducible exact below_call HB3.out HB.out) | (with_reducible refine below_call (by with_reducible assumption) ?_)))))).mono ?_; rintro e w5 ⟨rfl, hb5⟩))
        go_ret
        exact ⟨rfl, by (repeat' (first | (with_reducible exact HB3.out) | (with_reducible exact below_call HB3.out HB.out) | (with_reducible refine below_call (by with_reducible assumption) ?_)))⟩
      · have hf := pushes_ok j (by omega)
        have hjz : ¬ (64 : Int) < (j : Int) := by omega
        have HF := Lib.hid hf
        clear hf
        go_wp2_with (first | (at_builtin; refine wpList_app _ rfl (.tmp 24) (.tmp 25) 24 rfl wr.heap.size 26 _ 4 32 Tryd.underlying24 info_ins rfl (by decide) encIns encIns_len one_Ins (.slice (some ⟨wr.heap.size, 0, none⟩) 0 0) _ _ rfl HLI.out _ (List.replicate j iP) rfl (HSL.out.below (by (repeat' (first | (with_reducible exact Below.refl _ _) | (with_reducible refine below_alloc ?_) | (with_reducible refine below_drew ?_) | (with_reducible refine below_drewN ?_) | (with_reducible refine below_set (by simp; omega) ?_) | (with_reducible refine below_call (by with_reducible assumption) ?_))))) (by unfold maxLen; (try simp); (try omega)) (by (try simp); (try omega)) (by (try simp); (try omega)) ?_; intro v2 w2 ho2 hg2; have HO2 := Lib.hid (cpy_own ho2); have HB2 := below_grown (w := wr) (by (repeat' (first | (with_reducible exact Below.refl _ _) | (with_reducible refine below_alloc ?_) | (with_reducible refine below_call (by with_reducible assumption) ?_)))) hg2 (own_ge HLI.out (Nat.le_refl _)); have hsz2 := HB2.size; have HB2 := Lib.hid HB2; clear ho2 hg2) | (at_builtin; refine wpList_app _ rfl (.tmp 26) (.tmp 28) 24 rfl wr.heap.size 26 _ 4 32 Tryd.underlying24 info_ins rfl (by decide) encIns encIns_len one_Ins v2 _ _ rfl (own_below HO2.out (by (repeat' (first | (with_reducible exact Below.refl _ _) | (with_reducible refine below_alloc ?_) | (with_reducible refine below_drew ?_) | (with_reducible refine below_drewN ?_) | (with_reducible refine below_set (by simp; omega) ?_) | (with_reducible refine below_call (by with_reducible assumption) ?_))))) _ ([iE]) rfl (by refine Sl.lit' ?_ _ _ _ _ _ _ ?_ ?_ ?_ ?_ <;> first | (intro _; rfl) | rfl | decide | (simp; done)) (by unfold maxLen; (try simp); (try omega)) (by (try simp); (try omega)) (by (try simp); (try omega)) ?_; intro v3 w3 ho3 hg3; have HS3 := Lib.hid (add_own ho3); have HB3 := below_grown (w := wr) (below_alloc HB2.out) hg3 (own_ge HO2.out (Nat.le_refl _)); have HB3 := Lib.hid HB3; clear ho3 hg3) | (go_at_call 7; refine (of_c _ _ _ HS3.out).mono ?_; rintro e w4 ⟨v4, rfl, hI4, hb4⟩) | (go_at_call 6; refine (check_eq _ v4 _ _ _ HF.out (ask_of _ _ _ hI4 (ok_ps _ (ok1 _))) (HG.out.below (by (repeat' (first | (with_reducible exact HB3.out) | (with_reducible exact below_call HB3.out HB.out) | (with_reducible refine below_call (by with_reducible assumption) ?_)))))).mono ?_; rintro e w5 ⟨rfl, hb5⟩))
        have HO5 := Lib.hid (own_below HO.out (show Below wr.heap.size wr w5 by (repeat' (first | (with_reducible exact HB3.out) | (with_reducible exact below_call HB3.out HB.out) | (with_reducible refine below_call (by with_reducible assumption) ?_)))))
        have HB5 : Below w.heap.size w w5 := by (repeat' (first | (with_reducible exact HB3.out) | (with_reducible exact below_call HB3.out HB.out) | (with_reducible refine below_call (by with_reducible assumption) ?_)))
        have HB5 := Lib.hid HB5
        clear hb4 hb5 hI4 HO2 HB2 HS3 HB3 HLI HSL HF hsz hsz2
        go_loopg [3, 45] j (fun gg s3 s45 wr => ∃ i : Nat, s45 = .int .i64 i ∧ i ≤ j ∧ j - i ≤ gg ∧ Aside (wr.ownsRow w.heap.size 26 4 s3 (j + i) ((List.replicate j iP ++ List.replicate i iS).flatMap encIns)) ∧ Aside (Below w.heap.size w wr))
        case atStart =>
          exact ⟨0, rfl, Nat.zero_le _, by omega, (show Aside _ from by rw [Nat.add_zero, List.replicate_zero, List.append_nil]; exact HO5.out), HB5.out⟩
        case round =>
          obtain ⟨i, rfl, hi, hgi, HQ, HBQ⟩ := hrel
          by_cases hlt2 : i < j
          case pos =>
            have hltz2 : (i : Int) < (j : Int) := by omega
            have hsz := HBQ.out.size
            go_wp2_with (at_builtin; refine wpList_app _ rfl _ _ 24 rfl w.heap.size 26 _ 4 32 Tryd.underlying24 info_ins rfl (by decide) encIns encIns_len one_Ins _ _ _ rfl (own_below HQ.out (by (repeat' (first | (with_reducible exact Below.refl _ _) | (with_reducible refine below_alloc ?_) | (with_reducible refine below_drew ?_) | (with_reducible refine below_drewN ?_) | (with_reducible refine below_set (by simp; omega) ?_) | (with_reducible refine below_call (by with_reducible assumption) ?_))))) _ [iS] rfl (by refine Sl.lit' ?_ _ _ _ _ _ _ ?_ ?_ ?_ ?_ <;> first | (intro _; rfl) | rfl | decide | (simp; done)) (by unfold maxLen; simp; omega) (by simp; omega) (by simp; omega) ?_; intro v2 w2 ho2 hg2)
            go_roundg (j - (i + 1))
            case measure => omega
            case rel =>
              refine ⟨i + 1, by go_num, by omega, by omega, ?_, ?_⟩
              · rw [List.flatMap_append, List.append_assoc, rep_succ, ← List.flatMap_append] at ho2
                exact ho2
              · exact below_grown (below_alloc HBQ.out) hg2 (own_ge HQ.out (Nat.le_refl _))
          case neg =>
            obtain rfl : i = j := by omega
            have hltz2 : ¬ (i : Int) < (i : Int) := by omega
            go_upto_region 18 with fail
            have HB := HBQ
            have HSL := Lib.hid (Sl.own encIns_len HQ.out (by simp))
            have hsz := HB.out.size
            have HLI := Lib.hid (show (wr.alloc (.cells #[] 26)).ownsRow wr.heap.size 26 4 (.slice (some ⟨wr.heap.size, 0, none⟩) 0 0) 0 [] from World.ownsRow_lit wr #[] 0 (Nat.le_refl _) (by decide) (by rfl))
            have hf := pushes_deep i (by omega)
            rw [← List.append_assoc] at hf
            have HF := Lib.hid hf
            have ho9 : ∀ r : List Ins, (∀ y ∈ r, y = iP ∨ y = iS ∨ y = iE) → ∀ y ∈ (List.replicate i iP ++ List.replicate i iS) ++ r, y = iP ∨ y = iS ∨ y = iE := ok2 i i
            have HO9 := Lib.hid ho9
            clear hf ho9 HB2 HB3
            go_upto_region 19 with (first | (at_builtin; refine wpList_app _ rfl (.tmp 53) (.tmp 54) 24 rfl wr.heap.size 26 _ 4 32 Tryd.underlying24 info_ins rfl (by decide) encIns encIns_len one_Ins (.slice (some ⟨wr.heap.size, 0, none⟩) 0 0) _ _ rfl HLI.out _ (List.replicate i iP ++ List.replicate i iS) rfl (HSL.out.below (by (repeat' (first | (with_reducible exact Below.refl _ _) | (with_reducible refine below_alloc ?_) | (with_reducible refine below_drew ?_) | (with_reducible refine below_drewN ?_) | (with_reducible refine below_set (by simp; omega) ?_) | (with_reducible refine below_call (by with_reducible assumption) ?_))))) (by unfold maxLen; (try simp); (try omega)) (by (try simp); (try omega)) (by (try simp); (try omega)) ?_; intro v2 w2 ho2 hg2; have HO2 := Lib.hid (cpy_own ho2); have HB2 := below_grown (w := wr) (by (repeat' (first | (with_reducible exact Below.refl _ _) | (with_reducible refine below_alloc ?_) | (with_reducible refine below_call (by with_reducible assumption) ?_)))) hg2 (own_ge HLI.out (Nat.le_refl _)); have hsz2 := HB2.size; have HB2 := Lib.hid HB2; clear ho2 hg2) | (at_builtin; refine wpList_app _ rfl (.tmp 55) (.tmp 57) 24 rfl wr.heap.size 26 _ 4 32 Tryd.underlying24 info_ins rfl (by decide) encIns encIns_len one_Ins v2 _ _ rfl (own_below HO2.out (by (repeat' (first | (with_reducible exact Below.refl _ _) | (with_reducible refine below_alloc ?_) | (with_reducible refine below_drew ?_) | (with_reducible refine below_drewN ?_) | (with_reducible refine below_set (by simp; omega) ?_) | (with_reducible refine below_call (by with_reducible assumption) ?_))))) _ ([iE]) rfl (by refine Sl.lit' ?_ _ _ _ _ _ _ ?_ ?_ ?_ ?_ <;> first | (intro _; rfl) | rfl | decide | (simp; done)) (by unfold maxLen; (try simp); (try omega)) (by (try simp); (try omega)) (by (try simp); (try omega)) ?_; intro v3 w3 ho3 hg3; have HS3 := Lib.hid (add_own ho3); have HB3 := below_grown (w := wr) (below_alloc HB2.out) hg3 (own_ge HO2.out (Nat.le_refl _)); have HB3 := Lib.hid HB3; clear ho3 hg3) | (go_at_call 7; refine (of_c _ _ _ HS3.out).mono ?_; rintro e w4 ⟨v4, rfl, hI4, hb4⟩) | (go_at_call 8; refine (deep_eq _ v4 _ _ _ HF.out (ask_of _ _ _ hI4 (ok_ps _ (HO9.out [iE] (by simp)))) (HG.out.below (by (repeat' (first | (with_reducible exact HB3.out) | (with_reducible exact below_call HB3.out HB.out) | (with_reducible refine below_call (by with_reducible assumption) ?_)))))).mono ?_; rintro e w5 ⟨rfl, hb5⟩))
            have hB05 : Below wr.heap.size wr w5 := by (repeat' (first | (with_reducible exact HB3.out) | (with_reducible exact below_call HB3.out HB.out) | (with_reducible refine below_call (by with_reducible assumption) ?_)))
            have HSL := Lib.hid (HSL.out.below hB05)
            have HB := Lib.hid (below_call hB05 HB.out)
            have hsz := HB.out.size
            clear hB05 HB2 HB3 hb4 hb5 hI4 HO2 HS3 HLI HF
            have HLI := Lib.hid (show (w5.alloc (.cells #[] 26)).ownsRow w5.heap.size 26 4 (.slice (some ⟨w5.heap.size, 0, none⟩) 0 0) 0 [] from World.ownsRow_lit w5 #[] 0 (Nat.le_refl _) (by decide) (by rfl))
            have hf := pushes_last i (by omega)
            rw [← List.append_assoc] at hf
            have HF := Lib.hid hf
            clear hf
            have hw2 : IntKind.i64.wrap (2 * (i : Int)) = 2 * (i : Int) := IntWalk.i64_in _ (by omega)
            go_wp2_with (first | (at_builtin; refine wpList_app _ rfl (.tmp 64) (.tmp 65) 24 rfl w5.heap.size 26 _ 4 32 Tryd.underlying24 info_ins rfl (by decide) encIns encIns_len one_Ins (.slice (some ⟨w5.heap.size, 0, none⟩) 0 0) _ _ rfl HLI.out _ (List.replicate i iP ++ List.replicate i iS) rfl (HSL.out.below (by (repeat' (first | (with_reducible exact Below.refl _ _) | (with_reducible refine below_alloc ?_) | (with_reducible refine below_drew ?_) | (with_reducible refine below_drewN ?_) | (with_reducible refine below_set (by simp; omega) ?_) | (with_reducible refine below_call (by with_reducible assumption) ?_))))) (by unfold maxLen; (try simp); (try omega)) (by (try simp); (try omega)) (by (try simp); (try omega)) ?_; intro v2 w2 ho2 hg2; have HO2 := Lib.hid (cpy_own ho2); have HB2 := below_grown (w := w5) (by (repeat' (first | (with_reducible exact Below.refl _ _) | (with_reducible refine below_alloc ?_) | (with_reducible refine below_call (by with_reducible assumption) ?_)))) hg2 (own_ge HLI.out (Nat.le_refl _)); have hsz2 := HB2.size; have HB2 := Lib.hid HB2; clear ho2 hg2) | (at_builtin; refine wpList_app _ rfl (.tmp 66) (.tmp 69) 24 rfl w5.heap.size 26 _ 4 32 Tryd.underlying24 info_ins rfl (by decide) encIns encIns_len one_Ins v2 _ _ rfl (own_below HO2.out (by (repeat' (first | (with_reducible exact Below.refl _ _) | (with_reducible refine below_alloc ?_) | (with_reducible refine below_drew ?_) | (with_reducible refine below_drewN ?_) | (with_reducible refine below_set (by simp; omega) ?_) | (with_reducible refine below_call (by with_reducible assumption) ?_))))) _ ([iS, iE]) rfl (by refine Sl.lit' ?_ _ _ _ _ _ _ ?_ ?_ ?_ ?_ <;> first | (intro _; rfl) | rfl | decide | (simp; done)) (by unfold maxLen; (try simp); (try omega)) (by (try simp); (try omega)) (by (try simp); (try omega)) ?_; intro v3 w3 ho3 hg3; have HS3 := Lib.hid (add_own ho3); have HB3 := below_grown (w := w5) (below_alloc HB2.out) hg3 (own_ge HO2.out (Nat.le_refl _)); have HB3 := Lib.hid HB3; clear ho3 hg3) | (go_at_call 7; refine (of_c _ _ _ HS3.out).mono ?_; rintro e w4 ⟨v4, rfl, hI4, hb4⟩) | (go_at_call 6; refine (check_eq _ v4 _ _ _ HF.out (ask_of _ _ _ hI4 (ok_ps _ (HO9.out [iS, iE] (by simp)))) (HG.out.below (by (repeat' (first | (with_reducible exact HB3.out) | (with_reducible exact below_call HB3.out HB.out) | (with_reducible refine below_call (by with_reducible assumption) ?_)))))).mono ?_; rintro e w5 ⟨rfl, hb5⟩))
            go_ret
            exact ⟨by first | rfl | simp, by (repeat' (first | (with_reducible exact HB3.out) | (with_reducible exact below_call HB3.out HB.out) | (with_reducible refine below_call (by with_reducible assumption) ?_)))⟩
end Go.Proofs.YtefpgjocfgeenaaDoor
