/- The names of package capstanref06: what each call answers. -/
import Derived.Test.YtefpgjocfgeenaaGreatDoorRef4
import Derived.Lib.SlicesS
import Derived.Deep.DeepCutAuto
namespace Go.Proofs.YtefpgjocfgeenaaGreatDoor
open Go.RowKit Cap
set_option maxRecDepth 100000

def kwsB : List ByteArray := kws.map fun l => ⟨l.toArray⟩
theorem kwsB_len : kwsB.length = 51 := by kernel_rfl
theorem keywords_c (w : World) :
    Calls Tryz.prog 194 #[] w fun e w' => ∃ v, e = .returned v ∧ Sl encS 1 w' v kwsB ∧ Below w.heap.size w w' := by
  go_enter Tryz.func194, Tryz.ntmps194
  go_wp2
  refine bodyPost_ret (v := .slice (some ⟨w.heap.size, 0, none⟩) 51 51) (by simp [results, Tryz.results194, go_sem]) rfl ⟨_, rfl, ?_, by (repeat' (first | (with_reducible exact Below.refl _ _) | (with_reducible refine below_alloc ?_) | (with_reducible refine below_drew ?_) | (with_reducible refine below_drewN ?_) | (with_reducible refine below_set (by simp; omega) ?_) | (with_reducible refine below_call (by with_reducible assumption) ?_)))⟩
  exact Sl.lit (enc := encS) (k := 1) (fun _ => rfl) w _ 9 51 kwsB (by kernel_rfl) (by kernel_rfl) (by rw [kwsB_len]; decide)

theorem toNat_at (s : ByteArray) (i : Nat) (h : i < s.size) : s[i]'h = s.data.toList[i]'(by simpa using h) := rfl
theorem all_at {p : UInt8 → Bool} (s : ByteArray) (k : Nat) (h : k < s.size) : (s.data.toList.drop k).all p = (p s[k] && (s.data.toList.drop (k + 1)).all p) := by
  rw [List.drop_eq_getElem_cons (by simpa using h), List.all_cons]
  rfl
theorem wc_cases (c : UInt8) : (isWc c = true ∧ 65 ≤ (c.toNat : Int) ∧ (c.toNat : Int) ≤ 90) ∨ (isWc c = true ∧ (c.toNat : Int) < 65 ∧ 48 ≤ (c.toNat : Int) ∧ (c.toNat : Int) ≤ 57) ∨ (isWc c = true ∧ 65 ≤ (c.toNat : Int) ∧ 90 < (c.toNat : Int) ∧ 57 < (c.toNat : Int) ∧ ((c.toNat : Int) == 95) = true) ∨
    (isWc c = false ∧ (c.toNat : Int) < 48) ∨ (isWc c = false ∧ (c.toNat : Int) < 65 ∧ 57 < (c.toNat : Int) ∧ ((c.toNat : Int) == 95) = false) ∨ (isWc c = false ∧ 90 < (c.toNat : Int) ∧ 57 < (c.toNat : Int) ∧ ((c.toNat : Int) == 95) = false) := by
  rw [Bool.eq_iff_iff (b := true), beq_eq_false_iff_ne, beq_iff_eq]
  unfold isWc
  generalize c.toNat = n
  by_cases h1 : 65 ≤ n ∧ n ≤ 90
  · left; simp; omega
  by_cases h2 : 48 ≤ n ∧ n ≤ 57
  · right; left; simp; omega
  by_cases h3 : n = 95
  · right; right; left; simp; omega
  by_cases h4 : n < 48
  · right; right; right; left; simp; omega
  by_cases h5 : n < 65
  · right; right; right; right; left; simp; omega
  · right; right; right; right; right; simp; omega
set_option maxHeartbeats 4000000 in
theorem rword_c (s : ByteArray) (w : World) :
    Calls Tryz.prog 195 #[.string s] w fun e w' => e = .returned (.bool (refWord s.data.toList)) ∧ w = w' := by
  have hsz : s.data.toList.length = s.size := by simp
  by_cases h0 : s.size = 0
  · have hs : s = ⟨#[]⟩ := by
      cases s with
      | mk d =>
        have : d = #[] := Array.eq_empty_of_size_eq_zero h0
        rw [this]
    subst hs
    go_enter Tryz.func195, Tryz.ntmps195
    go_wp2
    go_ret
    exact ⟨rfl, rfl⟩
  have hne : s.data.toList ≠ [] := fun e => h0 (by rw [← hsz, e]; rfl)
  have hse : s.toList.isEmpty = false := by
    rw [ByteArray.toList_eq]
    simpa using hne
  by_cases h24 : 24 < s.size
  · have HR := Lib.hid (show refWord s.data.toList = false by unfold refWord; simp; omega)
    go_enter Tryz.func195, Tryz.ntmps195
    go_wp2
    go_ret
    exact ⟨by rw [HR.out]; rfl, rfl⟩
  have hpos : 0 < s.size := by omega
  have hposz : (0 : Int) < (s.size : Int) := by omega
  have htake : s.data.toList.take 1 = [s[0]] := by
    obtain ⟨c, r, hcr⟩ := List.exists_cons_of_ne_nil hne
    have h1 : s[0] = s.data.toList[0]'(by rw [hsz]; exact hpos) := rfl
    rw [h1]
    simp only [hcr]
    rfl
  cases hn : isNumc s[0] with
  | true =>
    have HR := Lib.hid (show refWord s.data.toList = false by unfold refWord; rw [htake]; simp [hn])
    have hn' : 48 ≤ (s[0].toNat : Int) ∧ (s[0].toNat : Int) ≤ 57 := by
      unfold isNumc at hn
      simp at hn
      omega
    clear hn
    go_enter Tryz.func195, Tryz.ntmps195
    go_wp2
    go_ret
    exact ⟨by rw [HR.out]; rfl, rfl⟩
  | false =>
    have hR : refWord s.data.toList = s.data.toList.all isWc := by
      unfold refWord
      rw [htake]
      have h2 : s.data.toList.isEmpty = false := by simpa using hne
      rw [h2]
      have h3 : decide (s.data.toList.length ≤ 24) = true := by rw [decide_eq_true_eq]; omega
      rw [h3]
      simp only [List.all_cons, List.all_nil, hn]
      rfl
    have HR := Lib.hid hR
    clear hR
    have hn' : ¬ (48 ≤ (s[0].toNat : Int) ∧ (s[0].toNat : Int) ≤ 57) := by
      unfold isNumc at hn
      simp at hn
      omega
    clear hn htake
    by_cases h48 : 48 ≤ (s[0].toNat : Int)
    case' pos => have h57 : ¬ (s[0].toNat : Int) ≤ 57 := fun h => hn' ⟨h48, h⟩
    all_goals clear hn'
    all_goals go_enter Tryz.func195, Tryz.ntmps195
    all_goals go_wp2
    all_goals go_loop [3] (fun i => ∃ k : Nat, k ≤ s.size ∧ i = .int .i64 k ∧ Aside ((s.data.toList.drop k).all isWc = s.data.toList.all isWc)) (fun i => s.size - (intOf i).toNat)
    all_goals (try exact ⟨0, Nat.zero_le _, rfl, rfl⟩)
    all_goals obtain ⟨k, hk, rfl, HF⟩ := hrel
    all_goals have hcase : k < s.size ∨ k = s.size := by omega
    all_goals rcases hcase with hlt | rfl
    all_goals first | (go_wp2; go_ret; refine ⟨?_, rfl⟩; rw [HR.out, ← HF.out, List.drop_of_length_le (Nat.le_of_eq hsz)]; rfl) | (have hltz : (k : Int) < (s.size : Int) := Int.ofNat_lt.2 hlt)
    all_goals have HA := Lib.hid (all_at (p := isWc) s k hlt)
    all_goals generalize hgc : s[k] = c at *
    all_goals have hwc := wc_cases c
    all_goals rcases hwc with ⟨hw, h1, h2⟩ | ⟨hw, h1, h2, h3⟩ | ⟨hw, h1, h2, h3, h4⟩ | ⟨hw, h1⟩ | ⟨hw, h1, h2, h3⟩ | ⟨hw, h1, h2, h3⟩
    all_goals have HW := Lib.hid hw
    all_goals clear hw
    all_goals go_wp2
    all_goals first | (go_ret; refine ⟨?_, rfl⟩; rw [HR.out, ← HF.out, HA.out, HW.out]; rfl) | skip
    all_goals go_round
    all_goals first | exact ⟨k + 1, by omega, by go_num, (show Aside _ from by rw [← HF.out, HA.out, HW.out, Bool.true_and]; exact rfl)⟩ | (simp [intOf]; omega) | (exfalso; simp only [Bool.not_eq_false, Bool.not_not, beq_iff_eq, decide_eq_true_eq, Bool.not_eq_eq_eq_not, Bool.not_false] at *; omega)
theorem kwsB_at {k : Nat} {kb : ByteArray} (h : kwsB[k]? = some kb) : kws[k]? = some kb.data.toList := by
  unfold kwsB at h
  rw [List.getElem?_map, Option.map_eq_some_iff] at h
  obtain ⟨u, h1, rfl⟩ := h
  simpa using h1
theorem kws_len : kws.length = 51 := by kernel_rfl
set_option maxHeartbeats 4000000 in
theorem rname_c (s : ByteArray) (w : World) :
    Calls Tryz.prog 113 #[.string s] w fun e w' => e = .returned (.bool (refName s.data.toList)) ∧ Below w.heap.size w w' := by
  go_enter Tryz.func113, Tryz.ntmps113
  go_upto_region 2 with (go_at_call 194; refine (keywords_c _).mono ?_; rintro e w1 ⟨v, rfl, hS, hb⟩; obtain ⟨A, c, rfl, -, -, hcell⟩ := hS; have HC := Lib.hid hcell; clear hcell)
  rw [kwsB_len]
  go_wp2
  go_loopg [4] 51 (fun gg s4 wr => ∃ k : Nat, s4 = .int .i64 k ∧ k ≤ 51 ∧ 51 - k ≤ gg ∧ Aside (wr = w1) ∧ Aside ((kws.drop k).contains s.data.toList = kws.contains s.data.toList))
  case atStart => exact ⟨0, rfl, Nat.zero_le _, by omega, rfl, rfl⟩
  case round =>
    obtain ⟨k, rfl, hk, hg, hw, HF⟩ := hrel
    obtain rfl := hw.out
    by_cases hlt : k < 51
    · obtain ⟨kb, hkb⟩ : ∃ kb, kwsB[k]? = some kb := ⟨kwsB[k]'(by rw [kwsB_len]; exact hlt), List.getElem?_eq_getElem _⟩
      obtain ⟨b, off, rfl, hbl, hcx⟩ := HC.out k kb hkb
      have c0 : wr.cell? ⟨b, off + k, none⟩ = some (.string kb) := by simpa using hcx 0 _ rfl
      have hkd := drop_cons (kwsB_at hkb)
      have HKD := Lib.hid hkd
      clear hkd hcx hkb
      have hltz : (k : Int) < 51 := by omega
      cases heq : (kb.toList == s.toList) with
      | true =>
        have hks : kb = s := (Lib.bytes_beq_iff _ _).1 heq
        have HR := Lib.hid (show refName s.data.toList = false by
          unfold refName
          rw [← HF.out, HKD.out, hks]
          simp)
        clear hks
        go_wp2
        go_ret
        exact ⟨by rw [HR.out]; rfl, hb⟩
      | false =>
        have hks : kb ≠ s := (Lib.bytes_beq_false_iff _ _).1 heq
        have HF2 := Lib.hid (show (kws.drop (k + 1)).contains s.data.toList = kws.contains s.data.toList by
          rw [← HF.out, HKD.out, List.contains_cons]
          have : (s.data.toList == kb.data.toList) = false := by
            rw [beq_eq_false_iff_ne]
            intro e
            apply hks
            have := Array.toList_inj.1 e
            cases kb; cases s
            simp_all
          rw [this, Bool.false_or])
        clear hks
        go_wp2
        go_roundg (51 - (k + 1))
        case measure => omega
        case rel => exact ⟨k + 1, by go_num, by omega, by omega, rfl, HF2.out⟩
    · obtain rfl : k = 51 := by omega
      have HR := Lib.hid (show refName s.data.toList = refWord s.data.toList by
        unfold refName
        have h1 := HF.out
        rw [← kws_len, List.drop_length] at h1
        rw [← h1]
        rfl)
      go_wp2_with (go_at_call 195; refine (rword_c _ _).mono ?_; rintro e w2 ⟨rfl, rfl⟩)
      go_ret
      exact ⟨by rw [HR.out]; rfl, hb⟩
end Go.Proofs.YtefpgjocfgeenaaGreatDoor
