/- The document's names (package capstanref06) are the program's: plain law. No program in sight. -/
import Derived.Test.YtenjkplijblcoaaGreatDoorCBase
import Derived.Test.YtenjkplijblcoaaGreatDoorCRfour
import Derived.Lib.SlicesS
import Derived.Deep.DeepCutAuto
import Derived.Test.YtenjkplijblcoaaGreatDoorCFDepth
import Derived.Test.YtenjkplijblcoaaGreatDoorCRdist
set_option linter.unusedSimpArgs false
set_option linter.unusedVariables false
namespace Cap
open Go
set_option maxRecDepth 100000

def kws : List (List UInt8) := [[80, 82, 79, 71, 82, 65, 77], [69, 78, 68, 95, 80, 82, 79, 71, 82, 65, 77], [86, 65, 82], [86, 65, 82, 95, 73, 78, 80, 85, 84], [86, 65, 82, 95, 79, 85, 84, 80, 85, 84], [69, 78, 68, 95, 86, 65, 82], [65, 82, 82, 65, 89], [79, 70], [66, 79, 79, 76], [73, 78, 84], [68, 73, 78, 84], [84, 73, 77, 69], [84, 79, 78], [84, 79, 70], [84, 80], [67, 84, 85], [67, 84, 68], [82, 95, 84, 82, 73, 71], [70, 95, 84, 82, 73, 71], [83, 82], [82, 83], [81, 85, 65, 68], [73, 70], [84, 72, 69, 78], [69, 76, 83, 73, 70], [69, 76, 83, 69], [69, 78, 68, 95, 73, 70], [67, 65, 83, 69], [69, 78, 68, 95, 67, 65, 83, 69], [87, 72, 73, 76, 69], [68, 79], [69, 78, 68, 95, 87, 72, 73, 76, 69], [70, 79, 82], [84, 79], [66, 89], [69, 78, 68, 95, 70, 79, 82], [82, 69, 80, 69, 65, 84], [85, 78, 84, 73, 76], [69, 78, 68, 95, 82, 69, 80, 69, 65, 84], [69, 88, 73, 84], [82, 69, 84, 85, 82, 78], [65, 78, 68], [79, 82], [88, 79, 82], [78, 79, 84], [77, 79, 68], [84, 82, 85, 69], [70, 65, 76, 83, 69], [84, 79, 95, 73, 78, 84], [84, 79, 95, 68, 73, 78, 84], [84, 79, 95, 84, 73, 77, 69]]
theorem kw_flat : kwBytes = 32 :: kws.flatMap (fun w => w ++ [32]) := by decide +kernel
theorem kw_no : ∀ w ∈ kws, ¬ (32 : UInt8) ∈ w := by decide +kernel

theorem contains_iff (s sub : List UInt8) : Lib.contains s sub = true ↔ sub <:+: s := by
  unfold Lib.contains
  rw [decide_eq_true_eq]
  rcases Lib.index_spec s sub with ⟨h1, h2⟩ | ⟨i, h1, h2, h3, _⟩
  · rw [h1]
    refine ⟨fun h => absurd h (by decide), fun ⟨a, b, h⟩ => ?_⟩
    have := h2 a.length (by rw [← h]; simp; (try omega))
    unfold Lib.occAt at this
    rw [← h, List.append_assoc, List.drop_left] at this
    have h4 : sub.isPrefixOf (sub ++ b) = true := List.isPrefixOf_iff_prefix.2 (List.prefix_append _ _)
    rw [h4] at this
    cases this
  · rw [h1]
    refine ⟨fun _ => ?_, fun _ => by omega⟩
    unfold Lib.occAt at h3
    have h4 := List.isPrefixOf_iff_prefix.1 h3
    exact h4.isInfix.trans (List.drop_suffix i s).isInfix

theorem sep_eq : ∀ (s w B R : List UInt8), ¬ (32 : UInt8) ∈ s → ¬ (32 : UInt8) ∈ w → s ++ 32 :: B = w ++ 32 :: R → s = w
  | [], [], _, _, _, _, _ => rfl
  | [], y :: w, _, _, _, hw, h => by
    rw [List.nil_append, List.cons_append] at h
    injection h with h1 h2
    exact absurd (by simp [h1]) hw
  | x :: s, [], _, _, hs, _, h => by
    rw [List.nil_append, List.cons_append] at h
    injection h with h1 h2
    exact absurd (by simp [h1]) hs
  | x :: s, y :: w, B, R, hs, hw, h => by
    rw [List.cons_append, List.cons_append] at h
    injection h with h1 h2
    rw [h1, sep_eq s w B R (fun h => hs (by simp [h])) (fun h => hw (by simp [h])) h2]
theorem kw_mem (s : List UInt8) (hs : ¬ (32 : UInt8) ∈ s) (hne : s ≠ []) : ∀ ws : List (List UInt8), (∀ w ∈ ws, ¬ (32 : UInt8) ∈ w) → ((32 :: s ++ [32]) <:+: (32 :: ws.flatMap (fun w => w ++ [32])) ↔ s ∈ ws)
  | [], _ => by
    constructor
    · intro h
      have h1 := h.length_le
      have h2 : 0 < s.length := List.length_pos_iff.2 hne
      simp at h1
      (try omega)
    · intro h; cases h
  | w :: ws, hw => by
    have hww := hw w (by simp)
    have ih := kw_mem s hs hne ws (fun u hu => hw u (by simp [hu]))
    have e : 32 :: (w :: ws).flatMap (fun w => w ++ [32]) = 32 :: (w ++ 32 :: ws.flatMap (fun w => w ++ [32])) := by simp
    rw [e]
    constructor
    · rintro ⟨A, B, h⟩
      cases A with
      | nil =>
        have h' : s ++ 32 :: B = w ++ 32 :: ws.flatMap (fun w => w ++ [32]) := by simpa using h
        rw [sep_eq _ _ _ _ hs hww h']
        simp
      | cons a A =>
        have h' : A ++ (32 :: s ++ [32] ++ B) = w ++ (32 :: ws.flatMap (fun w => w ++ [32])) := by
          rw [List.append_assoc, List.cons_append] at h
          injection h with _ h
        rcases List.append_eq_append_iff.1 h' with ⟨a', h1, h2⟩ | ⟨c', h1, h2⟩
        · cases a' with
          | nil =>
            refine List.mem_cons_of_mem _ (ih.1 ⟨[], B, ?_⟩)
            rw [List.nil_append] at h2 ⊢
            exact h2
          | cons y a' =>
            rw [List.cons_append, List.cons_append, List.cons_append] at h2
            injection h2 with h2 _
            exact absurd (by rw [h1, ← h2]; simp) hww
        · refine List.mem_cons_of_mem _ (ih.1 ⟨c', B, ?_⟩)
          rw [List.append_assoc]
          exact h2.symm
    · intro h
      rcases List.mem_cons.1 h with rfl | h
      · exact ⟨[], ws.flatMap (fun w => w ++ [32]), by simp⟩
      · obtain ⟨A, B, hAB⟩ := ih.2 h
        exact ⟨32 :: w ++ A, B, by rw [← hAB]; simp⟩

/-- A letter, a numeral or a line below. -/
def isWc (c : UInt8) : Bool := (decide (65 ≤ c.toNat) && decide (c.toNat ≤ 90)) || (decide (48 ≤ c.toNat) && decide (c.toNat ≤ 57)) || decide (c.toNat = 95)
def isNumc (c : UInt8) : Bool := decide (48 ≤ c.toNat) && decide (c.toNat ≤ 57)
theorem wc_eq (c : UInt8) : wordBytes.contains c = isWc c := by
  have h : ∀ n : Fin 256, wordBytes.contains (UInt8.ofNat n.val) = isWc (UInt8.ofNat n.val) := by decide +kernel
  have := h ⟨c.toNat, c.toNat_lt⟩
  simpa using this
theorem numc_eq (c : UInt8) : numBytes.contains c = isNumc c := by
  have h : ∀ n : Fin 256, numBytes.contains (UInt8.ofNat n.val) = isNumc (UInt8.ofNat n.val) := by decide +kernel
  have := h ⟨c.toNat, c.toNat_lt⟩
  simpa using this
theorem dropWhile_nil {p : UInt8 → Bool} : ∀ {l : List UInt8}, l.dropWhile p = [] ↔ l.all p = true
  | [] => by simp
  | x :: l => by
    rw [List.dropWhile_cons, List.all_cons]
    cases h : p x with
    | true => simpa using dropWhile_nil (p := p) (l := l)
    | false => simp
theorem mem_tw {p : UInt8 → Bool} : ∀ {l : List UInt8} {x : UInt8}, x ∈ l.takeWhile p → p x = true
  | [], _, h => by simp at h
  | y :: l, x, h => by
    rw [List.takeWhile_cons] at h
    cases hp : p y with
    | true =>
      rw [hp, if_pos rfl] at h
      rcases List.mem_cons.1 h with rfl | h
      · exact hp
      · exact mem_tw h
    | false => rw [hp] at h; simp at h
theorem one_infix (c : UInt8) (l : List UInt8) : [c] <:+: l ↔ c ∈ l := by
  constructor
  · rintro ⟨a, b, h⟩
    rw [← h]
    simp
  · intro h
    obtain ⟨a, b, rfl⟩ := List.append_of_mem h
    exact ⟨a, b, by simp⟩
theorem trim_all (l cs : List UInt8) : (Lib.trimS l cs).isEmpty = l.all (cs.contains ·) := by
  rw [Bool.eq_iff_iff, List.isEmpty_iff]
  unfold Lib.trimS Lib.trimLeftS Lib.trimRightS
  rw [dropWhile_nil, List.all_reverse]
  constructor
  · intro h
    have h1 := List.takeWhile_append_dropWhile (p := (cs.contains ·)) (l := l.reverse)
    rw [List.all_eq_true] at h ⊢
    intro x hx
    have hx' : x ∈ l.reverse := List.mem_reverse.2 hx
    rw [← h1] at hx'
    rcases List.mem_append.1 hx' with h2 | h2
    · exact mem_tw h2
    · exact h x h2
  · intro h
    rw [List.all_eq_true] at h ⊢
    intro x hx
    exact h x (List.mem_reverse.1 ((List.dropWhile_sublist _).subset hx))
def refWord (l : List UInt8) : Bool := !l.isEmpty && decide (l.length ≤ 24) && !((l.take 1).all isNumc) && l.all isWc
def refName (l : List UInt8) : Bool := !(kws.contains l) && refWord l
theorem word_eq (s : ByteArray) : isWord s = refWord s.data.toList := by
  have e : s.toList = s.data.toList := by rw [ByteArray.toList_eq]
  have h1 : s.size = s.data.toList.length := rfl
  unfold isWord refWord
  rw [e, trim_all, h1]
  generalize s.data.toList = l
  have h2 : l.all (wordBytes.contains ·) = l.all isWc := by congr 1; funext c; exact wc_eq c
  rw [h2]
  cases l with
  | nil => rfl
  | cons c r =>
    have h3 : Lib.contains numBytes ((c :: r).take 1) = isNumc c := by
      rw [← numc_eq, Bool.eq_iff_iff, contains_iff, List.contains_iff_mem]
      exact one_infix c numBytes
    rw [h3]
    simp [Bool.and_assoc, Bool.and_comm, Bool.and_left_comm]
theorem name_eq (s : ByteArray) : isName s = refName s.data.toList := by
  unfold isName refName
  rw [word_eq]
  cases h : refWord s.data.toList with
  | false => simp
  | true =>
    have h' := h
    unfold refWord at h
    simp only [Bool.and_eq_true, List.all_eq_true] at h
    obtain ⟨⟨⟨h1, _⟩, _⟩, h2⟩ := h
    have hs : ¬ (32 : UInt8) ∈ s.data.toList := fun hm => absurd (h2 _ hm) (by decide)
    have hne : s.data.toList ≠ [] := by simpa using h1
    have := kw_mem _ hs hne kws kw_no
    rw [← kw_flat, ← contains_iff, ← List.contains_iff_mem] at this
    rw [Bool.true_and, Bool.and_true, Bool.eq_iff_iff.2 this]
end Cap

/- The names of package capstanref06: what each call answers. -/
namespace Go.Proofs.YtenjkplijblcoaaGreatDoor
open Go.RowKit Cap
set_option maxRecDepth 100000

def kwsB : List ByteArray := kws.map fun l => ⟨l.toArray⟩
theorem kwsB_len : kwsB.length = 51 := by kernel_rfl
theorem keywords_c (w : World) :
    Calls Tryz.prog 152 #[] w fun e w' => ∃ v, e = .returned v ∧ Sl encS 1 w' v kwsB ∧ Below w.heap.size w w' := by
  go_enter Tryz.func152, Tryz.ntmps152
  go_wp2
  refine bodyPost_ret (v := .slice (some ⟨w.heap.size, 0, none⟩) 51 51) (by simp [results, Tryz.results152, go_sem]) rfl ⟨_, rfl, ?_, by (repeat' (first | (with_reducible exact Below.refl _ _) | (with_reducible refine below_alloc ?_) | (with_reducible refine below_drew ?_) | (with_reducible refine below_drewN ?_) | (with_reducible refine below_set (by simp; omega) ?_) | (with_reducible refine below_call (by with_reducible assumption) ?_)))⟩
  exact Sl.lit (enc := encS) (k := 1) (fun _ => rfl) w _ 9 51 kwsB (by kernel_rfl) (by kernel_rfl) (by rw [kwsB_len]; decide)

theorem toNat_at (s : ByteArray) (i : Nat) (h : i < s.size) : s[i]'h = s.data.toList[i]'(by simpa using h) := rfl
theorem all_at {p : UInt8 → Bool} (s : ByteArray) (k : Nat) (h : k < s.size) : (s.data.toList.drop k).all p = (p s[k] && (s.data.toList.drop (k + 1)).all p) := by
  rw [List.drop_eq_getElem_cons (by simpa using h), List.all_cons]
  rfl
theorem wc_cases (c : UInt8) : (isWc c = true ∧ 65 ≤ (c.toNat : Int) ∧ (c.toNat : Int) ≤ 90) ∨ (isWc c = true ∧ (c.toNat : Int) < 65 ∧ 48 ≤ (c.toNat : Int) ∧ (c.toNat : Int) ≤ 57) ∨ (isWc c = true ∧ 65 ≤ (c.toNat : Int) ∧ 90 < (c.toNat : Int) ∧ 57 < (c.toNat : Int) ∧ ((c.toNat : Int) == 95) = true) ∨
    (isWc c = false ∧ (c.toNat : Int) < 48) ∨ (isWc c = false ∧ (c.toNat : Int) < 65 ∧ 57 < (c.toNat : Int) ∧ ((c.toNat : Int) == 95) = false) ∨ (isWc c = false ∧ 90 < (c.toNat : Int) ∧ 57 < (c.toNat : Int) ∧ ((c.toNat : Int) == 95) = false) := by
  rw [Bool.eq_iff_iff (b := true), beq_eq_false_iff_ne, beq_iff_eq]
  unfold isWc
  generalize c.toNat = n
  by_cases h1 : 65 ≤ n ∧ n ≤ 90
  · left; simp; omega
  by_cases h2 : 48 ≤ n ∧ n ≤ 57
  · right; left; simp; omega
  by_cases h3 : n = 95
  · right; right; left; simp; omega
  by_cases h4 : n < 48
  · right; right; right; left; simp; omega
  by_cases h5 : n < 65
  · right; right; right; right; left; simp; omega
  · right; right; right; right; right; simp; omega
set_option maxHeartbeats 4000000 in
theorem rword_c (s : ByteArray) (w : World) :
    Calls Tryz.prog 125 #[.string s] w fun e w' => e = .returned (.bool (refWord s.data.toList)) ∧ w = w' := by
  have hsz : s.data.toList.length = s.size := by simp
  by_cases h0 : s.size = 0
  · have hs : s = ⟨#[]⟩ := by
      cases s with
      | mk d =>
        have : d = #[] := Array.eq_empty_of_size_eq_zero h0
        rw [this]
    subst hs
    go_enter Tryz.func125, Tryz.ntmps125
    go_wp2
    go_ret
    exact ⟨rfl, rfl⟩
  have hne : s.data.toList ≠ [] := fun e => h0 (by rw [← hsz, e]; rfl)
  have hse : s.toList.isEmpty = false := by
    rw [ByteArray.toList_eq]
    simpa using hne
  by_cases h24 : 24 < s.size
  · have HR := Lib.hid (show refWord s.data.toList = false by unfold refWord; simp; omega)
    go_enter Tryz.func125, Tryz.ntmps125
    go_wp2
    go_ret
    exact ⟨by rw [HR.out]; rfl, rfl⟩
  have hpos : 0 < s.size := by omega
  have hposz : (0 : Int) < (s.size : Int) := by omega
  have htake : s.data.toList.take 1 = [s[0]] := by
    obtain ⟨c, r, hcr⟩ := List.exists_cons_of_ne_nil hne
    have h1 : s[0] = s.data.toList[0]'(by rw [hsz]; exact hpos) := rfl
    rw [h1]
    simp only [hcr]
    rfl
  cases hn : isNumc s[0] with
  | true =>
    have HR := Lib.hid (show refWord s.data.toList = false by unfold refWord; rw [htake]; simp [hn])
    have hn' : 48 ≤ (s[0].toNat : Int) ∧ (s[0].toNat : Int) ≤ 57 := by
      unfold isNumc at hn
      simp at hn
      omega
    clear hn
    go_enter Tryz.func125, Tryz.ntmps125
    go_wp2
    go_ret
    exact ⟨by rw [HR.out]; rfl, rfl⟩
  | false =>
    have hR : refWord s.data.toList = s.data.toList.all isWc := by
      unfold refWord
      rw [htake]
      have h2 : s.data.toList.isEmpty = false := by simpa using hne
      rw [h2]
      have h3 : decide (s.data.toList.length ≤ 24) = true := by rw [decide_eq_true_eq]; omega
      rw [h3]
      simp only [List.all_cons, List.all_nil, hn]
      rfl
    have HR := Lib.hid hR
    clear hR
    have hn' : ¬ (48 ≤ (s[0].toNat : Int) ∧ (s[0].toNat : Int) ≤ 57) := by
      unfold isNumc at hn
      simp at hn
      omega
    clear hn htake
    by_cases h48 : 48 ≤ (s[0].toNat : Int)
    case' pos => have h57 : ¬ (s[0].toNat : Int) ≤ 57 := fun h => hn' ⟨h48, h⟩
    all_goals clear hn'
    all_goals go_enter Tryz.func125, Tryz.ntmps125
    all_goals go_wp2
    all_goals go_loop [3] (fun i => ∃ k : Nat, k ≤ s.size ∧ i = .int .i64 k ∧ Aside ((s.data.toList.drop k).all isWc = s.data.toList.all isWc)) (fun i => s.size - (intOf i).toNat)
    all_goals (try exact ⟨0, Nat.zero_le _, rfl, rfl⟩)
    all_goals obtain ⟨k, hk, rfl, HF⟩ := hrel
    all_goals have hcase : k < s.size ∨ k = s.size := by omega
    all_goals rcases hcase with hlt | rfl
    all_goals first | (go_wp2; go_ret; refine ⟨?_, rfl⟩; rw [HR.out, ← HF.out, List.drop_of_length_le (Nat.le_of_eq hsz)]; rfl) | (have hltz : (k : Int) < (s.size : Int) := Int.ofNat_lt.2 hlt)
    all_goals have HA := Lib.hid (all_at (p := isWc) s k hlt)
    all_goals generalize hgc : s[k] = c at *
    all_goals have hwc := wc_cases c
    all_goals rcases hwc with ⟨hw, h1, h2⟩ | ⟨hw, h1, h2, h3⟩ | ⟨hw, h1, h2, h3, h4⟩ | ⟨hw, h1⟩ | ⟨hw, h1, h2, h3⟩ | ⟨hw, h1, h2, h3⟩
    all_goals have HW := Lib.hid hw
    all_goals clear hw
    all_goals go_wp2
    all_goals first | (go_ret; refine ⟨?_, rfl⟩; rw [HR.out, ← HF.out, HA.out, HW.out]; rfl) | skip
    all_goals go_round
    all_goals first | exact ⟨k + 1, by omega, by go_num, (show Aside _ from by rw [← HF.out, HA.out, HW.out, Bool.true_and]; exact rfl)⟩ | (simp [intOf]; omega) | (exfalso; simp only [Bool.not_eq_false, Bool.not_not, beq_iff_eq, decide_eq_true_eq, Bool.not_eq_eq_eq_not, Bool.not_false] at *; omega)
theorem kwsB_at {k : Nat} {kb : ByteArray} (h : kwsB[k]? = some kb) : kws[k]? = some kb.data.toList := by
  unfold kwsB at h
  rw [List.getElem?_map, Option.map_eq_some_iff] at h
  obtain ⟨u, h1, rfl⟩ := h
  simpa using h1
theorem kws_len : kws.length = 51 := by kernel_rfl
set_option maxHeartbeats 4000000 in
theorem rname_c (s : ByteArray) (w : World) :
    Calls Tryz.prog 124 #[.string s] w fun e w' => e = .returned (.bool (refName s.data.toList)) ∧ Below w.heap.size w w' := by
  go_enter Tryz.func124, Tryz.ntmps124
  go_upto_region 2 with (go_at_call 152; refine (keywords_c _).mono ?_; rintro e w1 ⟨v, rfl, hS, hb⟩; obtain ⟨A, c, rfl, -, -, hcell⟩ := hS; have HC := Lib.hid hcell; clear hcell)
  rw [kwsB_len]
  go_wp2
  go_loopg [4] 51 (fun gg s4 wr => ∃ k : Nat, s4 = .int .i64 k ∧ k ≤ 51 ∧ 51 - k ≤ gg ∧ Aside (wr = w1) ∧ Aside ((kws.drop k).contains s.data.toList = kws.contains s.data.toList))
  case atStart => exact ⟨0, rfl, Nat.zero_le _, by omega, rfl, rfl⟩
  case round =>
    obtain ⟨k, rfl, hk, hg, hw, HF⟩ := hrel
    obtain rfl := hw.out
    by_cases hlt : k < 51
    · obtain ⟨kb, hkb⟩ : ∃ kb, kwsB[k]? = some kb := ⟨kwsB[k]'(by rw [kwsB_len]; exact hlt), List.getElem?_eq_getElem _⟩
      obtain ⟨b, off, rfl, hbl, hcx⟩ := HC.out k kb hkb
      have c0 : wr.cell? ⟨b, off + k, none⟩ = some (.string kb) := by simpa using hcx 0 _ rfl
      have hkd := drop_cons (kwsB_at hkb)
      have HKD := Lib.hid hkd
      clear hkd hcx hkb
      have hltz : (k : Int) < 51 := by omega
      cases heq : (kb.toList == s.toList) with
      | true =>
        have hks : kb = s := (Lib.bytes_beq_iff _ _).1 heq
        have HR := Lib.hid (show refName s.data.toList = false by
          unfold refName
          rw [← HF.out, HKD.out, hks]
          simp)
        clear hks
        go_wp2
        go_ret
        exact ⟨by rw [HR.out]; rfl, hb⟩
      | false =>
        have hks : kb ≠ s := (Lib.bytes_beq_false_iff _ _).1 heq
        have HF2 := Lib.hid (show (kws.drop (k + 1)).contains s.data.toList = kws.contains s.data.toList by
          rw [← HF.out, HKD.out, List.contains_cons]
          have : (s.data.toList == kb.data.toList) = false := by
            rw [beq_eq_false_iff_ne]
            intro e
            apply hks
            have := Array.toList_inj.1 e
            cases kb; cases s
            simp_all
          rw [this, Bool.false_or])
        clear hks
        go_wp2
        go_roundg (51 - (k + 1))
        case measure => omega
        case rel => exact ⟨k + 1, by go_num, by omega, by omega, rfl, HF2.out⟩
    · obtain rfl : k = 51 := by omega
      have HR := Lib.hid (show refName s.data.toList = refWord s.data.toList by
        unfold refName
        have h1 := HF.out
        rw [← kws_len, List.drop_length] at h1
        rw [← h1]
        rfl)
      go_wp2_with (go_at_call 125; refine (rword_c _ _).mono ?_; rintro e w2 ⟨rfl, rfl⟩)
      go_ret
      exact ⟨by rw [HR.out]; rfl, hb⟩
end Go.Proofs.YtenjkplijblcoaaGreatDoor

/- capstanref06: Takes: what each call answers. -/
namespace Go.Proofs.YtenjkplijblcoaaGreatDoor
open Go.RowKit Cap
set_option maxRecDepth 100000

/-- How many values a part works on, by the document. -/
def takesR6 (p : Prt) : Nat := if p.k = 3 ∨ p.k = 6 ∨ (p.k = 5 ∧ (p.n = 15 ∨ p.n = 16)) then 1 else if p.k = 5 then 2 else 0
theorem rtakes_c (p : Prt) (w : World) : Calls Tryz.prog 51 #[prtV p] w fun e w' => e = .returned (.int .i64 (takesR6 p)) ∧ Below w.heap.size w w' := by
  obtain ⟨k, n, t, s, f⟩ := p
  unfold prtV takesR6
  simp only
  go_enter Tryz.func51, Tryz.ntmps51
  by_cases h3 : k = 3
  · subst h3
    go_wp2
    go_ret
    exact ⟨by simp, by (repeat' (first | (with_reducible exact Below.refl _ _) | (with_reducible refine below_alloc ?_) | (with_reducible refine below_drew ?_) | (with_reducible refine below_drewN ?_) | (with_reducible refine below_set (by simp; omega) ?_) | (with_reducible refine below_call (by with_reducible assumption) ?_)))⟩
  by_cases h6 : k = 6
  · subst h6
    go_wp2
    go_ret
    exact ⟨by simp, by (repeat' (first | (with_reducible exact Below.refl _ _) | (with_reducible refine below_alloc ?_) | (with_reducible refine below_drew ?_) | (with_reducible refine below_drewN ?_) | (with_reducible refine below_set (by simp; omega) ?_) | (with_reducible refine below_call (by with_reducible assumption) ?_)))⟩
  by_cases h5 : k = 5
  · subst h5
    by_cases h15 : n = 15
    · subst h15
      go_wp2
      go_ret
      exact ⟨by simp, by (repeat' (first | (with_reducible exact Below.refl _ _) | (with_reducible refine below_alloc ?_) | (with_reducible refine below_drew ?_) | (with_reducible refine below_drewN ?_) | (with_reducible refine below_set (by simp; omega) ?_) | (with_reducible refine below_call (by with_reducible assumption) ?_)))⟩
    · by_cases h16 : n = 16
      · subst h16
        go_wp2
        go_ret
        exact ⟨by simp, by (repeat' (first | (with_reducible exact Below.refl _ _) | (with_reducible refine below_alloc ?_) | (with_reducible refine below_drew ?_) | (with_reducible refine below_drewN ?_) | (with_reducible refine below_set (by simp; omega) ?_) | (with_reducible refine below_call (by with_reducible assumption) ?_)))⟩
      · have b15 : (n == 15) = false := by simpa using h15
        have b16 : (n == 16) = false := by simpa using h16
        go_wp2
        go_ret
        exact ⟨by simp [h15, h16], by (repeat' (first | (with_reducible exact Below.refl _ _) | (with_reducible refine below_alloc ?_) | (with_reducible refine below_drew ?_) | (with_reducible refine below_drewN ?_) | (with_reducible refine below_set (by simp; omega) ?_) | (with_reducible refine below_call (by with_reducible assumption) ?_)))⟩
  · have b3 : (k == 3) = false := by simpa using h3
    have b6 : (k == 6) = false := by simpa using h6
    have b5 : (k == 5) = false := by simpa using h5
    go_wp2
    go_ret
    exact ⟨by simp [h3, h6, h5], by (repeat' (first | (with_reducible exact Below.refl _ _) | (with_reducible refine below_alloc ?_) | (with_reducible refine below_drew ?_) | (with_reducible refine below_drewN ?_) | (with_reducible refine below_set (by simp; omega) ?_) | (with_reducible refine below_call (by with_reducible assumption) ?_)))⟩
end Go.Proofs.YtenjkplijblcoaaGreatDoor

/- capstanref06.Depth: what each call answers. -/
namespace Cap
/-- The greatest of the last so many depths. -/
def dmax (st : List Int) : Nat → Int
  | 0 => 0
  | j + 1 => max (dmax st j) (st.getD (st.length - 1 - j) 0)
theorem dmax_max (st : List Int) (n : Nat) (h2 : n ≤ 2) (hn : n ≤ st.length) (h1 : ∀ d ∈ st, 1 ≤ d) : dmax st n = if n = 0 then 0 else maxL (st.drop (st.length - n)) := by
  have hl : st = st.take (st.length - n) ++ st.drop (st.length - n) := (List.take_append_drop _ _).symm
  have hlen : (st.drop (st.length - n)).length = n := by rw [List.length_drop]; omega
  have hlt : (st.take (st.length - n)).length = st.length - n := by rw [List.length_take]; omega
  have hg : ∀ j, j < n → st.getD (st.length - 1 - j) 0 = (st.drop (st.length - n)).getD (n - 1 - j) 0 := by
    intro j hj
    rw [List.getD_eq_getElem?_getD, List.getD_eq_getElem?_getD, List.getElem?_drop]
    congr 2
    omega
  have hp : ∀ d ∈ st.drop (st.length - n), 1 ≤ d := fun d hd => h1 d (List.mem_of_mem_drop hd)
  generalize st.drop (st.length - n) = l at *
  match n, l, hlen, h2 with
  | 0, [], _, _ => rfl
  | 1, [a], _, _ =>
    have ha := hp a (by simp)
    rw [dmax, dmax, hg 0 (by omega)]
    simp [maxL]
    omega
  | 2, [a, b], _, _ =>
    have ha := hp a (by simp)
    have hb := hp b (by simp)
    rw [dmax, dmax, dmax, hg 0 (by omega), hg 1 (by omega)]
    simp [maxL]
    omega
theorem dmax_bound {st : List Int} {k : Int} (hk : 0 ≤ k) (h : ∀ d ∈ st, 1 ≤ d ∧ d ≤ k) : ∀ j, 0 ≤ dmax st j ∧ dmax st j ≤ k
  | 0 => ⟨Int.le_refl _, hk⟩
  | j + 1 => by
    have ih := dmax_bound hk h j
    rw [dmax]
    have hg : 0 ≤ st.getD (st.length - 1 - j) 0 ∧ st.getD (st.length - 1 - j) 0 ≤ k := by
      rw [List.getD_eq_getElem?_getD]
      cases hq : st[st.length - 1 - j]? with
      | none => exact ⟨Int.le_refl _, hk⟩
      | some d =>
        have := h d (List.mem_of_getElem? hq)
        exact ⟨by show 0 ≤ d; omega, this.2⟩
    omega
end Cap
namespace Go.Proofs.YtenjkplijblcoaaGreatDoor
open Go.RowKit Cap
set_option maxRecDepth 100000

theorem ne_i' {a b : Int} (h : ¬ a = b) : (a == b) = false := by simpa using h
theorem takesR6_E (p : Prt) : takesR6 p = takesE p := by
  unfold takesR6 takesE
  repeat' split
  all_goals first | rfl | omega

set_option maxHeartbeats 4000000 in
theorem rdepth_c (x : List Prt) (v : Value) (w : World) (hs : Sl encPrt 5 w v x) (hn : x.length ≤ 500) :
    Calls Tryz.prog 83 #[v] w fun e w' => e = .returned (.int .i64 (depthL x)) ∧ Below w.heap.size w w' := by
  obtain ⟨A, c, rfl, hl, hm, hc⟩ := hs
  have HC := Lib.hid hc
  clear hc
  go_enter Tryz.func83, Tryz.ntmps83
  go_wp2
  go_loopg [3, 4] x.length (fun gg s3 s4 wr => ∃ (k : Nat) (st : List Int), s4 = .int .i64 k ∧ k ≤ x.length ∧ x.length - k ≤ gg ∧ st.length ≤ k ∧ Aside (wr.ownsRow w.heap.size 3 1 s3 st.length (st.flatMap encI)) ∧ Aside (∀ d ∈ st, 1 ≤ d ∧ d ≤ (k : Int)) ∧ Aside (depthGo (x.drop k) st = depthGo x []) ∧ Aside (Below w.heap.size w wr))
  case atStart => exact ⟨0, [], rfl, Nat.zero_le _, by omega, Nat.le_refl _, (show Aside _ from ⟨by simp, .inl ⟨rfl, rfl⟩⟩), (show Aside _ from fun d hd => by cases hd), (show depthGo (x.drop 0) [] = depthGo x [] by rw [List.drop_zero]), (show Aside _ from Below.refl _ _)⟩
  case round =>
    obtain ⟨k, st, rfl, hk, hg, hst, HO, HD, HG, HB⟩ := hrel
    have hB := HB.out
    have hsz := hB.size
    by_cases hlt : k < x.length
    · obtain ⟨p, hp⟩ : ∃ p, x[k]? = some p := ⟨x[k], List.getElem?_eq_getElem hlt⟩
      obtain ⟨b, off, rfl, hb, hcx⟩ := HC.out k p hp
      have c0 : wr.cell? ⟨b, off + k * 5, none⟩ = some (.int .i64 p.k) := (hB.cell (p := ⟨b, off + k * 5, none⟩) hb).trans (by simpa using hcx 0 _ rfl)
      have c1 : wr.cell? ⟨b, off + k * 5 + 1, none⟩ = some (.int .i64 p.n) := (hB.cell (p := ⟨b, off + k * 5 + 1, none⟩) hb).trans (by simpa using hcx 1 _ rfl)
      have c2 : wr.cell? ⟨b, off + k * 5 + 2, none⟩ = some (.int .i64 p.t) := (hB.cell (p := ⟨b, off + k * 5 + 2, none⟩) hb).trans (by simpa using hcx 2 _ rfl)
      have c3 : wr.cell? ⟨b, off + k * 5 + 3, none⟩ = some (.string p.s) := (hB.cell (p := ⟨b, off + k * 5 + 3, none⟩) hb).trans (by simpa using hcx 3 _ rfl)
      have c4 : wr.cell? ⟨b, off + k * 5 + 4, none⟩ = some (.string p.f) := (hB.cell (p := ⟨b, off + k * 5 + 4, none⟩) hb).trans (by simpa using hcx 4 _ rfl)
      have hle := takesE_le p
      have HNX := Lib.hid (show (if st.length < takesE p then none else depthGo (x.drop (k + 1)) (depthStep p st)) = depthGo x [] by have h := HG.out; rw [drop_cons hp, depthGo] at h; exact h)
      have HSL := Lib.hid (depthStep_len p st)
      have HDS := Lib.hid (show depthStep p st = st.take (st.length - takesE p) ++ [1 + if takesE p = 0 then 0 else maxL (st.drop (st.length - takesE p))] from rfl)
      obtain ⟨n, hn'⟩ : ∃ n, takesE p = n := ⟨_, rfl⟩
      have HT := Lib.hid (fun W => (by rw [← hn', ← takesR6_E]; exact rtakes_c p W : Calls Tryz.prog 51 #[prtV p] W fun e w' => e = .returned (.int .i64 (n : Int)) ∧ Below W.heap.size W w'))
      rw [hn'] at hle
      have HE := Lib.hid hn'
      clear hn' hcx hp
      have hltz : (k : Int) < (x.length : Int) := by omega
      have hk0 : (0 : Int) ≤ (k : Int) := Int.natCast_nonneg _
      by_cases hlt2 : st.length < n
      · have hgt : (st.length : Int) < (n : Int) := by omega
        obtain ⟨A3, c3', rfl⟩ := own_slice HO.out
        have HZ := Lib.hid (show depthL x = 0 by
          have h := HNX.out
          rw [HE.out, if_pos hlt2] at h
          rw [depthL, ← h])
        go_wp2_with (go_at_call 51; refine (HT.out _).mono ?_; rintro e w1 ⟨rfl, hb1⟩; have hz1 := hb1.size; (try simp at hz1))
        go_ret
        exact ⟨by rw [HZ.out]; rfl, by (repeat' (first | (with_reducible exact Below.refl _ _) | (with_reducible refine below_alloc ?_) | (with_reducible refine below_drew ?_) | (with_reducible refine below_drewN ?_) | (with_reducible refine below_set (by first | (simp; done) | (simp; omega)) ?_) | (with_reducible refine below_call (by with_reducible assumption) ?_)))⟩
      · have hgt : ¬ (st.length : Int) < (n : Int) := by omega
        have HNX := Lib.hid (show depthGo (x.drop (k + 1)) (depthStep p st) = depthGo x [] by have h := HNX.out; rw [HE.out, if_neg hlt2] at h; exact h)
        have HDM := Lib.hid (dmax_max st n hle (by omega) (fun d hd => (HD.out d hd).1))
        have HDB := Lib.hid (dmax_bound hk0 HD.out)
        obtain ⟨m, hm2⟩ : ∃ m, st.length = m + n := ⟨st.length - n, by omega⟩
        have HM2 := Lib.hid hm2
        have hlenz : (st.length : Int) - (n : Int) = (m : Int) := by omega
        have hm0 : (0 : Int) ≤ (m : Int) := Int.natCast_nonneg _
        have hmN : m ≤ st.length := by omega
        have HST := Lib.hid (show depthStep p st = st.take m ++ [1 + dmax st n] by rw [HDS.out, HE.out, show st.length - n = m by omega, HDM.out, show st.length - n = m by omega])
        clear hm2
        rcases own_form HO.out with ⟨rfl, rfl⟩ | ⟨g, cap, rfl, hcap, hmax, hgw⟩
        · obtain rfl : n = 0 := by simpa using hlt2
          obtain rfl : m = 0 := by have := HM2.out; simp at this; omega
          go_wp2_with (go_at_call 51; refine (HT.out _).mono ?_; rintro e w1 ⟨rfl, hb1⟩; have hz1 := hb1.size; (try simp at hz1))
          go_loopg [6, 7] 0 (fun gg s6 s7 wq => s6 = .int .i64 0 ∧ s7 = .int .i64 0 ∧ Aside (Below w.heap.size w wq))
          case atStart => exact ⟨rfl, rfl, (show Below w.heap.size w _ from by (repeat' (first | (with_reducible exact Below.refl _ _) | (with_reducible refine below_alloc ?_) | (with_reducible refine below_drew ?_) | (with_reducible refine below_drewN ?_) | (with_reducible refine below_set (by first | (simp; done) | (simp; omega)) ?_) | (with_reducible refine below_call (by with_reducible assumption) ?_))))⟩
          case round =>
            obtain ⟨rfl, rfl, HBQ⟩ := hrel
            have hBQ := HBQ.out
            have HST := Lib.hid (show depthStep p [] = [1] by rw [HST.out]; rfl)
            go_wp2_with (first
              | (at_builtin; refine wpList_app _ rfl (.tmp 38) (.tmp 44) 55 rfl wr.heap.size 3 _ 1 8 Tryz.underlying55 info_int rfl (by decide) encI encI_len one_I (.slice (some ⟨wr.heap.size, 0, none⟩) 0 0) 0 [] rfl (World.ownsRow_lit wr #[] 0 (Nat.le_refl _) (by decide) (by rfl)) _ ([] : List Int) rfl (Sl.nil _ _ _) (by unfold maxLen; simp) (by simp) (by simp) ?_; intro v2 w2 ho2 hg2; have hb2 := below_grown (w := wr) (below_alloc (Below.refl _ _)) hg2 (fun g hg => by simp [Value.ownBlock] at hg; omega))
              | (at_builtin; refine wpList_app _ rfl (.tmp 45) (.tmp 48) 55 rfl wr.heap.size 3 _ 1 8 Tryz.underlying55 info_int rfl (by decide) encI encI_len one_I v2 _ _ rfl (own_below ho2 (by (repeat' (first | (with_reducible exact Below.refl _ _) | (with_reducible refine below_alloc ?_) | (with_reducible refine below_drew ?_) | (with_reducible refine below_drewN ?_) | (with_reducible refine below_set (by simp; omega) ?_) | (with_reducible refine below_call (by with_reducible assumption) ?_))))) _ [1] rfl (by refine Sl.lit' ?_ _ _ _ _ _ _ ?_ ?_ ?_ ?_ <;> first | (intro _; rfl) | rfl | decide | (simp; done)) (by unfold maxLen; simp) (by simp) (by have := hb2.size; simp; omega) ?_; intro v3 w3 ho3 hg3; have hb3 := below_grown (w := wr) (below_alloc hb2) hg3 (own_ge ho2 (Nat.le_refl _))))
            go_roundg (x.length - (k + 1))
            case measure => omega
            case rel =>
              refine ⟨k + 1, depthStep p [], by go_num, by omega, by omega, by rw [HST.out]; simp, (by rw [HST.out]; exact own_base ho3 hBQ.size), ?_, HNX.out, below_call hb3 hBQ⟩
              show ∀ d ∈ depthStep p [], 1 ≤ d ∧ d ≤ ((k + 1 : Nat) : Int)
              rw [HST.out]
              intro d hd
              obtain rfl := List.mem_singleton.1 hd
              omega
        · have hcapz : (st.length : Int) ≤ (cap : Int) := by omega
          have h00 : (0 : Int) ≤ (st.length : Int) := Int.natCast_nonneg _
          have hmz : (m : Int) ≤ (cap : Int) := by omega
          have HSL' := Lib.hid (Sl.own encI_len HO.out rfl)
          go_wp2_with (go_at_call 51; refine (HT.out _).mono ?_; rintro e w1 ⟨rfl, hb1⟩; have hz1 := hb1.size; (try simp at hz1))
          have HB1 := Lib.hid hb1
          have HOW := Lib.hid (own_below HO.out hb1)
          have HSW := Lib.hid (HSL'.out.below hb1)
          have HBW := Lib.hid (show Below w.heap.size w w1 by (repeat' (first | (with_reducible exact Below.refl _ _) | (with_reducible refine below_alloc ?_) | (with_reducible refine below_drew ?_) | (with_reducible refine below_drewN ?_) | (with_reducible refine below_set (by first | (simp; done) | (simp; omega)) ?_) | (with_reducible refine below_call (by with_reducible assumption) ?_))))
          have HCE := Lib.hid (show ∀ i d, st[i]? = some d → g < w1.heap.size ∧ w1.cell? ⟨g, i, none⟩ = some (.int .i64 d) from fun i d hd => by
            obtain ⟨A', c', e', _, _, hcell⟩ := HSW.out
            obtain ⟨b', off', he, hb', hcx⟩ := hcell i d hd
            injection e' with e1 e2 e3
            subst e1
            injection he with he
            injection he with e1 e2 _
            subst e1 e2
            exact ⟨hb', by simpa using hcx 0 _ rfl⟩)
          clear hb1 HSL'
          go_loopg [6, 7] n (fun gg s6 s7 wq => ∃ j : Nat, s6 = .int .i64 (dmax st j) ∧ s7 = .int .i64 j ∧ j ≤ n ∧ n - j ≤ gg ∧ Aside (Below w1.heap.size w1 wq))
          case atStart => exact ⟨0, rfl, rfl, by omega, by omega, (show Below w1.heap.size w1 _ from by (repeat' (first | (with_reducible exact Below.refl _ _) | (with_reducible refine below_alloc ?_) | (with_reducible refine below_drew ?_) | (with_reducible refine below_drewN ?_) | (with_reducible refine below_set (by first | (simp; done) | (simp; omega)) ?_) | (with_reducible refine below_call (by with_reducible assumption) ?_))))⟩
          case round =>
            obtain ⟨j, rfl, rfl, hj, hgj, HBQ⟩ := hrel
            have hBQ := HBQ.out
            have hj0 : (0 : Int) ≤ (j : Int) := Int.natCast_nonneg _
            by_cases hjn : j < n
            · have hjz : (j : Int) < (n : Int) := by omega
              have hml : st.length - 1 - j < st.length := by have := HM2.out; omega
              obtain ⟨hgw1, hce⟩ := HCE.out (st.length - 1 - j) (st.getD (st.length - 1 - j) 0) (by rw [List.getD_eq_getElem?_getD, List.getElem?_eq_getElem hml]; rfl)
              have HNE := Lib.hid (show max (dmax st j) (st.getD (st.length - 1 - j) 0) = dmax st (j + 1) from rfl)
              obtain ⟨q, hq⟩ : ∃ q, st.length - 1 - j = q := ⟨_, rfl⟩
              have hqz : (st.length : Int) - 1 - (j : Int) = (q : Int) := by have := HM2.out; omega
              have hqz1 : (st.length : Int) - 1 = (q : Int) + (j : Int) := by omega
              have hql : (q : Int) < (st.length : Int) := by omega
              have hq0 : (0 : Int) ≤ (q : Int) := Int.natCast_nonneg _
              rw [hq] at hce HNE
              generalize st.getD q 0 = d at hce HNE
              have hce' : wr.cell? ⟨g, q, none⟩ = some (.int .i64 d) := (hBQ.cell (p := ⟨g, q, none⟩) hgw1).trans hce
              clear hce hq hml
              go_wp2
              go_roundg (n - (j + 1))
              case measure => omega
              case rel => exact ⟨j + 1, by rw [HNE.out], by go_num, by omega, by omega, (show Below w1.heap.size w1 _ from by (repeat' (first | (with_reducible exact Below.refl _ _) | (with_reducible refine below_alloc ?_) | (with_reducible refine below_drew ?_) | (with_reducible refine below_drewN ?_) | (with_reducible refine below_set (by first | (simp; done) | (simp; omega)) ?_) | (with_reducible refine below_call (by with_reducible assumption) ?_))))⟩
            · obtain rfl : j = n := by omega
              have hjz : ¬ (j : Int) < (j : Int) := by omega
              have hdb := HDB.out j
              obtain ⟨M, hM⟩ : ∃ M, dmax st j = M := ⟨_, rfl⟩
              rw [hM] at hdb HST ⊢
              obtain ⟨hM0, hMk⟩ := hdb
              clear hM
              have HSF := Lib.hid (show ∀ W, Below wr.heap.size wr W → Sl encI 1 W (.slice (some ⟨g, 0, none⟩) m cap) (st.take m) from fun W hW => by
                have h := Sl.own encI_len (own_takeL encI_len (own_below HOW.out (show Below w1.heap.size w1 W from below_call hW hBQ)) hmN) (by rw [List.length_take]; omega)
                exact h)
              have htl : (st.take m).length = m := by rw [List.length_take]; omega
              have hm500 : m ≤ 500 := by omega
              obtain ⟨tk, htk⟩ : ∃ tk, st.take m = tk := ⟨_, rfl⟩
              have HTK := Lib.hid htk
              rw [htk] at HSF htl HST
              clear htk
              go_wp2_with (first
                | (at_builtin; refine wpList_app _ rfl (.tmp 38) (.tmp 44) 55 rfl wr.heap.size 3 _ 1 8 Tryz.underlying55 info_int rfl (by decide) encI encI_len one_I (.slice (some ⟨wr.heap.size, 0, none⟩) 0 0) 0 [] rfl (World.ownsRow_lit wr #[] 0 (Nat.le_refl _) (by decide) (by rfl)) _ tk rfl (HSF.out _ (by (repeat' (first | (with_reducible exact Below.refl _ _) | (with_reducible refine below_alloc ?_) | (with_reducible refine below_drew ?_) | (with_reducible refine below_drewN ?_) | (with_reducible refine below_set (by simp; omega) ?_) | (with_reducible refine below_call (by with_reducible assumption) ?_))))) (by unfold maxLen; rw [htl]; omega) (by rw [htl]; omega) (by simp) ?_; intro v2 w2 ho2 hg2; have hb2 := below_grown (w := wr) (below_alloc (Below.refl _ _)) hg2 (fun g hg => by simp [Value.ownBlock] at hg; omega))
                | (at_builtin; refine wpList_app _ rfl (.tmp 45) (.tmp 48) 55 rfl wr.heap.size 3 _ 1 8 Tryz.underlying55 info_int rfl (by decide) encI encI_len one_I v2 _ _ rfl (own_below ho2 (by (repeat' (first | (with_reducible exact Below.refl _ _) | (with_reducible refine below_alloc ?_) | (with_reducible refine below_drew ?_) | (with_reducible refine below_drewN ?_) | (with_reducible refine below_set (by simp; omega) ?_) | (with_reducible refine below_call (by with_reducible assumption) ?_))))) _ [M + 1] rfl (by refine Sl.lit' ?_ _ _ _ _ _ _ ?_ ?_ ?_ ?_ <;> first | (intro _; rfl) | rfl | decide | (simp; done)) (by unfold maxLen; rw [htl]; simp; omega) (by rw [htl]; simp; omega) (by have := hb2.size; simp; omega) ?_; intro v3 w3 ho3 hg3; have hb3 := below_grown (w := wr) (below_alloc hb2) hg3 (own_ge ho2 (Nat.le_refl _))))
              go_roundg (x.length - (k + 1))
              case measure => omega
              case rel =>
                have hBW := below_call hBQ HBW.out
                have hrow : w3.ownsRow w.heap.size 3 1 v3 (depthStep p st).length ((depthStep p st).flatMap encI) := by
                  rw [HST.out, List.length_append, List.flatMap_append, Int.add_comm 1 M]
                  have h := own_base ho3 hBW.size
                  rw [Nat.zero_add, List.nil_append] at h
                  exact h
                refine ⟨k + 1, depthStep p st, by go_num, by omega, by omega, by rw [HSL.out, HE.out]; have := HM2.out; omega, hrow, ?_, HNX.out, below_call hb3 hBW⟩
                show ∀ d ∈ depthStep p st, 1 ≤ d ∧ d ≤ ((k + 1 : Nat) : Int)
                rw [HST.out]
                intro d hd
                rcases List.mem_append.1 hd with hd | hd
                · rw [← HTK.out] at hd
                  have := HD.out d (List.mem_of_mem_take hd)
                  omega
                · obtain rfl := List.mem_singleton.1 hd
                  omega
    · obtain rfl : k = x.length := by omega
      have hltz : ¬ (x.length : Int) < (x.length : Int) := by omega
      have HR := Lib.hid (show depthGo x [] = some st by rw [← HG.out, List.drop_length]; rfl)
      by_cases h1 : st.length = 1
      · obtain ⟨d, rfl⟩ := List.length_eq_one_iff.1 h1
        have HZ := Lib.hid (show depthL x = d by rw [depthL, HR.out])
        rcases own_form HO.out with ⟨rfl, hnil⟩ | ⟨g, cap, rfl, hcap, hmax, hgw⟩
        · cases hnil
        · have hown := Sl.own (enc := encI) (k := 1) (fun _ => rfl) HO.out rfl
          obtain ⟨A', c', e', _, _, hcell⟩ := hown
          obtain ⟨b', off', he, hb', hcx⟩ := hcell 0 d rfl
          injection e' with e1 e2 e3
          subst e1 e3
          clear e2
          injection he with he
          injection he with e1 e2 _
          subst e1 e2
          have c0 : wr.cell? ⟨g, 0, none⟩ = some (.int .i64 d) := by simpa using hcx 0 _ rfl
          clear hcx
          go_wp2
          go_ret
          exact ⟨by rw [HZ.out]; rfl, by (repeat' (first | (with_reducible exact Below.refl _ _) | (with_reducible refine below_alloc ?_) | (with_reducible refine below_drew ?_) | (with_reducible refine below_drewN ?_) | (with_reducible refine below_set (by first | (simp; done) | (simp; omega)) ?_) | (with_reducible refine below_call (by with_reducible assumption) ?_)))⟩
      · have hne : ¬ (st.length : Int) = 1 := by omega
        have hneb := ne_i' hne
        obtain ⟨A3, c3', rfl⟩ := own_slice HO.out
        have HZ := Lib.hid (show depthL x = 0 by
          rw [depthL, HR.out]
          match st, h1 with
          | [], _ => rfl
          | [_], h => exact absurd rfl h
          | _ :: _ :: _, _ => rfl)
        go_wp2
        go_ret
        exact ⟨by rw [HZ.out]; rfl, by (repeat' (first | (with_reducible exact Below.refl _ _) | (with_reducible refine below_alloc ?_) | (with_reducible refine below_drew ?_) | (with_reducible refine below_drewN ?_) | (with_reducible refine below_set (by first | (simp; done) | (simp; omega)) ?_) | (with_reducible refine below_call (by with_reducible assumption) ?_)))⟩
end Go.Proofs.YtenjkplijblcoaaGreatDoor

/- capstanref06: may, Check: what each call answers. -/
namespace Go.Proofs.YtenjkplijblcoaaGreatDoor
open Go.RowKit Cap
set_option maxRecDepth 100000

theorem rmay6_1 (n t : Int) (s f : ByteArray) (w : World) :
    Calls Tryz.prog 82 #[prtV ⟨1, n, t, s, f⟩] w fun e w' => e = .returned (.bool (mayP ⟨1, n, t, s, f⟩)) ∧ Below w.heap.size w w' := by
  have HF := Lib.hid (fun W => rfits_c t n W)
  unfold prtV mayP noS
  simp only [if_true]
  by_cases h0 : t = 0
  · subst h0
    rw [fits_no (show known 0 = false from rfl)]
    clear HF
    go_enter Tryz.func82, Tryz.ntmps82
    go_wp2
    all_goals go_ret
    all_goals exact ⟨ret_b (by simp [*] <;> omega), by (repeat' (first | (with_reducible exact Below.refl _ _) | (with_reducible refine below_alloc ?_) | (with_reducible refine below_drew ?_) | (with_reducible refine below_drewN ?_) | (with_reducible refine below_set (by first | (simp; done) | (simp; omega)) ?_) | (with_reducible refine below_call (by with_reducible assumption) ?_)))⟩
  · have hb0 := ne_i' h0
    obtain ⟨q, hq⟩ : ∃ q, fits t n = q := ⟨_, rfl⟩
    rw [hq] at HF ⊢
    clear hq
    go_enter Tryz.func82, Tryz.ntmps82
    go_wp2_with (go_at_call 72; refine (HF.out _).mono ?_; rintro e w1 ⟨rfl, rfl⟩)
    all_goals go_ret
    all_goals exact ⟨ret_b (by simp [*] <;> omega), by (repeat' (first | (with_reducible exact Below.refl _ _) | (with_reducible refine below_alloc ?_) | (with_reducible refine below_drew ?_) | (with_reducible refine below_drewN ?_) | (with_reducible refine below_set (by first | (simp; done) | (simp; omega)) ?_) | (with_reducible refine below_call (by with_reducible assumption) ?_)))⟩
theorem rmay6_23 (k n t : Int) (s f : ByteArray) (w : World) (hk : k = 2 ∨ k = 3) :
    Calls Tryz.prog 82 #[prtV ⟨k, n, t, s, f⟩] w fun e w' => e = .returned (.bool (mayP ⟨k, n, t, s, f⟩)) ∧ Below w.heap.size w w' := by
  have HN := Lib.hid (fun W => (by rw [name_eq]; exact rname_c s W : Calls Tryz.prog 124 #[.string s] W fun e w' => e = .returned (.bool (isName s)) ∧ Below W.heap.size W w'))
  unfold prtV mayP noS
  simp only
  rw [if_neg (by omega), if_pos hk]
  obtain ⟨q, hq⟩ : ∃ q, isName s = q := ⟨_, rfl⟩
  rw [hq] at HN ⊢
  clear hq
  rcases hk with rfl | rfl
  all_goals go_enter Tryz.func82, Tryz.ntmps82
  all_goals go_wp2_with (go_at_call 124; refine (HN.out _).mono ?_; rintro e w1 ⟨rfl, hb1⟩)
  all_goals go_ret
  all_goals exact ⟨ret_b (by simp [*] <;> omega), by (repeat' (first | (with_reducible exact Below.refl _ _) | (with_reducible refine below_alloc ?_) | (with_reducible refine below_drew ?_) | (with_reducible refine below_drewN ?_) | (with_reducible refine below_set (by first | (simp; done) | (simp; omega)) ?_) | (with_reducible refine below_call (by with_reducible assumption) ?_)))⟩
theorem rmay6_4 (n t : Int) (s f : ByteArray) (w : World) :
    Calls Tryz.prog 82 #[prtV ⟨4, n, t, s, f⟩] w fun e w' => e = .returned (.bool (mayP ⟨4, n, t, s, f⟩)) ∧ Below w.heap.size w w' := by
  have HN := Lib.hid (fun W => (by rw [name_eq]; exact rname_c s W : Calls Tryz.prog 124 #[.string s] W fun e w' => e = .returned (.bool (isName s)) ∧ Below W.heap.size W w'))
  have HW := Lib.hid (fun W => (by rw [word_eq]; exact rword_c f W : Calls Tryz.prog 125 #[.string f] W fun e w' => e = .returned (.bool (isWord f)) ∧ W = w'))
  unfold prtV mayP
  simp only
  rw [if_neg (by omega), if_neg (by omega), if_pos trivial]
  obtain ⟨q, hq⟩ : ∃ q, isName s = q := ⟨_, rfl⟩
  obtain ⟨u, hu⟩ : ∃ q, isWord f = q := ⟨_, rfl⟩
  rw [hq] at HN ⊢
  rw [hu] at HW ⊢
  clear hq hu
  cases q
  all_goals go_enter Tryz.func82, Tryz.ntmps82
  all_goals go_wp2_with (first | (go_at_call 124; refine (HN.out _).mono ?_; rintro e w1 ⟨rfl, hb1⟩; obtain ⟨hc1, hf1⟩ := bcell hb1; have hz1 := hb1.size; (try simp at hz1); (try have hw01 : w.heap.size < w1.heap.size := by omega); (try have hw11 : w.heap.size + 1 < w1.heap.size := by omega); (try have hw21 : w.heap.size + 1 + 1 < w1.heap.size := by omega)) | (go_at_call 125; refine (HW.out _).mono ?_; rintro e w2 ⟨rfl, rfl⟩))
  all_goals go_ret
  all_goals exact ⟨ret_b (by simp [*] <;> omega), by (repeat' (first | (with_reducible exact Below.refl _ _) | (with_reducible refine below_alloc ?_) | (with_reducible refine below_drew ?_) | (with_reducible refine below_drewN ?_) | (with_reducible refine below_set (by first | (simp; done) | (simp; omega)) ?_) | (with_reducible refine below_call (by with_reducible assumption) ?_)))⟩
theorem rmay6_5 (n t : Int) (s f : ByteArray) (w : World) :
    Calls Tryz.prog 82 #[prtV ⟨5, n, t, s, f⟩] w fun e w' => e = .returned (.bool (mayP ⟨5, n, t, s, f⟩)) ∧ Below w.heap.size w w' := by
  unfold prtV mayP noS
  simp only
  rw [if_neg (by omega), if_neg (by omega), if_neg (by omega), if_pos trivial]
  go_enter Tryz.func82, Tryz.ntmps82
  go_wp2
  all_goals go_ret
  all_goals exact ⟨ret_b (by simp [*] <;> omega), by (repeat' (first | (with_reducible exact Below.refl _ _) | (with_reducible refine below_alloc ?_) | (with_reducible refine below_drew ?_) | (with_reducible refine below_drewN ?_) | (with_reducible refine below_set (by first | (simp; done) | (simp; omega)) ?_) | (with_reducible refine below_call (by with_reducible assumption) ?_)))⟩
theorem rmay6_6 (n t : Int) (s f : ByteArray) (w : World) :
    Calls Tryz.prog 82 #[prtV ⟨6, n, t, s, f⟩] w fun e w' => e = .returned (.bool (mayP ⟨6, n, t, s, f⟩)) ∧ Below w.heap.size w w' := by
  unfold prtV mayP noS
  simp only
  rw [if_neg (by omega), if_neg (by omega), if_neg (by omega), if_neg (by omega)]
  go_enter Tryz.func82, Tryz.ntmps82
  go_wp2
  all_goals go_ret
  all_goals exact ⟨ret_b (by simp [*] <;> omega), by (repeat' (first | (with_reducible exact Below.refl _ _) | (with_reducible refine below_alloc ?_) | (with_reducible refine below_drew ?_) | (with_reducible refine below_drewN ?_) | (with_reducible refine below_set (by first | (simp; done) | (simp; omega)) ?_) | (with_reducible refine below_call (by with_reducible assumption) ?_)))⟩
theorem rmay6_n (k n t : Int) (s f : ByteArray) (w : World) (h1 : ¬ k = 1) (h2 : ¬ k = 2) (h3 : ¬ k = 3) (h4 : ¬ k = 4) (h5 : ¬ k = 5) (h6 : ¬ k = 6) :
    Calls Tryz.prog 82 #[prtV ⟨k, n, t, s, f⟩] w fun e w' => e = .returned (.bool (mayP ⟨k, n, t, s, f⟩)) ∧ Below w.heap.size w w' := by
  have HM := Lib.hid (show mayP ⟨k, n, t, s, f⟩ = false by
    unfold mayP
    simp only
    rw [if_neg h1, if_neg (by omega), if_neg h4, if_neg h5, ne_i' h6]
    rfl)
  have b1 := ne_i' h1
  have b2 := ne_i' h2
  have b3 := ne_i' h3
  have b4 := ne_i' h4
  have b5 := ne_i' h5
  have b6 := ne_i' h6
  clear h1 h2 h3 h4 h5 h6
  unfold prtV
  go_enter Tryz.func82, Tryz.ntmps82
  go_wp2
  go_ret
  exact ⟨ret_b (by rw [HM.out]), by (repeat' (first | (with_reducible exact Below.refl _ _) | (with_reducible refine below_alloc ?_) | (with_reducible refine below_drew ?_) | (with_reducible refine below_drewN ?_) | (with_reducible refine below_set (by first | (simp; done) | (simp; omega)) ?_) | (with_reducible refine below_call (by with_reducible assumption) ?_)))⟩
theorem rmay6_c (p : Prt) (w : World) : Calls Tryz.prog 82 #[prtV p] w fun e w' => e = .returned (.bool (mayP p)) ∧ Below w.heap.size w w' := by
  obtain ⟨k, n, t, s, f⟩ := p
  by_cases h1 : k = 1
  · subst h1; exact rmay6_1 n t s f w
  by_cases h2 : k = 2
  · exact rmay6_23 k n t s f w (.inl h2)
  by_cases h3 : k = 3
  · exact rmay6_23 k n t s f w (.inr h3)
  by_cases h4 : k = 4
  · subst h4; exact rmay6_4 n t s f w
  by_cases h5 : k = 5
  · subst h5; exact rmay6_5 n t s f w
  by_cases h6 : k = 6
  · subst h6; exact rmay6_6 n t s f w
  exact rmay6_n k n t s f w h1 h2 h3 h4 h5 h6
end Go.Proofs.YtenjkplijblcoaaGreatDoor

/- capstanref06.Check: what each call answers. -/
namespace Go.Proofs.YtenjkplijblcoaaGreatDoor
open Go.RowKit Cap
set_option maxRecDepth 100000

set_option maxHeartbeats 2000000 in
theorem rcheck6_c (x : List Prt) (v : Value) (w : World) (hs : Sl encPrt 5 w v x) :
    Calls Tryz.prog 58 #[v] w fun e w' => e = .returned (.int .i64 (checkX x)) ∧ Below w.heap.size w w' := by
  have HS := Lib.hid hs
  obtain ⟨A, c, rfl, hl, hm, hc⟩ := hs
  have HC := Lib.hid hc
  clear hc
  by_cases h5 : 500 < x.length
  · have hz : (500 : Int) < (x.length : Int) := by omega
    have HX := Lib.hid (show checkX x = 2 by unfold checkX; rw [if_pos h5])
    go_enter Tryz.func58, Tryz.ntmps58
    go_wp2
    go_ret
    exact ⟨by rw [HX.out]; rfl, by (repeat' (first | (with_reducible exact Below.refl _ _) | (with_reducible refine below_alloc ?_) | (with_reducible refine below_drew ?_) | (with_reducible refine below_drewN ?_) | (with_reducible refine below_set (by first | (simp; done) | (simp; omega)) ?_) | (with_reducible refine below_call (by with_reducible assumption) ?_)))⟩
  have hz5 : ¬ (500 : Int) < (x.length : Int) := by omega
  have HX := Lib.hid (show checkX x = if depthL x = 0 ∨ 24 < depthL x ∨ x.any (fun p => !mayP p) = true then 60 else 0 by unfold checkX; rw [if_neg h5])
  go_enter Tryz.func58, Tryz.ntmps58
  go_wp2
  go_loopg [3] x.length (fun gg s3 wr => ∃ k : Nat, s3 = .int .i64 k ∧ k ≤ x.length ∧ x.length - k ≤ gg ∧ Aside (Below w.heap.size w wr) ∧ Aside ((x.drop k).any (fun p => !mayP p) = x.any (fun p => !mayP p)))
  case atStart => exact ⟨0, rfl, Nat.zero_le _, by omega, (show Below w.heap.size w _ from Below.refl _ _), (show (x.drop 0).any (fun p => !mayP p) = x.any (fun p => !mayP p) by rw [List.drop_zero])⟩
  case round =>
    obtain ⟨k, rfl, hk, hg, HB, HA⟩ := hrel
    have hB := HB.out
    by_cases hlt : k < x.length
    · obtain ⟨p, hp⟩ : ∃ p, x[k]? = some p := ⟨x[k], List.getElem?_eq_getElem hlt⟩
      obtain ⟨b, off, rfl, hb, hcx⟩ := HC.out k p hp
      have c0 : wr.cell? ⟨b, off + k * 5, none⟩ = some (.int .i64 p.k) := (hB.cell (p := ⟨b, off + k * 5, none⟩) hb).trans (by simpa using hcx 0 _ rfl)
      have c1 : wr.cell? ⟨b, off + k * 5 + 1, none⟩ = some (.int .i64 p.n) := (hB.cell (p := ⟨b, off + k * 5 + 1, none⟩) hb).trans (by simpa using hcx 1 _ rfl)
      have c2 : wr.cell? ⟨b, off + k * 5 + 2, none⟩ = some (.int .i64 p.t) := (hB.cell (p := ⟨b, off + k * 5 + 2, none⟩) hb).trans (by simpa using hcx 2 _ rfl)
      have c3 : wr.cell? ⟨b, off + k * 5 + 3, none⟩ = some (.string p.s) := (hB.cell (p := ⟨b, off + k * 5 + 3, none⟩) hb).trans (by simpa using hcx 3 _ rfl)
      have c4 : wr.cell? ⟨b, off + k * 5 + 4, none⟩ = some (.string p.f) := (hB.cell (p := ⟨b, off + k * 5 + 4, none⟩) hb).trans (by simpa using hcx 4 _ rfl)
      have hltz : (k : Int) < (x.length : Int) := by omega
      have hk0 : (0 : Int) ≤ (k : Int) := Int.natCast_nonneg _
      have HN := Lib.hid (show (!mayP p || (x.drop (k + 1)).any (fun p => !mayP p)) = x.any (fun p => !mayP p) by rw [← HA.out, drop_cons hp]; rfl)
      have HM := Lib.hid (fun W => rmay6_c p W)
      unfold prtV at HM
      obtain ⟨q, hq⟩ : ∃ q, mayP p = q := ⟨_, rfl⟩
      rw [hq] at HM HN
      clear hq hcx hp
      cases q
      · have HZ := Lib.hid (show checkX x = 60 by rw [HX.out, if_pos (.inr (.inr HN.out.symm))])
        go_wp2_with (go_at_call 82; refine (HM.out _).mono ?_; rintro e w1 ⟨rfl, hb1⟩)
        go_ret
        exact ⟨by rw [HZ.out]; rfl, by (repeat' (first | (with_reducible exact Below.refl _ _) | (with_reducible refine below_alloc ?_) | (with_reducible refine below_drew ?_) | (with_reducible refine below_drewN ?_) | (with_reducible refine below_set (by first | (simp; done) | (simp; omega)) ?_) | (with_reducible refine below_call (by with_reducible assumption) ?_)))⟩
      · go_wp2_with (go_at_call 82; refine (HM.out _).mono ?_; rintro e w1 ⟨rfl, hb1⟩)
        go_roundg (x.length - (k + 1))
        case measure => omega
        case rel => exact ⟨k + 1, by go_num, by omega, by omega, (show Below w.heap.size w _ from by (repeat' (first | (with_reducible exact Below.refl _ _) | (with_reducible refine below_alloc ?_) | (with_reducible refine below_drew ?_) | (with_reducible refine below_drewN ?_) | (with_reducible refine below_set (by first | (simp; done) | (simp; omega)) ?_) | (with_reducible refine below_call (by with_reducible assumption) ?_)))), (show (x.drop (k + 1)).any (fun p => !mayP p) = x.any (fun p => !mayP p) by rw [← HN.out]; rfl)⟩
    · obtain rfl : k = x.length := by omega
      have hltz : ¬ (x.length : Int) < (x.length : Int) := by omega
      have HZ := Lib.hid (show x.any (fun p => !mayP p) = false by rw [← HA.out, List.drop_length]; rfl)
      have HD := Lib.hid (rdepth_c x _ wr (HS.out.below hB) (by omega))
      obtain ⟨d, hd⟩ : ∃ d, depthL x = d := ⟨_, rfl⟩
      rw [hd] at HD
      have HX := Lib.hid (show checkX x = if d = 0 ∨ 24 < d then 60 else 0 by rw [HX.out, hd, HZ.out]; simp)
      clear hd
      by_cases h0 : d = 0
      · subst h0
        go_wp2_with (go_at_call 83; refine HD.out.mono ?_; rintro e w1 ⟨rfl, hb1⟩)
        go_ret
        exact ⟨by rw [HX.out]; rfl, by (repeat' (first | (with_reducible exact Below.refl _ _) | (with_reducible refine below_alloc ?_) | (with_reducible refine below_drew ?_) | (with_reducible refine below_drewN ?_) | (with_reducible refine below_set (by first | (simp; done) | (simp; omega)) ?_) | (with_reducible refine below_call (by with_reducible assumption) ?_)))⟩
      · have hb0 := ne_i' h0
        by_cases h24 : 24 < d
        · go_wp2_with (go_at_call 83; refine HD.out.mono ?_; rintro e w1 ⟨rfl, hb1⟩)
          go_ret
          exact ⟨by rw [HX.out, if_pos (by omega)]; rfl, by (repeat' (first | (with_reducible exact Below.refl _ _) | (with_reducible refine below_alloc ?_) | (with_reducible refine below_drew ?_) | (with_reducible refine below_drewN ?_) | (with_reducible refine below_set (by first | (simp; done) | (simp; omega)) ?_) | (with_reducible refine below_call (by with_reducible assumption) ?_)))⟩
        · go_wp2_with (go_at_call 83; refine HD.out.mono ?_; rintro e w1 ⟨rfl, hb1⟩)
          go_ret
          exact ⟨by rw [HX.out, if_neg (by omega)]; rfl, by (repeat' (first | (with_reducible exact Below.refl _ _) | (with_reducible refine below_alloc ?_) | (with_reducible refine below_drew ?_) | (with_reducible refine below_drewN ?_) | (with_reducible refine below_set (by first | (simp; done) | (simp; omega)) ?_) | (with_reducible refine below_call (by with_reducible assumption) ?_)))⟩
end Go.Proofs.YtenjkplijblcoaaGreatDoor
