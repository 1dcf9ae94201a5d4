/- The document's names (package capstanref06) are the program's: plain law. No program in sight. -/
import Derived.Test.YtefpgjocfgeenaaGreatDoorSpec
namespace Cap
open Go
set_option maxRecDepth 100000

def kws : List (List UInt8) := [[80, 82, 79, 71, 82, 65, 77], [69, 78, 68, 95, 80, 82, 79, 71, 82, 65, 77], [86, 65, 82], [86, 65, 82, 95, 73, 78, 80, 85, 84], [86, 65, 82, 95, 79, 85, 84, 80, 85, 84], [69, 78, 68, 95, 86, 65, 82], [65, 82, 82, 65, 89], [79, 70], [66, 79, 79, 76], [73, 78, 84], [68, 73, 78, 84], [84, 73, 77, 69], [84, 79, 78], [84, 79, 70], [84, 80], [67, 84, 85], [67, 84, 68], [82, 95, 84, 82, 73, 71], [70, 95, 84, 82, 73, 71], [83, 82], [82, 83], [81, 85, 65, 68], [73, 70], [84, 72, 69, 78], [69, 76, 83, 73, 70], [69, 76, 83, 69], [69, 78, 68, 95, 73, 70], [67, 65, 83, 69], [69, 78, 68, 95, 67, 65, 83, 69], [87, 72, 73, 76, 69], [68, 79], [69, 78, 68, 95, 87, 72, 73, 76, 69], [70, 79, 82], [84, 79], [66, 89], [69, 78, 68, 95, 70, 79, 82], [82, 69, 80, 69, 65, 84], [85, 78, 84, 73, 76], [69, 78, 68, 95, 82, 69, 80, 69, 65, 84], [69, 88, 73, 84], [82, 69, 84, 85, 82, 78], [65, 78, 68], [79, 82], [88, 79, 82], [78, 79, 84], [77, 79, 68], [84, 82, 85, 69], [70, 65, 76, 83, 69], [84, 79, 95, 73, 78, 84], [84, 79, 95, 68, 73, 78, 84], [84, 79, 95, 84, 73, 77, 69]]
theorem kw_flat : kwBytes = 32 :: kws.flatMap (fun w => w ++ [32]) := by decide +kernel
theorem kw_no : ∀ w ∈ kws, ¬ (32 : UInt8) ∈ w := by decide +kernel

theorem contains_iff (s sub : List UInt8) : Lib.contains s sub = true ↔ sub <:+: s := by
  unfold Lib.contains
  rw [decide_eq_true_eq]
  rcases Lib.index_spec s sub with ⟨h1, h2⟩ | ⟨i, h1, h2, h3, _⟩
  · rw [h1]
    refine ⟨fun h => absurd h (by decide), fun ⟨a, b, h⟩ => ?_⟩
    have := h2 a.length (by rw [← h]; simp; (try omega))
    unfold Lib.occAt at this
    rw [← h, List.append_assoc, List.drop_left] at this
    have h4 : sub.isPrefixOf (sub ++ b) = true := List.isPrefixOf_iff_prefix.2 (List.prefix_append _ _)
    rw [h4] at this
    cases this
  · rw [h1]
    refine ⟨fun _ => ?_, fun _ => by omega⟩
    unfold Lib.occAt at h3
    have h4 := List.isPrefixOf_iff_prefix.1 h3
    exact h4.isInfix.trans (List.drop_suffix i s).isInfix

theorem sep_eq : ∀ (s w B R : List UInt8), ¬ (32 : UInt8) ∈ s → ¬ (32 : UInt8) ∈ w → s ++ 32 :: B = w ++ 32 :: R → s = w
  | [], [], _, _, _, _, _ => rfl
  | [], y :: w, _, _, _, hw, h => by
    rw [List.nil_append, List.cons_append] at h
    injection h with h1 h2
    exact absurd (by simp [h1]) hw
  | x :: s, [], _, _, hs, _, h => by
    rw [List.nil_append, List.cons_append] at h
    injection h with h1 h2
    exact absurd (by simp [h1]) hs
  | x :: s, y :: w, B, R, hs, hw, h => by
    rw [List.cons_append, List.cons_append] at h
    injection h with h1 h2
    rw [h1, sep_eq s w B R (fun h => hs (by simp [h])) (fun h => hw (by simp [h])) h2]
theorem kw_mem (s : List UInt8) (hs : ¬ (32 : UInt8) ∈ s) (hne : s ≠ []) : ∀ ws : List (List UInt8), (∀ w ∈ ws, ¬ (32 : UInt8) ∈ w) → ((32 :: s ++ [32]) <:+: (32 :: ws.flatMap (fun w => w ++ [32])) ↔ s ∈ ws)
  | [], _ => by
    constructor
    · intro h
      have h1 := h.length_le
      have h2 : 0 < s.length := List.length_pos_iff.2 hne
      simp at h1
      (try omega)
    · intro h; cases h
  | w :: ws, hw => by
    have hww := hw w (by simp)
    have ih := kw_mem s hs hne ws (fun u hu => hw u (by simp [hu]))
    have e : 32 :: (w :: ws).flatMap (fun w => w ++ [32]) = 32 :: (w ++ 32 :: ws.flatMap (fun w => w ++ [32])) := by simp
    rw [e]
    constructor
    · rintro ⟨A, B, h⟩
      cases A with
      | nil =>
        have h' : s ++ 32 :: B = w ++ 32 :: ws.flatMap (fun w => w ++ [32]) := by simpa using h
        rw [sep_eq _ _ _ _ hs hww h']
        simp
      | cons a A =>
        have h' : A ++ (32 :: s ++ [32] ++ B) = w ++ (32 :: ws.flatMap (fun w => w ++ [32])) := by
          rw [List.append_assoc, List.cons_append] at h
          injection h with _ h
        rcases List.append_eq_append_iff.1 h' with ⟨a', h1, h2⟩ | ⟨c', h1, h2⟩
        · cases a' with
          | nil =>
            refine List.mem_cons_of_mem _ (ih.1 ⟨[], B, ?_⟩)
            rw [List.nil_append] at h2 ⊢
            exact h2
          | cons y a' =>
            rw [List.cons_append, List.cons_append, List.cons_append] at h2
            injection h2 with h2 _
            exact absurd (by rw [h1, ← h2]; simp) hww
        · refine List.mem_cons_of_mem _ (ih.1 ⟨c', B, ?_⟩)
          rw [List.append_assoc]
          exact h2.symm
    · intro h
      rcases List.mem_cons.1 h with rfl | h
      · exact ⟨[], ws.flatMap (fun w => w ++ [32]), by simp⟩
      · obtain ⟨A, B, hAB⟩ := ih.2 h
        exact ⟨32 :: w ++ A, B, by rw [← hAB]; simp⟩

/-- A letter, a numeral or a line below. -/
def isWc (c : UInt8) : Bool := (decide (65 ≤ c.toNat) && decide (c.toNat ≤ 90)) || (decide (48 ≤ c.toNat) && decide (c.toNat ≤ 57)) || decide (c.toNat = 95)
def isNumc (c : UInt8) : Bool := decide (48 ≤ c.toNat) && decide (c.toNat ≤ 57)
theorem wc_eq (c : UInt8) : wordBytes.contains c = isWc c := by
  have h : ∀ n : Fin 256, wordBytes.contains (UInt8.ofNat n.val) = isWc (UInt8.ofNat n.val) := by decide +kernel
  have := h ⟨c.toNat, c.toNat_lt⟩
  simpa using this
theorem numc_eq (c : UInt8) : numBytes.contains c = isNumc c := by
  have h : ∀ n : Fin 256, numBytes.contains (UInt8.ofNat n.val) = isNumc (UInt8.ofNat n.val) := by decide +kernel
  have := h ⟨c.toNat, c.toNat_lt⟩
  simpa using this
theorem dropWhile_nil {p : UInt8 → Bool} : ∀ {l : List UInt8}, l.dropWhile p = [] ↔ l.all p = true
  | [] => by simp
  | x :: l => by
    rw [List.dropWhile_cons, List.all_cons]
    cases h : p x with
    | true => simpa using dropWhile_nil (p := p) (l := l)
    | false => simp
theorem mem_tw {p : UInt8 → Bool} : ∀ {l : List UInt8} {x : UInt8}, x ∈ l.takeWhile p → p x = true
  | [], _, h => by simp at h
  | y :: l, x, h => by
    rw [List.takeWhile_cons] at h
    cases hp : p y with
    | true =>
      rw [hp, if_pos rfl] at h
      rcases List.mem_cons.1 h with rfl | h
      · exact hp
      · exact mem_tw h
    | false => rw [hp] at h; simp at h
theorem one_infix (c : UInt8) (l : List UInt8) : [c] <:+: l ↔ c ∈ l := by
  constructor
  · rintro ⟨a, b, h⟩
    rw [← h]
    simp
  · intro h
    obtain ⟨a, b, rfl⟩ := List.append_of_mem h
    exact ⟨a, b, by simp⟩
theorem trim_all (l cs : List UInt8) : (Lib.trimS l cs).isEmpty = l.all (cs.contains ·) := by
  rw [Bool.eq_iff_iff, List.isEmpty_iff]
  unfold Lib.trimS Lib.trimLeftS Lib.trimRightS
  rw [dropWhile_nil, List.all_reverse]
  constructor
  · intro h
    have h1 := List.takeWhile_append_dropWhile (p := (cs.contains ·)) (l := l.reverse)
    rw [List.all_eq_true] at h ⊢
    intro x hx
    have hx' : x ∈ l.reverse := List.mem_reverse.2 hx
    rw [← h1] at hx'
    rcases List.mem_append.1 hx' with h2 | h2
    · exact mem_tw h2
    · exact h x h2
  · intro h
    rw [List.all_eq_true] at h ⊢
    intro x hx
    exact h x (List.mem_reverse.1 ((List.dropWhile_sublist _).subset hx))
def refWord (l : List UInt8) : Bool := !l.isEmpty && decide (l.length ≤ 24) && !((l.take 1).all isNumc) && l.all isWc
def refName (l : List UInt8) : Bool := !(kws.contains l) && refWord l
theorem word_eq (s : ByteArray) : isWord s = refWord s.data.toList := by
  have e : s.toList = s.data.toList := by rw [ByteArray.toList_eq]
  have h1 : s.size = s.data.toList.length := rfl
  unfold isWord refWord
  rw [e, trim_all, h1]
  generalize s.data.toList = l
  have h2 : l.all (wordBytes.contains ·) = l.all isWc := by congr 1; funext c; exact wc_eq c
  rw [h2]
  cases l with
  | nil => rfl
  | cons c r =>
    have h3 : Lib.contains numBytes ((c :: r).take 1) = isNumc c := by
      rw [← numc_eq, Bool.eq_iff_iff, contains_iff, List.contains_iff_mem]
      exact one_infix c numBytes
    rw [h3]
    simp [Bool.and_assoc, Bool.and_comm, Bool.and_left_comm]
theorem name_eq (s : ByteArray) : isName s = refName s.data.toList := by
  unfold isName refName
  rw [word_eq]
  cases h : refWord s.data.toList with
  | false => simp
  | true =>
    have h' := h
    unfold refWord at h
    simp only [Bool.and_eq_true, List.all_eq_true] at h
    obtain ⟨⟨⟨h1, _⟩, _⟩, h2⟩ := h
    have hs : ¬ (32 : UInt8) ∈ s.data.toList := fun hm => absurd (h2 _ hm) (by decide)
    have hne : s.data.toList ≠ [] := by simpa using h1
    have := kw_mem _ hs hne kws kw_no
    rw [← kw_flat, ← contains_iff, ← List.contains_iff_mem] at this
    rw [Bool.true_and, Bool.and_true, Bool.eq_iff_iff.2 this]
end Cap
