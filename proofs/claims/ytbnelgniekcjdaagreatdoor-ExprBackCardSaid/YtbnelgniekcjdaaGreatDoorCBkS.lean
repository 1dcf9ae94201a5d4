/- What is shown part by part: what a loop keeps; plainly. -/
import Derived.Test.YtbnelgniekcjdaaGreatDoorCBkB
import Derived.Test.YtbnelgniekcjdaaGreatDoorCMayOk
set_option linter.unusedSimpArgs false
set_option linter.unusedVariables false
namespace Cap
open Go Go.RowKit
def totS (ss : List Sh) : Nat := (ss.map fun s => s.1.length + 2).sum
theorem totS_app (x y : List Sh) : totS (x ++ y) = totS x + totS y := by
  unfold totS
  rw [List.map_append, List.sum_append]
theorem totS_mem {s : Sh} : ∀ {ss : List Sh}, s ∈ ss → s.1.length + 2 ≤ totS ss
  | a :: r, h => by
    have e : totS (a :: r) = a.1.length + 2 + totS r := rfl
    rw [e]
    rcases List.mem_cons.1 h with rfl | h
    · omega
    · have := totS_mem h
      omega
theorem totS_len : ∀ ss : List Sh, ss.length ≤ totS ss
  | [] => Nat.zero_le _
  | a :: r => by
    have e : totS (a :: r) = a.1.length + 2 + totS r := rfl
    have := totS_len r
    rw [e, List.length_cons]
    omega
theorem innerT_len (s : Sh) : (innerT s).length ≤ s.1.length + 2 := by
  unfold innerT
  split
  · simp
  · omega
theorem showP_len (p : Prt) (hm : mayP p = true) (top : List Sh) (ht : top.length = takesE p) : (showP p top).1.length + 2 ≤ totS top + 5 := by
  rcases may_cases hm with ⟨n, t, hb, rfl⟩ | ⟨s, hs, rfl⟩ | ⟨s, hs, rfl⟩ | ⟨s, f, hs, hw, rfl⟩ | ⟨n, h1, h2, rfl⟩ | ⟨t, h1, h2, rfl⟩
  · unfold showP numP
    simp only
    split
    · simp
    · simp
  · show ([tokOf s] : List Tok).length + 2 ≤ _
    simp
  · have h1 : top.length = 1 := ht
    match top, h1 with
    | [a], _ =>
      show (tokOf s :: tokOf ⟨#[91]⟩ :: (a.1 ++ [tokOf ⟨#[93]⟩])).length + 2 ≤ a.1.length + 2 + 0 + 5
      simp only [List.length_cons, List.length_append, List.length_nil]
      omega
  · show ([tokOf s, tokOf ⟨#[46]⟩, tokOf f] : List Tok).length + 2 ≤ _
    simp
  · by_cases h15 : 15 ≤ n
    · have ht1 : takesE (opP n) = 1 := by
        unfold takesE opP
        simp only
        rw [if_pos]
        right; right
        exact ⟨trivial, by omega, by omega⟩
      rw [ht1] at ht
      match top, ht with
      | [a], _ =>
        have e : showP (opP n) [a] = (tokOf (signAt n) :: innerT a, true) := by
          unfold showP
          rw [if_neg (by simp [opP]), if_neg (by simp [opP]), if_neg (by simp [opP]), if_neg (by simp [opP]), if_neg (by simp [opP]), if_neg (by simp [opP]), if_pos ht1]
          rfl
        rw [e]
        have := innerT_len a
        show (tokOf (signAt n) :: innerT a).length + 2 ≤ a.1.length + 2 + 0 + 5
        simp only [List.length_cons]
        omega
    · have ht2 : takesE (opP n) = 2 := by
        unfold takesE opP
        simp only
        rw [if_neg, if_pos trivial]
        rintro (h | h | h)
        · simp at h
        · simp at h
        · omega
      rw [ht2] at ht
      match top, ht with
      | [a, b], _ =>
        have e : showP (opP n) [a, b] = (innerT a ++ (tokOf (signAt n) :: innerT b), true) := by
          unfold showP
          rw [if_neg (by simp [opP]), if_neg (by simp [opP]), if_neg (by simp [opP]), if_neg (by simp [opP]), if_neg (by simp [opP]), if_neg (by simp [opP]), if_neg (by omega)]
          rfl
        rw [e]
        have := innerT_len a
        have := innerT_len b
        show (innerT a ++ (tokOf (signAt n) :: innerT b)).length + 2 ≤ a.1.length + 2 + (b.1.length + 2 + 0) + 5
        simp only [List.length_cons, List.length_append]
        omega
  · have h1 : top.length = 1 := ht
    match top, h1 with
    | [a], _ =>
      show (tokOf (convB t) :: tokOf ⟨#[40]⟩ :: (a.1 ++ [tokOf ⟨#[41]⟩])).length + 2 ≤ a.1.length + 2 + 0 + 5
      simp only [List.length_cons, List.length_append, List.length_nil]
      omega
/-- What is kept from part to part. -/
structure ShI (x : List Prt) (k : Nat) (ss : List Sh) : Prop where
  go : showGo (x.drop k) ss = showGo x []
  dp : ∃ (ds : List Int) (d : Int), ds.length = ss.length ∧ depthGo (x.drop k) ds = some [d]
  tot : totS ss ≤ 5 * k
theorem ShI.start {x : List Prt} (h : checkX x = 0) : ShI x 0 [] := by
  obtain ⟨_, ⟨d, hd⟩, _⟩ := Go.Proofs.YtbnelgniekcjdaaGreatDoor.checkX_ok h
  exact ⟨rfl, ⟨[], d, rfl, hd⟩, Nat.zero_le _⟩
theorem ShI.enough {x : List Prt} {k : Nat} {ss : List Sh} (h : ShI x k ss) {p : Prt} (hp : x[k]? = some p) : takesE p ≤ ss.length := by
  obtain ⟨ds, d, h1, h2⟩ := h.dp
  rw [Go.Proofs.YtbnelgniekcjdaaGreatDoor.drop_cons hp, depthGo] at h2
  split at h2
  · cases h2
  · omega
theorem ShI.small {x : List Prt} {k : Nat} {ss : List Sh} (h : ShI x k ss) {s : Sh} (hs : s ∈ ss) : s.1.length ≤ 5 * k := by
  have := totS_mem hs
  have := h.tot
  omega
theorem ShI.next {x : List Prt} {k : Nat} {ss : List Sh} (h : ShI x k ss) {p : Prt} (hp : x[k]? = some p) (hm : mayP p = true) : ShI x (k + 1) (showStep p ss) := by
  have hle := h.enough hp
  obtain ⟨ds, d, h1, h2⟩ := h.dp
  refine ⟨?_, ⟨depthStep p ds, d, ?_, ?_⟩, ?_⟩
  · have := h.go
    rw [Go.Proofs.YtbnelgniekcjdaaGreatDoor.drop_cons hp, showGo] at this
    exact this
  · rw [Go.Proofs.YtbnelgniekcjdaaGreatDoor.depthStep_len, h1, showStep, List.length_append, List.length_take, List.length_singleton]
    omega
  · rw [Go.Proofs.YtbnelgniekcjdaaGreatDoor.drop_cons hp, depthGo] at h2
    split at h2
    · cases h2
    · exact h2
  · have ht : (ss.drop (ss.length - takesE p)).length = takesE p := by rw [List.length_drop]; omega
    have hl := showP_len p hm _ ht
    have e : totS ss = totS (ss.take (ss.length - takesE p)) + totS (ss.drop (ss.length - takesE p)) := by rw [← totS_app, List.take_append_drop]
    have e2 : totS (showStep p ss) = totS (ss.take (ss.length - takesE p)) + ((showP p (ss.drop (ss.length - takesE p))).1.length + 2 + 0) := totS_app _ _
    have := h.tot
    omega
theorem ShI.done {x : List Prt} {ss : List Sh} (h : ShI x x.length ss) : ∃ s, ss = [s] ∧ s.1 = showL x := by
  obtain ⟨ds, d, h1, h2⟩ := h.dp
  rw [List.drop_length, depthGo] at h2
  injection h2 with h2
  subst h2
  obtain ⟨s, rfl⟩ := List.length_eq_one_iff.1 (show ss.length = 1 from h1.symm)
  refine ⟨s, rfl, ?_⟩
  have := h.go
  rw [List.drop_length, showGo] at this
  unfold showL
  rw [← this]
  rfl
end Cap
