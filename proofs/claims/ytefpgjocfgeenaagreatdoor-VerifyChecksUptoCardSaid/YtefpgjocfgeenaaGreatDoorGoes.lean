/- (*stack).step and goes of package verify, each whole. -/
import Derived.Test.YtefpgjocfgeenaaGreatDoorStep
namespace Go.Proofs.YtefpgjocfgeenaaGreatDoor
open Go.RowKit Cap
set_option maxRecDepth 100000

theorem step_c (x : Img) (vx : Value) (i : Ins) (st : List Int) (b : Nat) (w0 w : World) (hx : ImgV w0 vx x) (h0 : Below w0.heap.size w0 w) (hb0 : w0.heap.size ≤ b) (hm : mayIns x i = true)
    (hb : w.heap[b]? = some (.cells (stk st).toArray 122 (0, 0))) (hl : st.length ≤ 64) :
    Calls Tryz.prog 64 #[.pointer (some ⟨b, 0, none⟩), vx, insV i] w (StepR b w (stepS x i st)) := by
  obtain ⟨op, a, bb, n⟩ := i
  simp only [mayIns, Bool.and_eq_true, decide_eq_true_eq] at hm
  obtain ⟨⟨⟨⟨⟨h1, h2⟩, -⟩, -⟩, -⟩, hf⟩ := hm
  have hc : op = 1 ∨ op = 2 ∨ op = 3 ∨ op = 4 ∨ op = 5 ∨ op = 6 ∨ op = 7 ∨ op = 8 ∨ op = 9 ∨ op = 10 ∨ op = 11 ∨ op = 12 := by omega
  rcases hc with rfl | rfl | rfl | rfl | rfl | rfl | rfl | rfl | rfl | rfl | rfl | rfl
  · obtain ⟨vt, vf, vi, vo, vc, rfl, -⟩ := hx
    exact step_1 x _ a n bb st b w ⟨vt, vf, vi, vo, vc, rfl⟩ hb hl
  · have hk : 0 ≤ a ∧ a < x.types.length := by simp [mayF, cellsOk] at hf; omega
    exact step_2 x vx a bb n st b w0 w hx h0 hb0 hk.1 hk.2 hb hl
  · have hk : 0 ≤ a ∧ a < x.types.length := by simp [mayF, cellsOk] at hf; omega
    exact step_3 x vx a bb n st b w0 w hx h0 hb0 hk.1 hk.2 hb hl
  · have hk : 0 ≤ a ∧ a < x.types.length := by simp [mayF, mayArr, cellsOk] at hf; omega
    exact step_4 x vx a bb n st b w0 w hx h0 hb0 hk.1 hk.2 hb hl
  · have hk : 0 ≤ a ∧ a < x.types.length := by simp [mayF, mayArr, cellsOk] at hf; omega
    exact step_5 x vx a bb n st b w0 w hx h0 hb0 hk.1 hk.2 hb hl
  · exact step_6 x vx a bb n st b w0 w hx h0 hb0 hb hl
  · exact step_7 x vx a bb n st b w0 w hx h0 hb0 hb hl
  · exact step_8 x vx a bb n st b w0 w hx h0 hb0 hb hl
  · exact step_9 x vx a bb n st b w0 w hx h0 hb0 hb hl
  · exact step_10 x vx a bb n st b w0 w hx h0 hb0 hb hl
  · exact step_11 x vx a bb n st b w0 w hx h0 hb0 hb hl
  · exact step_12 x vx a bb n st b w0 w hx h0 hb0 hb hl

/-- What goes hands back: a slice of its own. -/
structure GoesR (w : World) (xs : List Int) (e : Ending) (w' : World) : Prop where
  val : ∃ v, e = .returned v ∧ Sl encI 1 w' v xs ∧ ∀ A n c a, v = .slice A n c → A = some a → w.heap.size ≤ a.block
  below : Below w.heap.size w w'
theorem goes_c (at_ : Int) (i : Ins) (w : World) (h0 : 0 ≤ at_) (h1 : at_ < 4611686018427387904) :
    Calls Tryz.prog 65 #[.int .i64 at_, insV i] w (GoesR w (goesL at_ i)) := by
  obtain ⟨op, a, bb, n⟩ := i
  unfold insV
  have hs : IntKind.i64.wrap (at_ + 1) = at_ + 1 := IntWalk.i64_in _ (by omega)
  by_cases h9 : op = 9
  · subst h9
    go_enter Tryz.func65, Tryz.ntmps65
    go_wp2
    go_ret
    refine ⟨⟨_, rfl, ?_, ?_⟩, by (repeat' (first | (with_reducible exact Below.refl _ _) | (with_reducible refine below_alloc ?_) | (with_reducible refine below_drew ?_) | (with_reducible refine below_drewN ?_) | (with_reducible refine below_set (by simp; omega) ?_) | (with_reducible refine below_call (by with_reducible assumption) ?_)))⟩
    · exact Sl.lit' encI_len _ _ _ _ _ [a] (by first | rfl | simp) (by rfl) (by rfl) (by simp)
    · rintro A n c a h1 h2
      injection h1 with h1 _ _
      rw [← h1] at h2
      injection h2 with h2
      subst h2
      simp
  by_cases h10 : op = 10
  · subst h10
    go_enter Tryz.func65, Tryz.ntmps65
    go_wp2
    go_ret
    refine ⟨⟨_, rfl, ?_, ?_⟩, by (repeat' (first | (with_reducible exact Below.refl _ _) | (with_reducible refine below_alloc ?_) | (with_reducible refine below_drew ?_) | (with_reducible refine below_drewN ?_) | (with_reducible refine below_set (by simp; omega) ?_) | (with_reducible refine below_call (by with_reducible assumption) ?_)))⟩
    · exact Sl.lit' encI_len _ _ _ _ _ [at_ + 1, a] (by first | rfl | simp) (by rfl) (by rfl) (by simp)
    · rintro A n c a h1 h2
      injection h1 with h1 _ _
      rw [← h1] at h2
      injection h2 with h2
      subst h2
      simp
  by_cases h12 : op = 12
  · subst h12
    go_enter Tryz.func65, Tryz.ntmps65
    go_wp2
    go_ret
    refine ⟨⟨_, rfl, Sl.nil _ _ _, ?_⟩, by (repeat' (first | (with_reducible exact Below.refl _ _) | (with_reducible refine below_alloc ?_) | (with_reducible refine below_drew ?_) | (with_reducible refine below_drewN ?_) | (with_reducible refine below_set (by simp; omega) ?_) | (with_reducible refine below_call (by with_reducible assumption) ?_)))⟩
    · rintro A n c a h1 h2
      injection h1 with h1 _ _
      rw [← h1] at h2
      cases h2
  have hg : goesL at_ ⟨op, a, bb, n⟩ = [at_ + 1] := by simp [goesL, h9, h10, h12]
  rw [hg]
  clear hg
  go_enter Tryz.func65, Tryz.ntmps65
  go_wp2
  go_ret
  refine ⟨⟨_, rfl, ?_, ?_⟩, by (repeat' (first | (with_reducible exact Below.refl _ _) | (with_reducible refine below_alloc ?_) | (with_reducible refine below_drew ?_) | (with_reducible refine below_drewN ?_) | (with_reducible refine below_set (by simp; omega) ?_) | (with_reducible refine below_call (by with_reducible assumption) ?_)))⟩
  · exact Sl.lit' encI_len _ _ _ _ _ [at_ + 1] (by first | rfl | simp) (by rfl) (by rfl) (by simp)
  · rintro A n c a h1 h2
    injection h1 with h1 _ _
    rw [← h1] at h2
    injection h2 with h2
    subst h2
    simp
end Go.Proofs.YtefpgjocfgeenaaGreatDoor
