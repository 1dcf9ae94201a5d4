/- Small functions of package fold; slices.Clone at parts and numbers. -/
import Derived.Test.YtenjkplijblcoaaGreatDoorCFReck
import Derived.Lib.SliceRun
set_option linter.unusedSimpArgs false
set_option linter.unusedVariables false
namespace Go.Proofs.YtenjkplijblcoaaGreatDoor
open Go.RowKit Cap
set_option maxRecDepth 100000

theorem ftakes_c (p : Prt) (w : World) : Calls Tryz.prog 44 #[prtV p] w fun e w' => e = .returned (.int .i64 (takesT p)) ∧ Below w.heap.size w w' := by
  obtain ⟨k, n, t, s, f⟩ := p
  unfold prtV takesT
  simp only
  go_enter Tryz.func44, Tryz.ntmps44
  by_cases h3 : k = 3
  · subst h3
    go_wp2
    go_ret
    exact ⟨by simp, by (repeat' (first | (with_reducible exact Below.refl _ _) | (with_reducible refine below_alloc ?_) | (with_reducible refine below_drew ?_) | (with_reducible refine below_drewN ?_) | (with_reducible refine below_set (by simp; omega) ?_) | (with_reducible refine below_call (by with_reducible assumption) ?_)))⟩
  by_cases h6 : k = 6
  · subst h6
    go_wp2
    go_ret
    exact ⟨by simp, by (repeat' (first | (with_reducible exact Below.refl _ _) | (with_reducible refine below_alloc ?_) | (with_reducible refine below_drew ?_) | (with_reducible refine below_drewN ?_) | (with_reducible refine below_set (by simp; omega) ?_) | (with_reducible refine below_call (by with_reducible assumption) ?_)))⟩
  by_cases h5 : k = 5
  · subst h5
    by_cases h15 : 15 ≤ n
    · go_wp2
      go_ret
      exact ⟨by simp [h15], by (repeat' (first | (with_reducible exact Below.refl _ _) | (with_reducible refine below_alloc ?_) | (with_reducible refine below_drew ?_) | (with_reducible refine below_drewN ?_) | (with_reducible refine below_set (by simp; omega) ?_) | (with_reducible refine below_call (by with_reducible assumption) ?_)))⟩
    · go_wp2
      go_ret
      exact ⟨by simp [h15], by (repeat' (first | (with_reducible exact Below.refl _ _) | (with_reducible refine below_alloc ?_) | (with_reducible refine below_drew ?_) | (with_reducible refine below_drewN ?_) | (with_reducible refine below_set (by simp; omega) ?_) | (with_reducible refine below_call (by with_reducible assumption) ?_)))⟩
  · have b3 : (k == 3) = false := by simpa using h3
    have b6 : (k == 6) = false := by simpa using h6
    have b5 : (k == 5) = false := by simpa using h5
    go_wp2
    go_ret
    exact ⟨by simp [h3, h6, h5], by (repeat' (first | (with_reducible exact Below.refl _ _) | (with_reducible refine below_alloc ?_) | (with_reducible refine below_drew ?_) | (with_reducible refine below_drewN ?_) | (with_reducible refine below_set (by simp; omega) ?_) | (with_reducible refine below_call (by with_reducible assumption) ?_)))⟩
theorem notNum_c (p : Prt) (w : World) : Calls Tryz.prog 54 #[prtV p] w fun e w' => e = .returned (.bool (p.k != 1)) ∧ Below w.heap.size w w' := by
  obtain ⟨k, n, t, s, f⟩ := p
  unfold prtV
  simp only
  go_enter Tryz.func54, Tryz.ntmps54
  go_wp2
  go_ret
  exact ⟨rfl, by (repeat' (first | (with_reducible exact Below.refl _ _) | (with_reducible refine below_alloc ?_) | (with_reducible refine below_drew ?_) | (with_reducible refine below_drewN ?_) | (with_reducible refine below_set (by simp; omega) ?_) | (with_reducible refine below_call (by with_reducible assumption) ?_)))⟩
theorem info_prt : InfoIs Tryz.prog 38 (.agg #[.int .i64 0, .int .i64 0, .int .i64 0, .string ⟨#[]⟩, .string ⟨#[]⟩]) 5 56 := by unfold InfoIs; kernel_rfl
theorem one_Prt : ∀ x, ∀ u ∈ encPrt x, u.oneCell' = true := fun x u hu => by
  simp only [encPrt, List.mem_cons, List.not_mem_nil, or_false] at hu
  rcases hu with rfl | rfl | rfl | rfl | rfl <;> rfl
set_option maxHeartbeats 1000000 in
theorem clone_prt (xs : List Prt) (v : Value) (w : World) (hs : Sl encPrt 5 w v xs) (hn : xs.length ≤ 1048576) :
    Calls Tryz.prog 24 #[v] w fun e w' => ∃ v', e = .returned v' ∧ w'.ownsRow w.heap.size 38 5 v' xs.length (xs.flatMap encPrt) ∧ Below w.heap.size w w' := by
  have HS := Lib.hid hs
  obtain ⟨A, c, rfl, hl, hm, hc⟩ := hs
  go_enter Tryz.func24, Tryz.ntmps24
  cases A with
  | none =>
    have hx0 : xs = [] := by
      match xs, hc with
      | [], _ => rfl
      | x :: r, hc =>
        obtain ⟨b, off, he, _⟩ := hc 0 x rfl
        cases he
    subst hx0
    clear hc
    have hnil := fun (W : World) => Lib.run_eql_slice_nil (P := Tryz.prog) W 23 38 none 0 c 0 0 Tryz.underlying23
    simp only [Option.isNone_none] at hnil
    go_wp2
    go_ret
    exact ⟨_, rfl, ⟨by simp, .inl ⟨rfl, rfl⟩⟩, Below.refl _ _⟩
  | some a =>
    clear hc
    have hnil := fun (W : World) => Lib.run_eql_slice_nil (P := Tryz.prog) W 23 38 (some a) xs.length c 0 0 Tryz.underlying23
    simp only [Option.isNone_some] at hnil
    go_wp2_with (at_builtin; refine wpList_app _ rfl _ _ 23 rfl w.heap.size 38 _ 5 56 Tryz.underlying23 info_prt rfl (by decide) encPrt encPrt_len one_Prt (.slice (some ⟨w.heap.size, 0, none⟩) 0 0) 0 [] rfl (World.ownsRow_lit w #[] 0 (Nat.le_refl _) (by decide) (by rfl)) _ xs rfl (HS.out.below (below_alloc (Below.refl _ _))) (by unfold maxLen; omega) (by omega) (by simp) ?_; intro v2 w2 ho2 hg2)
    go_ret
    exact ⟨_, rfl, by simpa using ho2, below_grown (below_alloc (Below.refl _ _)) hg2 (fun g hg => by simp [Value.ownBlock] at hg; omega)⟩
end Go.Proofs.YtenjkplijblcoaaGreatDoor
