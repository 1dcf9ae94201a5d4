/- slices.Clone at numbers. -/
import Derived.Test.YtenjkplijblcoaaGreatDoorCFFold
set_option linter.unusedSimpArgs false
set_option linter.unusedVariables false
namespace Go.Proofs.YtenjkplijblcoaaGreatDoor
open Go.RowKit Cap
set_option maxRecDepth 100000

set_option maxHeartbeats 1000000 in
theorem clone_int (xs : List Int) (v : Value) (w : World) (hs : Sl encI 1 w v xs) (hn : xs.length ≤ 1048576) :
    Calls Tryz.prog 45 #[v] w fun e w' => ∃ v', e = .returned v' ∧ w'.ownsRow w.heap.size 3 1 v' xs.length (xs.flatMap encI) ∧ Below w.heap.size w w' := by
  have HS := Lib.hid hs
  obtain ⟨A, c, rfl, hl, hm, hc⟩ := hs
  go_enter Tryz.func45, Tryz.ntmps45
  cases A with
  | none =>
    have hx0 : xs = [] := by
      match xs, hc with
      | [], _ => rfl
      | x :: r, hc =>
        obtain ⟨b, off, he, _⟩ := hc 0 x rfl
        cases he
    subst hx0
    clear hc
    have hnil := fun (W : World) => Lib.run_eql_slice_nil (P := Tryz.prog) W 55 3 none 0 c 0 0 Tryz.underlying55
    simp only [Option.isNone_none] at hnil
    go_wp2
    go_ret
    exact ⟨_, rfl, ⟨by simp, .inl ⟨rfl, rfl⟩⟩, Below.refl _ _⟩
  | some a =>
    clear hc
    have hnil := fun (W : World) => Lib.run_eql_slice_nil (P := Tryz.prog) W 55 3 (some a) xs.length c 0 0 Tryz.underlying55
    simp only [Option.isNone_some] at hnil
    go_wp2_with (at_builtin; refine wpList_app _ rfl _ _ 55 rfl w.heap.size 3 _ 1 8 Tryz.underlying55 info_int rfl (by decide) encI encI_len one_I (.slice (some ⟨w.heap.size, 0, none⟩) 0 0) 0 [] rfl (World.ownsRow_lit w #[] 0 (Nat.le_refl _) (by decide) (by rfl)) _ xs rfl (HS.out.below (below_alloc (Below.refl _ _))) (by unfold maxLen; omega) (by omega) (by simp) ?_; intro v2 w2 ho2 hg2)
    go_ret
    exact ⟨_, rfl, by simpa using ho2, below_grown (below_alloc (Below.refl _ _)) hg2 (fun g hg => by simp [Value.ownBlock] at hg; omega)⟩
end Go.Proofs.YtenjkplijblcoaaGreatDoor
