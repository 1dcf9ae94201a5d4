/- expr.Names. -/
import Derived.Test.YtbnelgniekcjdaaGreatDoorCE06H
import Derived.Test.YtbnelgniekcjdaaGreatDoorShelfM
import Derived.Shelf.AbstractIn
set_option linter.unusedSimpArgs false
set_option linter.unusedVariables false
namespace Go.Proofs.YtbnelgniekcjdaaGreatDoor
open Go.RowKit Cap Go.Maps Go.Sort Go.Shelf
set_option maxRecDepth 100000

theorem sortsB (m : Nat) : AnyZ.SortsIn Tryz.prog Tryz.sortedB_ren Fence.wide m :=
  ⟨fun blk off cap ss W hH hblk hsz => callsIn_wide.2 (AnyM.slices_Sort_string Tryz.sortB blk off cap ss W hH hblk hsz),
   fun p cap W => callsIn_wide.2 (AnyM.slices_Sort_string_none Tryz.sortB p cap W)⟩
set_option maxHeartbeats 1000000 in
/-- slices.Sorted of a map's keys. -/
theorem sorted_c : SortedC := by
  intro b nn D0 w hown hmax hbytes
  have hbl := hown.lt
  have hseq : SeqGives Fence.wide 2 Tryz.prog 40 #[.pointer (some ⟨w.heap.size, 0, none⟩)] encStr (fun ss => ss.Perm (strKeys D0)) (Maps.size D0) (w.alloc (.cells #[.map (some b)] 69)) :=
    AnyZ.keys_gives (ρ := Tryz.keysB_ren) { Tryz.keysB with } Fence.wide _ trivial rfl (by omega) w.heap.size b nn D0 _ (by simp) (by simp) (by
      obtain ⟨es, clock, hb, Ft, hs, hD⟩ := hown
      exact ⟨es, clock, (Below.heap_alloc _ _ b hbl).trans hb, Ft, hs, hD⟩)
  have cS := AnyZ.sorted_in Tryz.sortedB Fence.wide 5 trivial trivial trivial trivial rfl (by omega) (sortsB _) (enters_of Tryz.func39 (by kernel_rfl) rfl) 40 #[.pointer (some ⟨w.heap.size, 0, none⟩)] trivial (enters_of Tryz.func40 (by kernel_rfl) rfl) _ _ hmax hbytes _ hseq
  change CallsIn _ _ Tryz.prog 24 _ _ _ at cS
  refine (callsIn_wide.1 cS).mono ?_
  rintro e w' ⟨v, ss, rfl, hS, hrow, hnil, hb⟩
  have hp := mergeSort_of_perm hS
  refine ⟨v, rfl, ?_, ?_, ((Below.refl _ w).alloc (Nat.le_refl _) _).trans (hb.mono (by simp))⟩
  · rw [← hp, List.length_mergeSort]
    exact own_base hrow (by simp)
  · rw [hnil, ← hp]
    constructor
    · rintro rfl
      exact List.eq_nil_of_length_eq_zero (by rw [List.length_mergeSort]; rfl)
    · intro h
      have := congrArg List.length h
      rw [List.length_mergeSort] at this
      exact List.eq_nil_of_length_eq_zero this
theorem names_c (x : List Prt) (vx : Value) (w : World) (hx : Sl encPrt 5 w vx x) (hG : G w) (hok : ∀ p ∈ x, PrtOk p) : Calls Tryz.prog 12 #[vx] w (NamesR x w) := names_of sorted_c x vx w hx hG hok
end Go.Proofs.YtbnelgniekcjdaaGreatDoor
