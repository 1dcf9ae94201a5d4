/- Has a part a name? -/
import Derived.Test.YtbnelgniekcjdaaGreatDoorCFSpec
set_option linter.unusedSimpArgs false
set_option linter.unusedVariables false
namespace Cap
open Go Go.RowKit
/-- Has a part a name? -/
def namedP (p : Prt) : Bool := !p.s.toList.isEmpty
end Cap
namespace Go.Proofs.YtbnelgniekcjdaaGreatDoor
open Go.RowKit Cap
theorem ne_i {a b : Int} (h : ¬ a = b) : (a == b) = false := by simpa using h
theorem checkX_ok {x : List Prt} (h : checkX x = 0) : x.length ≤ 500 ∧ (∃ d, depthGo x [] = some [d]) ∧ ∀ p ∈ x, mayP p = true := by
  unfold checkX at h
  by_cases h500 : 500 < x.length
  · rw [if_pos h500] at h
    omega
  · rw [if_neg h500] at h
    by_cases hc : depthL x = 0 ∨ 24 < depthL x ∨ x.any (fun p => !mayP p) = true
    · rw [if_pos hc] at h
      omega
    · refine ⟨by omega, ?_, fun p hp => ?_⟩
      · have hd : depthL x ≠ 0 := fun h' => hc (.inl h')
        unfold depthL at hd
        split at hd
        · rename_i d hq
          exact ⟨d, hq⟩
        · exact absurd rfl hd
      · cases hm : mayP p with
        | true => rfl
        | false =>
          exfalso
          apply hc
          right
          right
          rw [List.any_eq_true]
          exact ⟨p, hp, by rw [hm]; rfl⟩
end Go.Proofs.YtbnelgniekcjdaaGreatDoor
