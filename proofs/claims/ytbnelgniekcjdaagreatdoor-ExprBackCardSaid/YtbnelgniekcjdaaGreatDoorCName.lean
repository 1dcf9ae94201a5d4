/- expr.word and expr.Name: what each call answers. -/
import Derived.Test.YtbnelgniekcjdaaGreatDoorCKit
import Derived.Test.YtbnelgniekcjdaaGreatDoorShelf
set_option linter.unusedSimpArgs false
set_option linter.unusedVariables false
namespace Go.Proofs.YtbnelgniekcjdaaGreatDoor
open Go.RowKit Cap

/-- What the package-level variables hold that the code reads: one of the library's own, of which nothing is known but that it is a number. -/
def G (w : World) : Prop := ∃ m, w.cell? ⟨4, 0, none⟩ = some (.int .i64 m)
theorem G.below {w w' : World} (h : G w) (hb : Below w.heap.size w w') : G w' := by
  obtain ⟨m, hm⟩ := h
  exact ⟨m, (hb.cell (World.block_lt_of_cell? w _ hm)).trans hm⟩

theorem toList_nil (s : ByteArray) : s.toList = s.data.toList := Lib.toList_data s

set_option maxRecDepth 100000
set_option maxHeartbeats 1000000 in
theorem word_c (s : ByteArray) (w : World) (hG : G w) (hs : s.size ≤ 140737488351232) :
    Calls Tryz.prog 44 #[.string s] w fun e w' => e = .returned (.bool (isWord s)) ∧ Below w.heap.size w w' := by
  have hT := Any.strings_Trim_laid Tryz.lays160 (by kernel_rfl) s ⟨wordBytes.toArray⟩ w (by omega) (by decide) (Go.Proofs.ascii_of_all (by decide))
  change Calls Tryz.prog 67 _ _ _ at hT
  have hC : ∀ W, Below w.heap.size w W → Calls Tryz.prog 66 #[.string ⟨numBytes.toArray⟩, .string (s.extract 0 1)] W fun e w' => e = .returned (.bool (Lib.contains numBytes (s.data.toList.take 1))) ∧ w' = W := fun W hb => by
    obtain ⟨m, hm⟩ := hG.below hb
    have h := Any.strings_Contains Tryz.lays144 ⟨numBytes.toArray⟩ (s.extract 0 1) m W (by decide) hm
    rw [Lib.extract_data] at h
    exact h
  clear hG
  by_cases he : s.toList = []
  · go_enter Tryz.func44, Tryz.ntmps44
    go_wp2_with fail
    go_ret
    exact ⟨ret_b (by simp [isWord, he]), Below.refl _ _⟩
  have he' : s.toList.isEmpty = false := by
    cases h : s.toList with
    | nil => exact absurd h he
    | cons => rfl
  by_cases hl : s.size ≤ 24
  rotate_left
  · have hl' : ¬ (s.size : Int) ≤ 24 := by omega
    go_enter Tryz.func44, Tryz.ntmps44
    go_wp2_with fail
    go_ret
    exact ⟨ret_b (by simp [isWord, hl]), Below.refl _ _⟩
  have hl' : (s.size : Int) ≤ 24 := by omega
  have hn1 : 1 ≤ s.size := by
    rw [Lib.size_eq, ← Lib.toList_data]
    cases h : s.toList with
    | nil => exact absurd h he
    | cons => simp
  have hW : isWord s = ((Lib.trimS s.data.toList wordBytes).isEmpty && !(Lib.contains numBytes (s.data.toList.take 1))) := by simp [isWord, he', hl]
  have HW := Lib.hid hW
  clear hW
  generalize hL : Lib.trimS s.data.toList wordBytes = L at hT
  have HL := Lib.hid hL
  clear hL he
  cases L with
  | cons a l =>
    go_enter Tryz.func44, Tryz.ntmps44
    go_wp2_with (go_at_call 67; refine hT.mono ?_; rintro e w1 ⟨rfl, hb⟩)
    go_ret
    exact ⟨ret_b (by rw [HW.out, HL.out]; rfl), hb⟩
  | nil =>
    generalize hc : Lib.contains numBytes (s.data.toList.take 1) = c at hC
    have HC := Lib.hid hc
    clear hc
    have HC2 := Lib.hid hC
    clear hC
    go_enter Tryz.func44, Tryz.ntmps44
    go_wp2_with (first | (go_at_call 67; refine hT.mono ?_; rintro e w1 ⟨rfl, hb⟩) | (go_at_call 66; refine (HC2.out _ hb).mono ?_; rintro e w1 ⟨rfl, rfl⟩))
    go_ret
    exact ⟨ret_b (by rw [HW.out, HL.out, HC.out]; rfl), hb⟩

set_option maxHeartbeats 1000000 in
theorem name_c (s : ByteArray) (w : World) (hG : G w) (hs : s.size ≤ 140737488351232) :
    Calls Tryz.prog 43 #[.string s] w fun e w' => e = .returned (.bool (isName s)) ∧ Below w.heap.size w w' := by
  have hC : ∀ W, Below w.heap.size w W → Calls Tryz.prog 66 #[.string ⟨kwBytes.toArray⟩, .string ((⟨#[32]⟩ : ByteArray) ++ s ++ ⟨#[32]⟩)] W fun e w' => e = .returned (.bool (Lib.contains kwBytes (32 :: s.data.toList ++ [32]))) ∧ w' = W := fun W hb => by
    obtain ⟨m, hm⟩ := hG.below hb
    have h := Any.strings_Contains Tryz.lays144 ⟨kwBytes.toArray⟩ ((⟨#[32]⟩ : ByteArray) ++ s ++ ⟨#[32]⟩) m W (by decide) hm
    rw [show ((⟨#[32]⟩ : ByteArray) ++ s ++ ⟨#[32]⟩).data.toList = 32 :: s.data.toList ++ [32] from by simp [ByteArray.data_append]] at h
    exact h
  cases hw : isWord s with
  | false =>
    go_enter Tryz.func43, Tryz.ntmps43
    go_wp2_with (go_at_call 44; refine (word_c _ _ hG hs).mono ?_; rintro e w1 ⟨rfl, hb⟩)
    go_ret
    exact ⟨ret_b (by simp [isName, hw]), by assumption⟩
  | true =>
    go_enter Tryz.func43, Tryz.ntmps43
    go_wp2_with (go_at_call 44; refine (word_c _ _ hG hs).mono ?_; rintro e w1 ⟨rfl, hb⟩)
    refine (hC _ hb).mono ?_
    rintro e w1 ⟨rfl, rfl⟩
    go_wp2
    go_ret
    exact ⟨ret_b (by simp [isName, hw]), by assumption⟩
end Go.Proofs.YtbnelgniekcjdaaGreatDoor
