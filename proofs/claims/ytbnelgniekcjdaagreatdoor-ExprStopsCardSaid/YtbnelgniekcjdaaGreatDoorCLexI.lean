/- The lexer's one token, plainly. -/
import Derived.Test.YtbnelgniekcjdaaGreatDoorCLexH
set_option linter.unusedSimpArgs false
set_option linter.unusedVariables false
namespace Go.Proofs.YtbnelgniekcjdaaGreatDoor
open Go.RowKit Cap
set_option maxRecDepth 1000000

theorem signL_len {q s0 : List UInt8} (h : signL q = some s0) : 1 ≤ s0.length ∧ s0.length ≤ q.length := by
  unfold signL at h
  have h1 := List.mem_of_find?_eq_some h
  have h2 := List.find?_some h
  have h3 : ∀ x ∈ signs2 ++ signs1, 1 ≤ x.length := by decide
  exact ⟨h3 _ h1, (List.isPrefixOf_iff_prefix.1 h2).length_le⟩
theorem oneS_len {q : List UInt8} {t : Tok} {n : Nat} (h : oneS q = some (t, n)) : 1 ≤ n ∧ n ≤ q.length ∧ t.pos = 0 := by
  unfold oneS at h
  split at h
  · cases h
  · rename_i c q'
    split at h
    · rename_i hl
      simp only at h
      split at h
      · cases h
      · cases h
        refine ⟨?_, take_while_le _ _, rfl⟩
        rw [List.takeWhile_cons_of_pos (by rw [hl]; rfl)]
        simp
    · split at h
      · rename_i hd
        simp only at h
        split at h
        · cases h
        · cases h
          refine ⟨?_, take_while_le _ _, rfl⟩
          rw [List.takeWhile_cons_of_pos hd]
          simp
      · split at h
        · cases h
        · rename_i s0 hs
          cases h
          exact ⟨(signL_len hs).1, (signL_len hs).2, rfl⟩
theorem one_c (xb : Nat) (s : ByteArray) (a : Nat) (w : World) (h : Sc xb s a w) (hs : s.size ≤ 70000) (hG : GL w) (t : Tok) (n : Nat) (ho : oneS (s.data.toList.drop a) = some (t, n)) :
    Calls Tryz.prog 30 #[.pointer (some ⟨xb, 0, none⟩)] w fun e w' => e = .returned (.tuple #[tokV t, .bool true]) ∧ Ch xb w w' ∧ Sc xb s (a + n) w' := by
  obtain ⟨q, hq⟩ : ∃ q, s.data.toList.drop a = q := ⟨_, rfl⟩
  rw [hq] at ho
  have hat : ∀ m, (q.drop m).head? = s.data.toList[a + m]? := fun m => by rw [← hq, List.head?_drop, List.getElem?_drop]
  unfold oneS at ho
  split at ho
  · cases ho
  · rename_i c q'
    have hc : s.data.toList[a]? = some c := by
      have := hat 0
      simpa using this.symm
    split at ho
    · rename_i hl
      simp only at ho
      split at ho
      · cases ho
      · rename_i hno
        cases ho
        simp only [not_or] at hno
        refine one_word xb s a w h hs c hc hl _ (by rw [hq]; rfl) (by have := hno.1; omega) ?_
        rw [← hat]
        exact hno.2
    · rename_i hl
      split at ho
      · rename_i hd
        simp only at ho
        split at ho
        · cases ho
        · rename_i hno
          cases ho
          simp only [not_or] at hno
          refine one_num xb s a w h hs c hc (by simpa using hl) hd _ (by rw [hq]) (by have := hno.1; omega) ?_ ?_
          · rw [← hat]; exact hno.2.2
          · rw [← hat]; exact hno.2.1
      · rename_i hd
        split at ho
        · cases ho
        · rename_i s0 hs0
          cases ho
          exact one_sign xb s a w h hs hG c hc (by simpa using hl) (by simpa using hd) s0 (by rw [hq]; exact hs0)
theorem info_tok : InfoIs Tryz.prog 38 (.agg #[.int .i64 0, .string ⟨#[]⟩, .int .i64 0, .int .i64 0, .int .i64 0]) 5 48 := by unfold InfoIs; kernel_rfl
theorem one_Tok (t : Tok) : ∀ u ∈ encTok t, u.oneCell' = true := fun u hu => by
  simp [encTok] at hu
  rcases hu with rfl | rfl | rfl | rfl | rfl <;> rfl
end Go.Proofs.YtbnelgniekcjdaaGreatDoor
