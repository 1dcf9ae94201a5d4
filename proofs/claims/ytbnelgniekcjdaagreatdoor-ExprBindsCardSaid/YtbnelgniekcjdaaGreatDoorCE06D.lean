/- capstanlaw06.ExprBinds: how operations bind, plainly: each two operations. -/
import Derived.Test.YtbnelgniekcjdaaGreatDoorCE06A
set_option linter.unusedSimpArgs false
set_option linter.unusedVariables false
namespace Cap
open Go Go.RowKit
set_option maxRecDepth 1000000
def opsP : List (ByteArray × Int) := [(⟨#[79, 82]⟩, 0), (⟨#[88, 79, 82]⟩, 1), (⟨#[65, 78, 68]⟩, 2), (⟨#[38]⟩, 2), (⟨#[61]⟩, 3), (⟨#[60, 62]⟩, 3), (⟨#[60]⟩, 4), (⟨#[60, 61]⟩, 4), (⟨#[62]⟩, 4), (⟨#[62, 61]⟩, 4), (⟨#[43]⟩, 5), (⟨#[45]⟩, 5), (⟨#[42]⟩, 6), (⟨#[47]⟩, 6), (⟨#[77, 79, 68]⟩, 6)]
def txtX (u v : ByteArray) : ByteArray := ⟨#[112, 32]⟩ ++ u ++ ⟨#[32, 113, 32]⟩ ++ v ++ ⟨#[32, 114]⟩
def txtL (u v : ByteArray) : ByteArray := ⟨#[40, 112, 32]⟩ ++ u ++ ⟨#[32, 113, 41, 32]⟩ ++ v ++ ⟨#[32, 114]⟩
def txtR (u v : ByteArray) : ByteArray := ⟨#[112, 32]⟩ ++ u ++ ⟨#[32, 40, 113, 32]⟩ ++ v ++ ⟨#[32, 114, 41]⟩
def bindOk (u v : ByteArray) (m n : Int) : Bool := match readS (txtX u v), readS (txtL u v), readS (txtR u v) with
  | some x, some l, some r => !sameP l r && (if m < n then sameP x r else sameP x l)
  | _, _, _ => false
theorem bind_0 : opsP.all (fun b => bindOk ⟨#[79, 82]⟩ b.1 0 b.2) = true := by kernel_rfl
theorem bind_1 : opsP.all (fun b => bindOk ⟨#[88, 79, 82]⟩ b.1 1 b.2) = true := by kernel_rfl
theorem bind_2 : opsP.all (fun b => bindOk ⟨#[65, 78, 68]⟩ b.1 2 b.2) = true := by kernel_rfl
theorem bind_3 : opsP.all (fun b => bindOk ⟨#[38]⟩ b.1 2 b.2) = true := by kernel_rfl
theorem bind_4 : opsP.all (fun b => bindOk ⟨#[61]⟩ b.1 3 b.2) = true := by kernel_rfl
theorem bind_5 : opsP.all (fun b => bindOk ⟨#[60, 62]⟩ b.1 3 b.2) = true := by kernel_rfl
theorem bind_6 : opsP.all (fun b => bindOk ⟨#[60]⟩ b.1 4 b.2) = true := by kernel_rfl
theorem bind_7 : opsP.all (fun b => bindOk ⟨#[60, 61]⟩ b.1 4 b.2) = true := by kernel_rfl
theorem bind_8 : opsP.all (fun b => bindOk ⟨#[62]⟩ b.1 4 b.2) = true := by kernel_rfl
theorem bind_9 : opsP.all (fun b => bindOk ⟨#[62, 61]⟩ b.1 4 b.2) = true := by kernel_rfl
theorem bind_10 : opsP.all (fun b => bindOk ⟨#[43]⟩ b.1 5 b.2) = true := by kernel_rfl
theorem bind_11 : opsP.all (fun b => bindOk ⟨#[45]⟩ b.1 5 b.2) = true := by kernel_rfl
theorem bind_12 : opsP.all (fun b => bindOk ⟨#[42]⟩ b.1 6 b.2) = true := by kernel_rfl
theorem bind_13 : opsP.all (fun b => bindOk ⟨#[47]⟩ b.1 6 b.2) = true := by kernel_rfl
theorem bind_14 : opsP.all (fun b => bindOk ⟨#[77, 79, 68]⟩ b.1 6 b.2) = true := by kernel_rfl
theorem binds_all : ∀ a ∈ opsP, opsP.all (fun b => bindOk a.1 b.1 a.2 b.2) = true :=
  (List.forall_mem_cons.2 ⟨bind_0, (List.forall_mem_cons.2 ⟨bind_1, (List.forall_mem_cons.2 ⟨bind_2, (List.forall_mem_cons.2 ⟨bind_3, (List.forall_mem_cons.2 ⟨bind_4, (List.forall_mem_cons.2 ⟨bind_5, (List.forall_mem_cons.2 ⟨bind_6, (List.forall_mem_cons.2 ⟨bind_7, (List.forall_mem_cons.2 ⟨bind_8, (List.forall_mem_cons.2 ⟨bind_9, (List.forall_mem_cons.2 ⟨bind_10, (List.forall_mem_cons.2 ⟨bind_11, (List.forall_mem_cons.2 ⟨bind_12, (List.forall_mem_cons.2 ⟨bind_13, (List.forall_mem_cons.2 ⟨bind_14, (fun _ h => by cases h)⟩)⟩)⟩)⟩)⟩)⟩)⟩)⟩)⟩)⟩)⟩)⟩)⟩)⟩)⟩)
theorem bind_at {i k : Nat} {u v : ByteArray} {m n : Int} (hi : opsP[i]? = some (u, m)) (hk : opsP[k]? = some (v, n)) :
    ∃ x l r, readS (txtX u v) = some x ∧ readS (txtL u v) = some l ∧ readS (txtR u v) = some r ∧ sameP l r = false ∧ (if m < n then sameP x r else sameP x l) = true := by
  have h := List.all_eq_true.1 (binds_all _ (List.mem_of_getElem? hi)) _ (List.mem_of_getElem? hk)
  simp only at h
  unfold bindOk at h
  split at h
  · rename_i x l r h1 h2 h3
    rw [Bool.and_eq_true] at h
    exact ⟨x, l, r, h1, h2, h3, by simpa using h.1, h.2⟩
  · cases h
theorem opsP_len : opsP.length = 15 := rfl
theorem opsP_size : ∀ a ∈ opsP, a.1.size ≤ 3 := by decide
end Cap
