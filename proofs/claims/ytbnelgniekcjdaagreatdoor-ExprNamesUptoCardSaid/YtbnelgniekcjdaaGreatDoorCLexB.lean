/- The lexer's digits: what a byte is worth; is it a digit? -/
import Derived.Test.YtbnelgniekcjdaaGreatDoorCLexA
set_option linter.unusedSimpArgs false
set_option linter.unusedVariables false
namespace Go.Proofs.YtbnelgniekcjdaaGreatDoor
open Go.RowKit Cap
set_option maxRecDepth 100000

def hexL : List UInt8 := [48, 49, 50, 51, 52, 53, 54, 55, 56, 57, 65, 66, 67, 68, 69, 70]
/-- A byte's worth as a digit. -/
def worthZ (c : UInt8) : Int := if Lib.indexByte hexL (upC c) < 0 then 99 else Lib.indexByte hexL (upC c)
theorem worth_dig (c : UInt8) : decide (worthZ c < 10) = isDig c := by
  have h : ∀ n, n < 256 → decide (worthZ (UInt8.ofNat n) < 10) = isDig (UInt8.ofNat n) := by decide
  have := h c.toNat c.toNat_lt
  rwa [UInt8.ofNat_toNat] at this
theorem worth_num (c : UInt8) (h : isDig c = true) : worthZ c = ((c.toNat - 48 : Nat) : Int) := by
  have h' : ∀ n, n < 256 → isDig (UInt8.ofNat n) = true → worthZ (UInt8.ofNat n) = (((UInt8.ofNat n).toNat - 48 : Nat) : Int) := by decide
  have := h' c.toNat c.toNat_lt
  rw [UInt8.ofNat_toNat] at this
  exact this h
theorem worth_c (c : UInt8) (w : World) : Calls Tryz.prog 106 #[.int .u8 c.toNat] w fun e w' => e = .returned (.int .i64 (worthZ c)) ∧ Below w.heap.size w w' := by
  have hback := fun W (h : ∀ j (hj : j < [c].length), World.cell? W ((⟨w.heap.size, 0, none⟩ : Addr).add j) = some (.int .u8 ([c][j].toNat : Int))) => run_convert_bytes_back (P := Tryz.prog) W 118 9 5 ⟨w.heap.size, 0, none⟩ 1 [c] (by kernel_rfl) (by kernel_rfl) (by kernel_rfl) h
  have hb := hback (w.alloc (.cells #[.int .u8 c.toNat] 5)) (fun j hj => by
    have hj0 : j = 0 := by simpa using hj
    subst hj0
    rw [Addr.add_lit, World.cell?_alloc_at _ _ _ _ rfl]
    rfl)
  have HUP := Lib.hid (fun W => upper_c ⟨[c].toArray⟩ W (by simp [ByteArray.size]))
  have HIX := Lib.hid (fun W : World => show Calls Tryz.prog 127 #[.string ⟨#[48, 49, 50, 51, 52, 53, 54, 55, 56, 57, 65, 66, 67, 68, 69, 70]⟩, .int .u8 (upC c).toNat] W fun e w' => e = .returned (.int .i64 (Lib.indexByte hexL (upC c))) ∧ w' = W from by
    have h := Any.strings_IndexByte Tryz.indexbyte ⟨hexL.toArray⟩ (upC c).toNat W
    rw [show ((upC c).toNat : Int).toNat.toUInt8 = upC c by simp] at h
    exact h)
  have HR := Lib.hid (show worthZ c = if Lib.indexByte hexL (upC c) < 0 then 99 else Lib.indexByte hexL (upC c) from rfl)
  generalize Lib.indexByte hexL (upC c) = ix at HIX HR
  generalize worthZ c = wz at HR ⊢
  clear hback
  rw [show [c].length = 1 from rfl] at hb
  go_enter Tryz.func106, Tryz.ntmps106
  go_wp2_with (first | (go_at_call 51; refine (HUP.out _).mono ?_; rintro e w1 ⟨rfl, hb1⟩))
  refine (HIX.out _).mono ?_
  rintro e w2 ⟨rfl, rfl⟩
  by_cases h0 : ix < 0
  · have HZ := Lib.hid (HR.out.trans (if_pos h0))
    go_wp2
    go_ret
    exact ⟨by rw [HZ.out]; rfl, by (repeat' (first | (with_reducible exact Below.refl _ _) | (with_reducible refine below_alloc ?_) | (with_reducible refine below_drew ?_) | (with_reducible refine below_drewN ?_) | (with_reducible refine below_set (by first | (simp; done) | (simp; omega)) ?_) | (with_reducible refine below_call (by with_reducible assumption) ?_)))⟩
  · have HZ := Lib.hid (HR.out.trans (if_neg h0))
    go_wp2
    go_ret
    exact ⟨by rw [HZ.out]; rfl, by (repeat' (first | (with_reducible exact Below.refl _ _) | (with_reducible refine below_alloc ?_) | (with_reducible refine below_drew ?_) | (with_reducible refine below_drewN ?_) | (with_reducible refine below_set (by first | (simp; done) | (simp; omega)) ?_) | (with_reducible refine below_call (by with_reducible assumption) ?_)))⟩
theorem index_run {s : ByteArray} {i : Nat} {b : UInt8} (h : s.data.toList[i]? = some b) (W : World) : (Instr.index 9 (.string s) (.int .i64 i)).run Tryz.prog W = .ok (.int .u8 b.toNat) W := by
  have hlt : i < s.size := by simpa using (List.getElem?_eq_some_iff.1 h).1
  rw [run_index_string (w := W) 9 s .i64 (i : Int) (by kernel_rfl), dif_pos ⟨Int.natCast_nonneg _, by omega⟩]
  have he : s[(i : Int).toNat]'(by simpa using hlt) = b := by
    have h2 := (List.getElem?_eq_some_iff.1 h).2
    rw [← h2]
    rfl
  rw [he]
/-- Does a digit stand there? -/
def digAt (s : ByteArray) (i : Nat) : Bool := match s.data.toList[i]? with
  | none => false
  | some b => isDig b
set_option maxHeartbeats 4000000 in
theorem isdig_c (xb bx bb : Nat) (s : ByteArray) (a i : Nat) (w : World) (h : Sc xb s a w) (hx : w.heap[bx]? = some (.cells #[.pointer (some ⟨xb, 0, none⟩)] 76 (0, 0))) (hb : w.heap[bb]? = some (.cells #[.int .i64 10] 3 (0, 0))) (hi : i ≤ s.size) :
    Calls Tryz.prog 105 #[.int .i64 i, .pointer (some ⟨bx, 0, none⟩), .pointer (some ⟨bb, 0, none⟩)] w fun e w' => e = .returned (.bool (digAt s i)) ∧ Below w.heap.size w w' := by
  have c0 := cell_of_row _ _ 0 _ _ _ h
  have d0 := cell_of_row _ _ 0 _ _ _ hx
  have e0 := cell_of_row _ _ 0 _ _ _ hb
  simp at c0 d0 e0
  have hi0 : (0 : Int) ≤ (i : Int) := Int.natCast_nonneg _
  have hlt1 := (Array.getElem?_eq_some_iff.1 h).1
  have hlt2 := (Array.getElem?_eq_some_iff.1 hx).1
  have hlt3 := (Array.getElem?_eq_some_iff.1 hb).1
  by_cases hlt : i < s.size
  · obtain ⟨b, hbb⟩ : ∃ b, s.data.toList[i]? = some b := ⟨_, List.getElem?_eq_getElem (by simpa using hlt)⟩
    have HR := Lib.hid (show digAt s i = decide (worthZ b < 10) by unfold digAt; rw [hbb, worth_dig])
    have HK := Lib.hid (show ∀ W, Below w.heap.size w W → (W.cell? ⟨xb, 0, none⟩ = some (.string s) ∧ W.cell? ⟨bx, 0, none⟩ = some (.pointer (some ⟨xb, 0, none⟩)) ∧ W.cell? ⟨bb, 0, none⟩ = some (.int .i64 10)) from fun W hW =>
      ⟨(hW.cell (p := ⟨xb, 0, none⟩) hlt1).trans c0, (hW.cell (p := ⟨bx, 0, none⟩) hlt2).trans d0, (hW.cell (p := ⟨bb, 0, none⟩) hlt3).trans e0⟩)
    have hltz : (i : Int) < (s.size : Int) := by omega
    have HW := Lib.hid (fun W => worth_c b W)
    have hxx := index_run hbb
    clear h hx hb
    go_enter Tryz.func105, Tryz.ntmps105
    go_upto_region 1 with fail
    go_region_held3 (fun W => W.cell? ⟨xb, 0, none⟩ = some (.string s) ∧ W.cell? ⟨bx, 0, none⟩ = some (.pointer (some ⟨xb, 0, none⟩)) ∧ W.cell? ⟨bb, 0, none⟩ = some (.int .i64 10)) (first | exact HK.out _ (by (repeat' (first | (with_reducible exact Below.refl _ _) | (with_reducible refine below_alloc ?_) | (with_reducible refine below_drew ?_) | (with_reducible refine below_drewN ?_) | (with_reducible refine below_set (by first | (simp; done) | (simp; omega)) ?_) | (with_reducible refine below_call (by with_reducible assumption) ?_))))) (first | (go_at_call 106; refine (HW.out _).mono ?_; rintro e w1 ⟨rfl, hb1⟩))
    all_goals
      go_wp2
      go_ret
      exact ⟨by rw [HR.out]; rfl, by (repeat' (first | (with_reducible exact Below.refl _ _) | (with_reducible refine below_alloc ?_) | (with_reducible refine below_drew ?_) | (with_reducible refine below_drewN ?_) | (with_reducible refine below_set (by first | (simp; done) | (simp; omega)) ?_) | (with_reducible refine below_call (by with_reducible assumption) ?_)))⟩
  · obtain rfl : i = s.size := by omega
    have hltz : ¬ (s.size : Int) < (s.size : Int) := by omega
    have HR := Lib.hid (show digAt s s.size = false by unfold digAt; rw [List.getElem?_eq_none (by simp)])
    clear h hx hb
    go_enter Tryz.func105, Tryz.ntmps105
    go_upto_region 1 with fail
    go_quiet (fail)
    go_wp2
    go_ret
    exact ⟨by rw [HR.out]; rfl, by (repeat' (first | (with_reducible exact Below.refl _ _) | (with_reducible refine below_alloc ?_) | (with_reducible refine below_drew ?_) | (with_reducible refine below_drewN ?_) | (with_reducible refine below_set (by first | (simp; done) | (simp; omega)) ?_) | (with_reducible refine below_call (by with_reducible assumption) ?_)))⟩
end Go.Proofs.YtbnelgniekcjdaaGreatDoor
