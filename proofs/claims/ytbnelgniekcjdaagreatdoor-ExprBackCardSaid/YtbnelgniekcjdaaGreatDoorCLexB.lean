/- The lexer's small functions: letter, digit, rest, Upper. -/
import Derived.Test.YtbnelgniekcjdaaGreatDoorCLSpec
import Derived.Test.YtbnelgniekcjdaaGreatDoorCRd
import Derived.Test.YtbnelgniekcjdaaGreatDoorCRdH
import Derived.Laws.IdiomStrings
set_option linter.unusedSimpArgs false
set_option linter.unusedVariables false
namespace Go.Proofs.YtbnelgniekcjdaaGreatDoor
open Go.RowKit Cap
set_option maxRecDepth 100000

theorem isLet_eq (c : UInt8) : isLet c = ((decide ((97 : Int) ≤ c.toNat) && decide ((c.toNat : Int) ≤ 122)) || (decide ((65 : Int) ≤ c.toNat) && decide ((c.toNat : Int) ≤ 90)) || ((c.toNat : Int) == 95)) := by
  unfold isLet
  rw [Bool.eq_iff_iff]
  simp only [Bool.or_eq_true, Bool.and_eq_true, decide_eq_true_eq, beq_iff_eq, UInt8.le_iff_toNat_le, ← UInt8.toNat_inj]
  simp
  omega
theorem isDig_eq (c : UInt8) : isDig c = (decide ((48 : Int) ≤ c.toNat) && decide ((c.toNat : Int) ≤ 57)) := by
  unfold isDig
  rw [Bool.eq_iff_iff]
  simp only [Bool.and_eq_true, decide_eq_true_eq, UInt8.le_iff_toNat_le]
  simp
  omega
theorem letter_c (c : UInt8) (w : World) : Calls Tryz.prog 49 #[.int .u8 c.toNat] w fun e w' => e = .returned (.bool (isLet c)) ∧ w' = w := by
  have HR := Lib.hid (isLet_eq c)
  generalize isLet c = L at HR ⊢
  go_enter Tryz.func49, Tryz.ntmps49
  go_wp2
  all_goals go_ret
  all_goals exact ⟨ret_b (by rw [HR.out, Bool.eq_iff_iff]; simp; omega), rfl⟩
theorem digit_c (c : UInt8) (w : World) : Calls Tryz.prog 50 #[.int .u8 c.toNat] w fun e w' => e = .returned (.bool (isDig c)) ∧ w' = w := by
  have HR := Lib.hid (isDig_eq c)
  generalize isDig c = L at HR ⊢
  go_enter Tryz.func50, Tryz.ntmps50
  go_wp2
  all_goals go_ret
  all_goals exact ⟨ret_b (by rw [HR.out, Bool.eq_iff_iff]; simp; try omega), rfl⟩
/-- The scanner, as it lies. -/
def Sc (xb : Nat) (s : ByteArray) (a : Nat) (w : World) : Prop := w.heap[xb]? = some (.cells #[.string s, .int .i64 a] 78 (0, 0))
theorem rest_c (xb : Nat) (s : ByteArray) (a : Nat) (w : World) (h : Sc xb s a w) (ha : a ≤ s.size) : Calls Tryz.prog 46 #[.pointer (some ⟨xb, 0, none⟩)] w fun e w' => e = .returned (.string (s.extract a s.size)) ∧ Below w.heap.size w w' := by
  have c0 := cell_of_row _ _ 0 _ _ _ h
  have c1 := cell_of_row _ _ 1 _ _ _ h
  simp at c0 c1
  go_enter Tryz.func46, Tryz.ntmps46
  go_upto_region 1 with fail
  go_quiet (fail)
  go_wp2
  go_ret
  exact ⟨rfl, by (repeat' (first | (with_reducible exact Below.refl _ _) | (with_reducible refine below_alloc ?_) | (with_reducible refine below_drew ?_) | (with_reducible refine below_drewN ?_) | (with_reducible refine below_set (by first | (simp; done) | (simp; omega)) ?_) | (with_reducible refine below_call (by with_reducible assumption) ?_)))⟩
/-- The row of a text's bytes behind k of them have been raised. -/
structure UpSt (w : World) (B : Nat) (l : List UInt8) (k : Nat) (wr : World) : Prop where
  b0 : Below w.heap.size w wr
  row : ∃ C m, wr.heap[B]? = some (.cells C 5 (m, m + 1)) ∧ C.size = m ∧ l.length ≤ m ∧ ∀ (j : Nat) (b : UInt8), l[j]? = some b → C[j]? = some (.int .u8 ((if j < k then upC b else b).toNat : Int))
theorem UpSt.get {w : World} {B : Nat} {l : List UInt8} {k : Nat} {wr : World} (h : UpSt w B l k wr) {j : Nat} {b : UInt8} (hj : l[j]? = some b) : wr.cell? ⟨B, j, none⟩ = some (.int .u8 ((if j < k then upC b else b).toNat : Int)) ∧ wr.frozen? ⟨B, j, none⟩ = false := by
  obtain ⟨C, m, h1, h2, h3, h4⟩ := h.row
  have hlt := (List.getElem?_eq_some_iff.1 hj).1
  exact ⟨by rw [cell_of_row _ _ _ _ _ _ h1]; exact h4 j b hj, by simp [World.frozen?, h1]; omega⟩
theorem UpSt.skip {w : World} {B : Nat} {l : List UInt8} {k : Nat} {wr : World} (h : UpSt w B l k wr) {b : UInt8} (hb : l[k]? = some b) (hu : upC b = b) : UpSt w B l (k + 1) wr := by
  obtain ⟨C, m, h1, h2, h3, h4⟩ := h.row
  refine ⟨h.b0, C, m, h1, h2, h3, fun j b' hj => ?_⟩
  rw [h4 j b' hj]
  by_cases hjk : j = k
  · subst hjk
    rw [hb] at hj
    cases hj
    simp [hu]
  · by_cases hlt : j < k
    · rw [if_pos hlt, if_pos (by omega)]
    · rw [if_neg hlt, if_neg (by omega)]
theorem heap_setCell_fr (w : World) (g i : Nat) (cs : Array Value) (t : TypeId) (fr : Nat × Nat) (v : Value) (hg : w.heap[g]? = some (.cells cs t fr)) :
    (w.setCell ⟨g, i, none⟩ v).heap[g]? = some (.cells (cs.setIfInBounds i v) t fr) := by
  rw [setCell_eq_setRow w g i cs t fr v hg]
  exact setRow_heap w g cs _ t _ hg
theorem UpSt.set {w : World} {B : Nat} {l : List UInt8} {k : Nat} {wr : World} (hB : w.heap.size ≤ B) (h : UpSt w B l k wr) {b : UInt8} (hb : l[k]? = some b) : UpSt w B l (k + 1) (wr.setCell ⟨B, k, none⟩ (.int .u8 ((upC b).toNat : Int))) := by
  obtain ⟨C, m, h1, h2, h3, h4⟩ := h.row
  refine ⟨below_set hB h.b0, C.setIfInBounds k (.int .u8 ((upC b).toNat : Int)), m, heap_setCell_fr wr B k _ _ _ _ h1, by simp [h2], h3, fun j b' hj => ?_⟩
  have hlt := (List.getElem?_eq_some_iff.1 hj).1
  by_cases hjk : j = k
  · subst hjk
    rw [hb] at hj
    cases hj
    rw [Array.getElem?_setIfInBounds_self_of_lt (by omega)]
    simp
  · rw [Array.getElem?_setIfInBounds_ne (by omega), h4 j b' hj]
    by_cases hlt : j < k
    · rw [if_pos hlt, if_pos (by omega)]
    · rw [if_neg hlt, if_neg (by omega)]
set_option maxHeartbeats 4000000 in
theorem upper_c (s : ByteArray) (w : World) (hs : s.size ≤ 70000) : Calls Tryz.prog 51 #[.string s] w fun e w' => e = .returned (.string ⟨(s.data.toList.map upC).toArray⟩) ∧ Below w.heap.size w w' := by
  have hcv : ∀ W : World, (convert 9 118 (.string s)).run Tryz.prog W = _ := fun W => run_bytes_of_string W 9 118 5 s (by kernel_rfl) (by kernel_rfl) (by kernel_rfl)
  obtain ⟨n, hn⟩ : ∃ n, s.size = n := ⟨_, rfl⟩
  have hs0 : UpSt w w.heap.size s.data.toList 0 (w.alloc (.cells (bytesRow s (grownCap w s.size 0 5)) 5 ((bytesRow s (grownCap w s.size 0 5)).size, (bytesRow s (grownCap w s.size 0 5)).size + 1))).drew := by
    refine ⟨by (repeat' (first | (with_reducible exact Below.refl _ _) | (with_reducible refine below_alloc ?_) | (with_reducible refine below_drew ?_) | (with_reducible refine below_drewN ?_) | (with_reducible refine below_set (by first | (simp; done) | (simp; omega)) ?_) | (with_reducible refine below_call (by with_reducible assumption) ?_))), _, _, heap_alloc_new w _, rfl, ?_, fun j b hj => ?_⟩
    · simp only [bytesRow, Array.size_append, Array.size_map, Array.length_toList]
      omega
    · have hlt := (List.getElem?_eq_some_iff.1 hj).1
      rw [if_neg (by omega)]
      unfold bytesRow
      rw [Array.getElem?_append_left (by simpa using hlt)]
      simp at hj
      simp [hj]
  have hlen : s.data.toList.length = n := by rw [← hn]; simp
  have HL := Lib.hid hlen
  have HA := Lib.hid (show ∀ k, k < n → ∃ b, s.data.toList[k]? = some b from fun k hk => ⟨s.data.toList[k]'(by omega), List.getElem?_eq_getElem (by omega)⟩)
  rw [hn] at hcv hs hs0
  have HS0 := Lib.hid hs0
  obtain ⟨gc, hgc⟩ : ∃ gc, grownCap w n 0 5 = gc := ⟨_, rfl⟩
  have HGC := Lib.hid hgc
  clear hs0 hlen hn hgc
  have hn0 : (0 : Int) ≤ (n : Int) := Int.natCast_nonneg _
  go_enter Tryz.func51, Tryz.ntmps51
  go_upto_region 2 with fail
  go_wp2
  go_loopg [10] n (fun gg s10 wr => ∃ k : Nat, s10 = .int .i64 k ∧ k ≤ n ∧ n - k ≤ gg ∧ Aside (UpSt w w.heap.size s.data.toList k wr))
  case atStart => exact ⟨0, rfl, Nat.zero_le _, by omega, HS0.out⟩
  case round =>
    obtain ⟨k, rfl, hk, hg, HU⟩ := hrel
    have hk0 : (0 : Int) ≤ (k : Int) := Int.natCast_nonneg _
    by_cases hlt : k < n
    · obtain ⟨b, hb⟩ := HA.out k hlt
      obtain ⟨c0, f0⟩ := HU.out.get hb
      rw [if_neg (Nat.lt_irrefl k)] at c0
      have HB := Lib.hid hb
      have hb8 : (b.toNat : Int) < 256 := by have := b.toNat_lt; omega
      have hb0 : (0 : Int) ≤ (b.toNat : Int) := Int.natCast_nonneg _
      have hltz : (k : Int) < (n : Int) := by omega
      clear hb
      by_cases h1 : (97 : Int) ≤ b.toNat
      · by_cases h2 : (b.toNat : Int) ≤ 122
        · have HUP := Lib.hid (show ((upC b).toNat : Int) = b.toNat - 97 + 65 by
            unfold upC
            rw [if_pos (by simp only [Bool.and_eq_true, decide_eq_true_eq, UInt8.le_iff_toNat_le]; simp; omega)]
            simp [UInt8.toNat_add, UInt8.toNat_sub]
            omega)
          go_wp2
          go_roundg (n - (k + 1))
          case measure => omega
          case rel => exact ⟨k + 1, by go_num, by omega, by omega, (show UpSt _ _ _ _ _ from by rw [← HUP.out]; exact HU.out.set (Nat.le_refl _) HB.out)⟩
        · have HUP := Lib.hid (show upC b = b by
            unfold upC
            rw [if_neg (by simp only [Bool.and_eq_true, decide_eq_true_eq, UInt8.le_iff_toNat_le]; simp; omega)])
          go_wp2
          go_roundg (n - (k + 1))
          case measure => omega
          case rel => exact ⟨k + 1, by go_num, by omega, by omega, (show UpSt _ _ _ _ _ from HU.out.skip HB.out HUP.out)⟩
      · have HUP := Lib.hid (show upC b = b by
          unfold upC
          rw [if_neg (by simp only [Bool.and_eq_true, decide_eq_true_eq, UInt8.le_iff_toNat_le]; simp; omega)])
        go_wp2
        go_roundg (n - (k + 1))
        case measure => omega
        case rel => exact ⟨k + 1, by go_num, by omega, by omega, (show UpSt _ _ _ _ _ from HU.out.skip HB.out HUP.out)⟩
    · obtain rfl : k = n := by omega
      have hltz : ¬ (k : Int) < (k : Int) := by omega
      have hback := run_convert_bytes_back (P := Tryz.prog) wr 118 9 5 ⟨w.heap.size, 0, none⟩ (grownCap w k 0 5) (s.data.toList.map upC) (by kernel_rfl) (by kernel_rfl) (by kernel_rfl) (fun j hj => by
        rw [List.length_map] at hj
        have h := (HU.out.get (List.getElem?_eq_getElem hj)).1
        rw [if_pos (by have := HL.out; omega)] at h
        rw [List.getElem_map, Addr.add_lit, Nat.zero_add]
        exact h)
      rw [List.length_map, HL.out] at hback
      have HB0 := Lib.hid HU.out.b0
      go_wp2
      go_ret
      exact ⟨rfl, HB0.out⟩
end Go.Proofs.YtbnelgniekcjdaaGreatDoor

/- The lexer's digits: what a byte is worth; is it a digit? -/
namespace Go.Proofs.YtbnelgniekcjdaaGreatDoor
open Go.RowKit Cap
set_option maxRecDepth 100000

def hexL : List UInt8 := [48, 49, 50, 51, 52, 53, 54, 55, 56, 57, 65, 66, 67, 68, 69, 70]
/-- A byte's worth as a digit. -/
def worthZ (c : UInt8) : Int := if Lib.indexByte hexL (upC c) < 0 then 99 else Lib.indexByte hexL (upC c)
theorem worth_dig (c : UInt8) : decide (worthZ c < 10) = isDig c := by
  have h : ∀ n, n < 256 → decide (worthZ (UInt8.ofNat n) < 10) = isDig (UInt8.ofNat n) := by decide
  have := h c.toNat c.toNat_lt
  rwa [UInt8.ofNat_toNat] at this
theorem worth_num (c : UInt8) (h : isDig c = true) : worthZ c = ((c.toNat - 48 : Nat) : Int) := by
  have h' : ∀ n, n < 256 → isDig (UInt8.ofNat n) = true → worthZ (UInt8.ofNat n) = (((UInt8.ofNat n).toNat - 48 : Nat) : Int) := by decide
  have := h' c.toNat c.toNat_lt
  rw [UInt8.ofNat_toNat] at this
  exact this h
theorem worth_c (c : UInt8) (w : World) : Calls Tryz.prog 106 #[.int .u8 c.toNat] w fun e w' => e = .returned (.int .i64 (worthZ c)) ∧ Below w.heap.size w w' := by
  have hback := fun W (h : ∀ j (hj : j < [c].length), World.cell? W ((⟨w.heap.size, 0, none⟩ : Addr).add j) = some (.int .u8 ([c][j].toNat : Int))) => run_convert_bytes_back (P := Tryz.prog) W 118 9 5 ⟨w.heap.size, 0, none⟩ 1 [c] (by kernel_rfl) (by kernel_rfl) (by kernel_rfl) h
  have hb := hback (w.alloc (.cells #[.int .u8 c.toNat] 5)) (fun j hj => by
    have hj0 : j = 0 := by simpa using hj
    subst hj0
    rw [Addr.add_lit, World.cell?_alloc_at _ _ _ _ rfl]
    rfl)
  have HUP := Lib.hid (fun W => upper_c ⟨[c].toArray⟩ W (by simp [ByteArray.size]))
  have HIX := Lib.hid (fun W : World => show Calls Tryz.prog 127 #[.string ⟨#[48, 49, 50, 51, 52, 53, 54, 55, 56, 57, 65, 66, 67, 68, 69, 70]⟩, .int .u8 (upC c).toNat] W fun e w' => e = .returned (.int .i64 (Lib.indexByte hexL (upC c))) ∧ w' = W from by
    have h := Any.strings_IndexByte Tryz.indexbyte ⟨hexL.toArray⟩ (upC c).toNat W
    rw [show ((upC c).toNat : Int).toNat.toUInt8 = upC c by simp] at h
    exact h)
  have HR := Lib.hid (show worthZ c = if Lib.indexByte hexL (upC c) < 0 then 99 else Lib.indexByte hexL (upC c) from rfl)
  generalize Lib.indexByte hexL (upC c) = ix at HIX HR
  generalize worthZ c = wz at HR ⊢
  clear hback
  rw [show [c].length = 1 from rfl] at hb
  go_enter Tryz.func106, Tryz.ntmps106
  go_wp2_with (first | (go_at_call 51; refine (HUP.out _).mono ?_; rintro e w1 ⟨rfl, hb1⟩))
  refine (HIX.out _).mono ?_
  rintro e w2 ⟨rfl, rfl⟩
  by_cases h0 : ix < 0
  · have HZ := Lib.hid (HR.out.trans (if_pos h0))
    go_wp2
    go_ret
    exact ⟨by rw [HZ.out]; rfl, by (repeat' (first | (with_reducible exact Below.refl _ _) | (with_reducible refine below_alloc ?_) | (with_reducible refine below_drew ?_) | (with_reducible refine below_drewN ?_) | (with_reducible refine below_set (by first | (simp; done) | (simp; omega)) ?_) | (with_reducible refine below_call (by with_reducible assumption) ?_)))⟩
  · have HZ := Lib.hid (HR.out.trans (if_neg h0))
    go_wp2
    go_ret
    exact ⟨by rw [HZ.out]; rfl, by (repeat' (first | (with_reducible exact Below.refl _ _) | (with_reducible refine below_alloc ?_) | (with_reducible refine below_drew ?_) | (with_reducible refine below_drewN ?_) | (with_reducible refine below_set (by first | (simp; done) | (simp; omega)) ?_) | (with_reducible refine below_call (by with_reducible assumption) ?_)))⟩
theorem index_run {s : ByteArray} {i : Nat} {b : UInt8} (h : s.data.toList[i]? = some b) (W : World) : (Instr.index 9 (.string s) (.int .i64 i)).run Tryz.prog W = .ok (.int .u8 b.toNat) W := by
  have hlt : i < s.size := by simpa using (List.getElem?_eq_some_iff.1 h).1
  rw [run_index_string (w := W) 9 s .i64 (i : Int) (by kernel_rfl), dif_pos ⟨Int.natCast_nonneg _, by omega⟩]
  have he : s[(i : Int).toNat]'(by simpa using hlt) = b := by
    have h2 := (List.getElem?_eq_some_iff.1 h).2
    rw [← h2]
    rfl
  rw [he]
/-- Does a digit stand there? -/
def digAt (s : ByteArray) (i : Nat) : Bool := match s.data.toList[i]? with
  | none => false
  | some b => isDig b
set_option maxHeartbeats 4000000 in
theorem isdig_c (xb bx bb : Nat) (s : ByteArray) (a i : Nat) (w : World) (h : Sc xb s a w) (hx : w.heap[bx]? = some (.cells #[.pointer (some ⟨xb, 0, none⟩)] 76 (0, 0))) (hb : w.heap[bb]? = some (.cells #[.int .i64 10] 3 (0, 0))) (hi : i ≤ s.size) :
    Calls Tryz.prog 105 #[.int .i64 i, .pointer (some ⟨bx, 0, none⟩), .pointer (some ⟨bb, 0, none⟩)] w fun e w' => e = .returned (.bool (digAt s i)) ∧ Below w.heap.size w w' := by
  have c0 := cell_of_row _ _ 0 _ _ _ h
  have d0 := cell_of_row _ _ 0 _ _ _ hx
  have e0 := cell_of_row _ _ 0 _ _ _ hb
  simp at c0 d0 e0
  have hi0 : (0 : Int) ≤ (i : Int) := Int.natCast_nonneg _
  have hlt1 := (Array.getElem?_eq_some_iff.1 h).1
  have hlt2 := (Array.getElem?_eq_some_iff.1 hx).1
  have hlt3 := (Array.getElem?_eq_some_iff.1 hb).1
  by_cases hlt : i < s.size
  · obtain ⟨b, hbb⟩ : ∃ b, s.data.toList[i]? = some b := ⟨_, List.getElem?_eq_getElem (by simpa using hlt)⟩
    have HR := Lib.hid (show digAt s i = decide (worthZ b < 10) by unfold digAt; rw [hbb, worth_dig])
    have HK := Lib.hid (show ∀ W, Below w.heap.size w W → (W.cell? ⟨xb, 0, none⟩ = some (.string s) ∧ W.cell? ⟨bx, 0, none⟩ = some (.pointer (some ⟨xb, 0, none⟩)) ∧ W.cell? ⟨bb, 0, none⟩ = some (.int .i64 10)) from fun W hW =>
      ⟨(hW.cell (p := ⟨xb, 0, none⟩) hlt1).trans c0, (hW.cell (p := ⟨bx, 0, none⟩) hlt2).trans d0, (hW.cell (p := ⟨bb, 0, none⟩) hlt3).trans e0⟩)
    have hltz : (i : Int) < (s.size : Int) := by omega
    have HW := Lib.hid (fun W => worth_c b W)
    have hxx := index_run hbb
    clear h hx hb
    go_enter Tryz.func105, Tryz.ntmps105
    go_upto_region 1 with fail
    go_region_held3 (fun W => W.cell? ⟨xb, 0, none⟩ = some (.string s) ∧ W.cell? ⟨bx, 0, none⟩ = some (.pointer (some ⟨xb, 0, none⟩)) ∧ W.cell? ⟨bb, 0, none⟩ = some (.int .i64 10)) (first | exact HK.out _ (by (repeat' (first | (with_reducible exact Below.refl _ _) | (with_reducible refine below_alloc ?_) | (with_reducible refine below_drew ?_) | (with_reducible refine below_drewN ?_) | (with_reducible refine below_set (by first | (simp; done) | (simp; omega)) ?_) | (with_reducible refine below_call (by with_reducible assumption) ?_))))) (first | (go_at_call 106; refine (HW.out _).mono ?_; rintro e w1 ⟨rfl, hb1⟩))
    all_goals
      go_wp2
      go_ret
      exact ⟨by rw [HR.out]; rfl, by (repeat' (first | (with_reducible exact Below.refl _ _) | (with_reducible refine below_alloc ?_) | (with_reducible refine below_drew ?_) | (with_reducible refine below_drewN ?_) | (with_reducible refine below_set (by first | (simp; done) | (simp; omega)) ?_) | (with_reducible refine below_call (by with_reducible assumption) ?_)))⟩
  · obtain rfl : i = s.size := by omega
    have hltz : ¬ (s.size : Int) < (s.size : Int) := by omega
    have HR := Lib.hid (show digAt s s.size = false by unfold digAt; rw [List.getElem?_eq_none (by simp)])
    clear h hx hb
    go_enter Tryz.func105, Tryz.ntmps105
    go_upto_region 1 with fail
    go_quiet (fail)
    go_wp2
    go_ret
    exact ⟨by rw [HR.out]; rfl, by (repeat' (first | (with_reducible exact Below.refl _ _) | (with_reducible refine below_alloc ?_) | (with_reducible refine below_drew ?_) | (with_reducible refine below_drewN ?_) | (with_reducible refine below_set (by first | (simp; done) | (simp; omega)) ?_) | (with_reducible refine below_call (by with_reducible assumption) ?_)))⟩
end Go.Proofs.YtbnelgniekcjdaaGreatDoor
