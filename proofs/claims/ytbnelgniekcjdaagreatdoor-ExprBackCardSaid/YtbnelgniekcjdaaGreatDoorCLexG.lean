/- The lexer's numbers and signs, plainly: one. -/
import Derived.Test.YtbnelgniekcjdaaGreatDoorCLexF
import Derived.Test.YtbnelgniekcjdaaGreatDoorCCatS
set_option linter.unusedSimpArgs false
set_option linter.unusedVariables false
namespace Go.Proofs.YtbnelgniekcjdaaGreatDoor
open Go.RowKit Cap
set_option maxRecDepth 1000000

set_option maxHeartbeats 8000000 in
theorem one_num (xb : Nat) (s : ByteArray) (a : Nat) (w : World) (h : Sc xb s a w) (hs : s.size ≤ 70000) (c : UInt8) (hc : s.data.toList[a]? = some c) (hl : isLet c = false) (hd : isDig c = true)
    (dl : List UInt8) (hdl : dl = (s.data.toList.drop a).takeWhile isDig) (hmax : decL dl ≤ 2147483648) (hus : s.data.toList[a + dl.length]? ≠ some 95) (hsh : s.data.toList[a + dl.length]? ≠ some 35) :
    Calls Tryz.prog 30 #[.pointer (some ⟨xb, 0, none⟩)] w fun e w' => e = .returned (.tuple #[tokV ⟨2, ⟨#[]⟩, (decL dl : Nat), 0, 0⟩, .bool true]) ∧ Ch xb w w' ∧ Sc xb s (a + dl.length) w' := by
  have hxlt := (Array.getElem?_eq_some_iff.1 h).1
  have halt : a < s.size := by simpa using (List.getElem?_eq_some_iff.1 hc).1
  have hne : dl ≠ [] := by
    rw [hdl]
    intro e
    have hd2 : (s.data.toList.drop a) = c :: (s.data.toList.drop (a + 1)) := drop_cons hc
    rw [hd2, List.takeWhile_cons_of_pos hd] at e
    cases e
  have HBS := Lib.hid (fun (W : World) (hW : Below w.heap.size w W) => based_c xb s a W (h.below hW) hs (by omega) dl hdl hne hmax hus hsh)
  have hxx := index_run hc
  have HLC := Lib.hid (fun W => hl ▸ letter_c c W)
  have HDC := Lib.hid (fun W => hd ▸ digit_c c W)
  obtain ⟨k0, k1, g1⟩ := h.cells
  have hw0 : Below w.heap.size w (w.alloc (.cells #[.int .i64 0, .string ⟨#[]⟩, .int .i64 0, .int .i64 0, .int .i64 0] 38)) := by (repeat' (first | (with_reducible exact Below.refl _ _) | (with_reducible refine below_alloc ?_) | (with_reducible refine below_drew ?_) | (with_reducible refine below_drewN ?_) | (with_reducible refine below_set (by first | (simp; done) | (simp; omega)) ?_) | (with_reducible refine below_call (by with_reducible assumption) ?_)))
  have hr0 : (w.alloc (.cells #[.int .i64 0, .string ⟨#[]⟩, .int .i64 0, .int .i64 0, .int .i64 0] 38)).heap[w.heap.size]? = some (.cells #[.int .i64 0, .string ⟨#[]⟩, .int .i64 0, .int .i64 0, .int .i64 0] 38 (0, 0)) := heap_alloc_new _ _
  have haz : (a : Int) < (s.size : Int) := by omega
  have ha0 : (0 : Int) ≤ (a : Int) := Int.natCast_nonneg _
  generalize decL dl = n at HBS ⊢
  generalize dl.length = m at HBS ⊢
  clear hdl hmax hus hsh hl hd hc h hne
  go_enter Tryz.func30, Tryz.ntmps30
  go_upto_region 2 with fail
  go_quiet (fail)
  go_upto_region 12 with (first | (go_at_call 49; refine (HLC.out _).mono ?_; rintro e w1 ⟨rfl, rfl⟩) | (go_at_call 50; refine (HDC.out _).mono ?_; rintro e w2 ⟨rfl, rfl⟩))
  go_wp2_with fail
  refine (HBS.out _ (by (repeat' (first | (with_reducible exact Below.refl _ _) | (with_reducible refine below_alloc ?_) | (with_reducible refine below_drew ?_) | (with_reducible refine below_drewN ?_) | (with_reducible refine below_set (by first | (simp; done) | (simp; omega)) ?_) | (with_reducible refine below_call (by with_reducible assumption) ?_))))).mono ?_
  rintro e w3 ⟨rfl, hc3, hs3⟩
  have hch : Ch xb w _ := .of (show Below w.heap.size w _ by first | assumption | (repeat' (first | (with_reducible exact Below.refl _ _) | (with_reducible refine below_alloc ?_) | (with_reducible refine below_drew ?_) | (with_reducible refine below_drewN ?_) | (with_reducible refine below_set (by first | (simp; done) | (simp; omega)) ?_) | (with_reducible refine below_call (by with_reducible assumption) ?_))))
  have hr3 := hc3.block (k := w.heap.size) (by first | exact hr0 | exact hpD hr0) (by omega)
  have HR3 := Lib.hid hr3
  obtain ⟨z0, z1, z2, z3, z4, y0, y1, y2, y3, y4⟩ := row5 hr3
  have HC3 := Lib.hid hc3
  have HS3 := Lib.hid hs3
  clear hr3 hc3 hs3
  go_wp2
  refine bodyPost_ret (tok_res _ _ w.heap.size (sets5 HR3.out) rfl rfl) rfl ⟨rfl, ?_, ?_⟩
  · exact ((((((Ch.of (show Below w.heap.size w _ by (repeat' (first | (with_reducible exact Below.refl _ _) | (with_reducible refine below_alloc ?_) | (with_reducible refine below_drew ?_) | (with_reducible refine below_drewN ?_) | (with_reducible refine below_set (by first | (simp; done) | (simp; omega)) ?_) | (with_reducible refine below_call (by with_reducible assumption) ?_))))).trans HC3.out).set_new (Nat.le_refl _) _ _).set_new (Nat.le_refl _) _ _).set_new (Nat.le_refl _) _ _).set_new (Nat.le_refl _) _ _).set_new (Nat.le_refl _) _ _
  · have hx : xb ≠ w.heap.size := by omega
    exact ((((HS3.out.set_other hx _ _).set_other hx _ _).set_other hx _ _).set_other hx _ _).set_other hx _ _
end Go.Proofs.YtbnelgniekcjdaaGreatDoor
