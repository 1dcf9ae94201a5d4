/- verify.Check, verify.Deep, verify.Reached. -/
import Derived.Test.YtefpgjocfgeenaaGreatDoorRun
namespace Go.Proofs.YtefpgjocfgeenaaGreatDoor
open Go.RowKit Cap
set_option maxRecDepth 100000

/-- What run asks of an image. -/
structure ImgAsk (w : World) (vx : Value) (x : Img) : Prop where
  img : ImgV w vx x
  name : x.name.size ≤ 140737488351232
  ends : x.ins.length + x.outs.length ≤ 1099511627776
  ok : ImgOk x
theorem run_a {w : World} {vx : Value} {x : Img} (h : ImgAsk w vx x) (hG : G w) : Calls Tryz.prog 35 #[vx] w (RunR w x.code.length (verifyL x)) := run_c x vx w h.img hG h.name h.ends h.ok
theorem ImgAsk.below {w w' : World} {vx : Value} {x : Img} (h : ImgAsk w vx x) (hb : Below w.heap.size w w') : ImgAsk w' vx x := ⟨h.img.below hb, h.name, h.ends, h.ok⟩

theorem check_c (x : Img) (vx : Value) (w : World) (h : ImgAsk w vx x) (hG : G w) :
    Calls Tryz.prog 11 #[vx] w fun e w' => e = .returned (.tuple #[.int .i64 (verifyNE x).1, .int .i64 (verifyNE x).2]) ∧ Below w.heap.size w w' := by
  have hr := fun W (hW : Below w.heap.size w W) => run_a (h.below hW) (hG.below hW)
  have HR := Lib.hid hr
  have hv : ∃ vs, vx = .agg vs := by obtain ⟨vt, vf, vi, vo, vc, rfl, -⟩ := h.img; exact ⟨_, rfl⟩
  obtain ⟨vt, vf, vi, vo, vc, rfl, -⟩ := h.img
  clear hr h hv
  cases hq : verifyL x with
  | error ne =>
    obtain ⟨at_, er⟩ := ne
    have HN := Lib.hid (show verifyNE x = (at_, er) by simp [verifyNE, hq])
    have HQ := Lib.hid hq
    clear hq
    go_enter Tryz.func11, Tryz.ntmps11
    go_wp2_with (go_at_call 35; refine (HR.out _ (by (repeat' (first | (with_reducible exact Below.refl _ _) | (with_reducible refine below_alloc ?_) | (with_reducible refine below_drew ?_) | (with_reducible refine below_drewN ?_) | (with_reducible refine below_set (by simp; omega) ?_) | (with_reducible refine below_call (by with_reducible assumption) ?_))))).mono ?_; rw [HQ.out]; rintro e w1 (⟨hb⟩ | _); obtain ⟨hc, hf⟩ := bcell hb; have hz := hb.size; (try simp at hz); (try have hz1 := Nat.lt_of_succ_le hz); (try have hz2 := Nat.lt_of_succ_lt hz1); (try have hz3 := Nat.lt_of_succ_lt hz2); (try have hz4 := Nat.lt_of_succ_lt hz3))
    go_ret2
    exact ⟨by rw [HN.out]; rfl, by (repeat' (first | (with_reducible exact Below.refl _ _) | (with_reducible refine below_alloc ?_) | (with_reducible refine below_drew ?_) | (with_reducible refine below_drewN ?_) | (with_reducible refine below_set (by simp; omega) ?_) | (with_reducible refine below_call (by with_reducible assumption) ?_)))⟩
  | ok r =>
    obtain ⟨rs, ss, deep⟩ := r
    have HN := Lib.hid (show verifyNE x = (0, 0) by simp [verifyNE, hq])
    have HQ := Lib.hid hq
    clear hq
    go_enter Tryz.func11, Tryz.ntmps11
    go_wp2_with (go_at_call 35; refine (HR.out _ (by (repeat' (first | (with_reducible exact Below.refl _ _) | (with_reducible refine below_alloc ?_) | (with_reducible refine below_drew ?_) | (with_reducible refine below_drewN ?_) | (with_reducible refine below_set (by simp; omega) ?_) | (with_reducible refine below_call (by with_reducible assumption) ?_))))).mono ?_; rw [HQ.out]; rintro e w1 (_ | ⟨hb, -, -, -⟩); obtain ⟨hc, hf⟩ := bcell hb; have hz := hb.size; (try simp at hz); (try have hz1 := Nat.lt_of_succ_le hz); (try have hz2 := Nat.lt_of_succ_lt hz1); (try have hz3 := Nat.lt_of_succ_lt hz2); (try have hz4 := Nat.lt_of_succ_lt hz3))
    go_ret2
    exact ⟨by rw [HN.out]; rfl, by (repeat' (first | (with_reducible exact Below.refl _ _) | (with_reducible refine below_alloc ?_) | (with_reducible refine below_drew ?_) | (with_reducible refine below_drewN ?_) | (with_reducible refine below_set (by simp; omega) ?_) | (with_reducible refine below_call (by with_reducible assumption) ?_)))⟩

theorem deep_c (x : Img) (vx : Value) (w : World) (h : ImgAsk w vx x) (hG : G w) :
    Calls Tryz.prog 13 #[vx] w fun e w' => e = .returned (.tuple #[.int .i64 (deepNE x).1, .int .i64 (deepNE x).2]) ∧ Below w.heap.size w w' := by
  have hr := fun W (hW : Below w.heap.size w W) => run_a (h.below hW) (hG.below hW)
  have HR := Lib.hid hr
  obtain ⟨vt, vf, vi, vo, vc, rfl, -⟩ := h.img
  clear hr h
  cases hq : verifyL x with
  | error ne =>
    obtain ⟨at_, er⟩ := ne
    have hne : er ≠ 0 := verifyL_err hq
    have HN := Lib.hid (show deepNE x = (0, er) by simp [deepNE, hq])
    have HQ := Lib.hid hq
    clear hq
    go_enter Tryz.func13, Tryz.ntmps13
    go_wp2_with (go_at_call 35; refine (HR.out _ (by (repeat' (first | (with_reducible exact Below.refl _ _) | (with_reducible refine below_alloc ?_) | (with_reducible refine below_drew ?_) | (with_reducible refine below_drewN ?_) | (with_reducible refine below_set (by simp; omega) ?_) | (with_reducible refine below_call (by with_reducible assumption) ?_))))).mono ?_; rw [HQ.out]; rintro e w1 (⟨hb⟩ | _); obtain ⟨hc, hf⟩ := bcell hb; have hz := hb.size; (try simp at hz); (try have hz1 := Nat.lt_of_succ_le hz); (try have hz2 := Nat.lt_of_succ_lt hz1); (try have hz3 := Nat.lt_of_succ_lt hz2); (try have hz4 := Nat.lt_of_succ_lt hz3))
    go_ret2
    exact ⟨by rw [HN.out]; rfl, by (repeat' (first | (with_reducible exact Below.refl _ _) | (with_reducible refine below_alloc ?_) | (with_reducible refine below_drew ?_) | (with_reducible refine below_drewN ?_) | (with_reducible refine below_set (by simp; omega) ?_) | (with_reducible refine below_call (by with_reducible assumption) ?_)))⟩
  | ok r =>
    obtain ⟨rs, ss, deep⟩ := r
    have HN := Lib.hid (show deepNE x = (deep, 0) by simp [deepNE, hq])
    have HQ := Lib.hid hq
    clear hq
    go_enter Tryz.func13, Tryz.ntmps13
    go_wp2_with (go_at_call 35; refine (HR.out _ (by (repeat' (first | (with_reducible exact Below.refl _ _) | (with_reducible refine below_alloc ?_) | (with_reducible refine below_drew ?_) | (with_reducible refine below_drewN ?_) | (with_reducible refine below_set (by simp; omega) ?_) | (with_reducible refine below_call (by with_reducible assumption) ?_))))).mono ?_; rw [HQ.out]; rintro e w1 (_ | ⟨hb, hl, -, -⟩); have c9 := cell_of_row _ _ 2 _ _ _ hl.look; simp at c9; obtain ⟨hc, hf⟩ := bcell hb; have hz := hb.size; (try simp at hz); (try have hz1 := Nat.lt_of_succ_le hz); (try have hz2 := Nat.lt_of_succ_lt hz1); (try have hz3 := Nat.lt_of_succ_lt hz2); (try have hz4 := Nat.lt_of_succ_lt hz3))
    go_ret2
    exact ⟨by rw [HN.out]; rfl, by (repeat' (first | (with_reducible exact Below.refl _ _) | (with_reducible refine below_alloc ?_) | (with_reducible refine below_drew ?_) | (with_reducible refine below_drewN ?_) | (with_reducible refine below_set (by simp; omega) ?_) | (with_reducible refine below_call (by with_reducible assumption) ?_)))⟩
end Go.Proofs.YtefpgjocfgeenaaGreatDoor
