/- verify.Reached: what is reached, as a slice of its own. -/
import Derived.Test.YtefpgjocfgeenaaGreatDoorCopy
namespace Go.Proofs.YtefpgjocfgeenaaGreatDoor
open Go.RowKit Cap
set_option maxRecDepth 100000

theorem Sl.row {α : Type} {enc : α → List Value} {k : Nat} (hk : ∀ x, (enc x).length = k) {w : World} {b : Nat} {T : TypeId} {xs : List α} (h : w.heap[b]? = some (.cells (xs.flatMap enc).toArray T (0, 0))) (hb : xs.length ≤ 9223372036854775807) :
    Sl enc k w (.slice (some ⟨b, 0, none⟩) xs.length xs.length) xs := by
  refine ⟨_, _, rfl, Nat.le_refl _, hb, fun i x hx => ⟨b, 0, rfl, (Array.getElem?_eq_some_iff.1 h).1, fun j u hu => ?_⟩⟩
  have h1 := flatMap_at hk xs i x j u hx hu
  rw [cell_of_row _ _ _ _ _ _ h]
  simpa using h1
/-- What Reached hands back. -/
inductive ReachedR (w : World) (n : Nat) : Except NE (List Bool × List (List Int) × Int) → Ending → World → Prop
  | err {at_ e : Int} {w' : World} (h : Below w.heap.size w w') : ReachedR w n (.error (at_, e)) (.returned (.tuple #[.slice none 0 0, .int .i64 e])) w'
  | ok {rs : List Bool} {ss : List (List Int)} {deep : Int} {b : Nat} {w' : World} (h : Below w.heap.size w w') (hn : rs.length = n) (hs : Sl encB 1 w' (.slice (some ⟨b, 0, none⟩) n n) rs) : ReachedR w n (.ok (rs, ss, deep)) (.returned (.tuple #[.slice (some ⟨b, 0, none⟩) n n, .int .i64 0])) w'
theorem reached_c (x : Img) (vx : Value) (w : World) (h : ImgAsk w vx x) (hG : G w) : Calls Tryz.prog 15 #[vx] w (ReachedR w x.code.length (verifyL x)) := by
  have hr := fun W (hW : Below w.heap.size w W) => run_a (h.below hW) (hG.below hW)
  have HR := Lib.hid hr
  have h5 : x.code.length ≤ 9223372036854775807 := by
    obtain ⟨vt, vf, vi, vo, vc, rfl, -, -, -, -, A, c, rfl, h1, h2, -⟩ := h.img
    omega
  obtain ⟨vt, vf, vi, vo, vc, rfl, -⟩ := h.img
  clear hr h
  cases hq : verifyL x with
  | error ne =>
    obtain ⟨at_, er⟩ := ne
    have hne : er ≠ 0 := verifyL_err hq
    have HQ := Lib.hid hq
    clear hq
    go_enter Tryz.func15, Tryz.ntmps15
    go_wp2_with (go_at_call 35; refine (HR.out _ (by (repeat' (first | (with_reducible exact Below.refl _ _) | (with_reducible refine below_alloc ?_) | (with_reducible refine below_drew ?_) | (with_reducible refine below_drewN ?_) | (with_reducible refine below_set (by simp; omega) ?_) | (with_reducible refine below_call (by with_reducible assumption) ?_))))).mono ?_; rw [HQ.out]; rintro e w1 (⟨hb⟩ | _); obtain ⟨hc, hf⟩ := bcell hb; have hz := hb.size; (try simp at hz); (try have hz1 := Nat.lt_of_succ_le hz); (try have hz2 := Nat.lt_of_succ_lt hz1); (try have hz3 := Nat.lt_of_succ_lt hz2); (try have hz4 := Nat.lt_of_succ_lt hz3))
    go_ret2
    exact ReachedR.err (by (repeat' (first | (with_reducible exact Below.refl _ _) | (with_reducible refine below_alloc ?_) | (with_reducible refine below_drew ?_) | (with_reducible refine below_drewN ?_) | (with_reducible refine below_set (by simp; omega) ?_) | (with_reducible refine below_call (by with_reducible assumption) ?_))))
  | ok r =>
    obtain ⟨rs, ss, deep⟩ := r
    have HQ := Lib.hid hq
    clear hq
    go_enter Tryz.func15, Tryz.ntmps15
    go_wp2_with (go_at_call 35; refine (HR.out _ (by (repeat' (first | (with_reducible exact Below.refl _ _) | (with_reducible refine below_alloc ?_) | (with_reducible refine below_drew ?_) | (with_reducible refine below_drewN ?_) | (with_reducible refine below_set (by simp; omega) ?_) | (with_reducible refine below_call (by with_reducible assumption) ?_))))).mono ?_; rw [HQ.out]; rintro e w1 (_ | ⟨hb, hl, -, -⟩); have c9 := cell_of_row _ _ 0 _ _ _ hl.look; simp at c9; have HL := Lib.hid hl; obtain ⟨hc, hf⟩ := bcell hb; have hz := hb.size; (try simp at hz); (try have hz1 := Nat.lt_of_succ_le hz); (try have hz2 := Nat.lt_of_succ_lt hz1); (try have hz3 := Nat.lt_of_succ_lt hz2); (try have hz4 := Nat.lt_of_succ_lt hz3))
    go_ret2
    refine ReachedR.ok (by (repeat' (first | (with_reducible exact Below.refl _ _) | (with_reducible refine below_alloc ?_) | (with_reducible refine below_drew ?_) | (with_reducible refine below_drewN ?_) | (with_reducible refine below_set (by simp; omega) ?_) | (with_reducible refine below_call (by with_reducible assumption) ?_)))) HL.out.lr ?_
    have := Sl.row (enc := encB) (k := 1) (fun _ => rfl) HL.out.rows (by rw [HL.out.lr]; exact h5)
    rw [HL.out.lr] at this
    exact this
end Go.Proofs.YtefpgjocfgeenaaGreatDoor
