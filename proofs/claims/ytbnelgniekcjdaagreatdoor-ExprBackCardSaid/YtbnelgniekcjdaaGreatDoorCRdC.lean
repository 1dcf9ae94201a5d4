/- (*reader).deeper: something one deeper. -/
import Derived.Test.YtbnelgniekcjdaaGreatDoorCRdB
set_option linter.unusedSimpArgs false
set_option linter.unusedVariables false
namespace Go.Proofs.YtbnelgniekcjdaaGreatDoor
open Go.RowKit Cap
set_option maxRecDepth 100000

/-- A function value reads so, wherever the reader stands, from a world on. -/
def Reads (l : List Tok) (w0 : World) (rb : Nat) (lv : Value) (d : Nat) (f : Nat) (fst cap : Array Value) (g : Nat → PR) (w : World) : Prop :=
  (∀ args W, (callFunc f args).run Tryz.prog W = .ok (.enter f args) W) ∧
  ∀ W a ov o, St rb w W → Rd w0 rb lv a d ov o W → o.length ≤ a → a ≤ l.length → Calls Tryz.prog f (fst ++ cap) W (RdE w0 W rb lv d o (g a))
theorem Reads.mono {l : List Tok} {w0 w w' : World} {rb : Nat} {lv : Value} {d f : Nat} {fst cap : Array Value} {g : Nat → PR} (h : Reads l w0 rb lv d f fst cap g w) (hs : St rb w w') : Reads l w0 rb lv d f fst cap g w' :=
  ⟨h.1, fun W a ov o hst => h.2 W a ov o (hs.trans hst)⟩
theorem RdE.pre {w0 w w' : World} {rb d : Nat} {lv : Value} {o : List Prt} {r : PR} {e : Ending} {W : World} (hs : St rb w w') (h : RdE w0 w' rb lv d o r e W) : RdE w0 w rb lv d o r e W := by
  cases h with
  | ok h hk => exact .ok h (hs.trans hk)
  | no hb hk => exact .no hb (hs.trans hk)
set_option maxHeartbeats 4000000 in
theorem deeper_c (w0 W : World) (rb : Nat) (lv ov : Value) (a d : Nat) (o : List Prt) (h : Rd w0 rb lv a d ov o W) (ho : o.length ≤ a) (f : Nat) (fst cap : Array Value) (g : Nat → PR)
    (hd : d ≤ 200) (hf : d < 200 → (∀ args W, (callFunc f args).run Tryz.prog W = .ok (.enter f args) W) ∧ ∀ W' ov' o', St rb W W' → Rd w0 rb lv a (d + 1) ov' o' W' → o'.length ≤ a → Calls Tryz.prog f (fst ++ cap) W' (RdE w0 W' rb lv (d + 1) o' (g a))) :
    Calls Tryz.prog 59 #[.pointer (some ⟨rb, 0, none⟩), .func (.func f) fst cap] W (RdE w0 W rb lv d o (if d < 200 then g a else .no a 2)) := by
  have HF := Lib.hid (fun W' (hb : Below W.heap.size W W') => fail_c w0 W' rb lv ov a d o (h.below hb) 2)
  have HH := Lib.hid h
  obtain ⟨⟨c0, c1, c2, c3⟩, hz⟩ := h.cells
  have f2 := hz 2
  clear h c0 c1 c3 hz
  have hd0 : (0 : Int) ≤ (d : Int) := Int.natCast_nonneg _
  by_cases hlt : d < 200
  · rw [if_pos hlt]
    obtain ⟨ef, hc⟩ := hf hlt
    have hdz : ¬ (200 : Int) ≤ (d : Int) := by omega
    have hdm : (d : Int) + 1 ≤ 9223372036854775807 := by omega
    have HC := Lib.hid (hc _ ov o (.set (St.refl _ _) _ _) HH.out.deeper ho)
    obtain ⟨q, hq⟩ : ∃ q, g a = q := ⟨_, rfl⟩
    rw [hq] at HC ⊢
    clear hc hf HF hq
    go_enter Tryz.func59, Tryz.ntmps59
    go_wp2_with fail
    refine HC.out.mono ?_
    rintro e w1 hE
    cases hE with
    | no hb hk => exact ⟨rfl, .no hb (.trans (.set (St.refl _ _) _ _) hk)⟩
    | ok h1 hk =>
      have HH1 := Lib.hid h1
      have HK1 := Lib.hid hk
      obtain ⟨⟨c0, c1, c2, c3⟩, hz⟩ := h1.cells
      have f2 := hz 2
      have c2' : _ = some (Value.int .i64 ((d : Int) + 1)) := c2
      clear h1 hk hz c0 c1 c2 c3
      go_wp2
      exact ⟨rfl, _, results_none rfl _ _ _, .ok (HH1.out.set_deep d) (.set (.trans (.set (St.refl _ _) _ _) HK1.out) _ _)⟩
  · rw [if_neg hlt]
    obtain rfl : d = 200 := by omega
    clear hf
    go_enter Tryz.func59, Tryz.ntmps59
    go_wp2_with (first | (go_at_call 85; refine (HF.out _ (by (repeat' (first | (with_reducible exact Below.refl _ _) | (with_reducible refine below_alloc ?_) | (with_reducible refine below_drew ?_) | (with_reducible refine below_drewN ?_) | (with_reducible refine below_set (by first | (simp; done) | (simp; omega)) ?_) | (with_reducible refine below_call (by with_reducible assumption) ?_))))).mono ?_; rintro e w2 ⟨rfl, hb2⟩))
    exact ⟨rfl, .no (HH.out.below hb2).b0 (.call hb2 (St.refl _ _))⟩
end Go.Proofs.YtbnelgniekcjdaaGreatDoor
