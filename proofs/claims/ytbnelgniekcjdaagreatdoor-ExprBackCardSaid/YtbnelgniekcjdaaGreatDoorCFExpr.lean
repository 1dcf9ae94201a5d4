/- expr.takes, expr.may. -/
import Derived.Test.YtbnelgniekcjdaaGreatDoorCGenP
import Derived.Test.YtbnelgniekcjdaaGreatDoorCName
import Derived.Test.YtbnelgniekcjdaaGreatDoorCNumF
import Derived.Test.YtbnelgniekcjdaaGreatDoorCFBase
set_option linter.unusedSimpArgs false
set_option linter.unusedVariables false
namespace Go.Proofs.YtbnelgniekcjdaaGreatDoor
open Go.RowKit Cap
set_option maxRecDepth 100000

theorem takesE_c (p : Prt) (w : World) : Calls Tryz.prog 19 #[prtV p] w fun e w' => e = .returned (.int .i64 (takesE p)) ∧ Below w.heap.size w w' := by
  obtain ⟨k, n, t, s, f⟩ := p
  unfold prtV takesE
  simp only
  go_enter Tryz.func19, Tryz.ntmps19
  by_cases h3 : k = 3
  · subst h3
    go_wp2
    go_ret
    exact ⟨by simp, by (repeat' (first | (with_reducible exact Below.refl _ _) | (with_reducible refine below_alloc ?_) | (with_reducible refine below_drew ?_) | (with_reducible refine below_drewN ?_) | (with_reducible refine below_set (by simp; omega) ?_) | (with_reducible refine below_call (by with_reducible assumption) ?_)))⟩
  by_cases h6 : k = 6
  · subst h6
    go_wp2
    go_ret
    exact ⟨by simp, by (repeat' (first | (with_reducible exact Below.refl _ _) | (with_reducible refine below_alloc ?_) | (with_reducible refine below_drew ?_) | (with_reducible refine below_drewN ?_) | (with_reducible refine below_set (by simp; omega) ?_) | (with_reducible refine below_call (by with_reducible assumption) ?_)))⟩
  by_cases h5 : k = 5
  · subst h5
    by_cases h15 : 15 ≤ n
    · by_cases h16 : n ≤ 16
      · go_wp2
        go_ret
        exact ⟨by simp [h15, h16], by (repeat' (first | (with_reducible exact Below.refl _ _) | (with_reducible refine below_alloc ?_) | (with_reducible refine below_drew ?_) | (with_reducible refine below_drewN ?_) | (with_reducible refine below_set (by simp; omega) ?_) | (with_reducible refine below_call (by with_reducible assumption) ?_)))⟩
      · go_wp2
        go_ret
        exact ⟨by simp [h16], by (repeat' (first | (with_reducible exact Below.refl _ _) | (with_reducible refine below_alloc ?_) | (with_reducible refine below_drew ?_) | (with_reducible refine below_drewN ?_) | (with_reducible refine below_set (by simp; omega) ?_) | (with_reducible refine below_call (by with_reducible assumption) ?_)))⟩
    · go_wp2
      go_ret
      exact ⟨by simp [h15], by (repeat' (first | (with_reducible exact Below.refl _ _) | (with_reducible refine below_alloc ?_) | (with_reducible refine below_drew ?_) | (with_reducible refine below_drewN ?_) | (with_reducible refine below_set (by simp; omega) ?_) | (with_reducible refine below_call (by with_reducible assumption) ?_)))⟩
  · have b3 : (k == 3) = false := by simpa using h3
    have b6 : (k == 6) = false := by simpa using h6
    have b5 : (k == 5) = false := by simpa using h5
    go_wp2
    go_ret
    exact ⟨by simp [h3, h6, h5], by (repeat' (first | (with_reducible exact Below.refl _ _) | (with_reducible refine below_alloc ?_) | (with_reducible refine below_drew ?_) | (with_reducible refine below_drewN ?_) | (with_reducible refine below_set (by simp; omega) ?_) | (with_reducible refine below_call (by with_reducible assumption) ?_)))⟩
theorem maxL_take {xs : List Int} {k : Nat} {a : Int} (h : xs[k]? = some a) (hk : 1 ≤ k) : maxL (xs.take (k + 1)) = max (maxL (xs.take k)) a := by
  match xs, k, hk with
  | [], _, _ => simp at h
  | y :: r, k + 1, _ =>
    have h' : r[k]? = some a := by simpa using h
    rw [List.take_succ_cons, List.take_succ_cons, maxL, maxL, List.take_add_one, h']
    simp
set_option maxHeartbeats 1000000 in
theorem max_c (xs : List Int) (v : Value) (w : World) (hs : Sl encI 1 w v xs) (h0 : 0 < xs.length) :
    Calls Tryz.prog 35 #[v] w fun e w' => e = .returned (.int .i64 (maxL xs)) ∧ Below w.heap.size w w' := by
  obtain ⟨A, c, rfl, hl, hm, hc⟩ := hs
  obtain ⟨a, ha⟩ : ∃ a, xs[0]? = some a := ⟨xs[0], List.getElem?_eq_getElem h0⟩
  obtain ⟨b, off, rfl, hb, hcx⟩ := hc 0 a ha
  have c0 : w.cell? ⟨b, off, none⟩ = some (.int .i64 a) := by simpa using hcx 0 _ rfl
  have HC := Lib.hid hc
  have h1z : ¬ (xs.length : Int) < 1 := by omega
  have h0z : (0 : Int) < (xs.length : Int) := by omega
  have H1 := Lib.hid (show maxL (xs.take 1) = a by
    match xs, ha with
    | y :: r, ha =>
      obtain rfl : y = a := by simpa using ha
      rfl)
  clear hc hcx ha
  go_enter Tryz.func35, Tryz.ntmps35
  go_wp2
  go_loopg [3, 4] xs.length (fun gg s3 s4 wr => ∃ k : Nat, s3 = .int .i64 (maxL (xs.take k)) ∧ s4 = .int .i64 k ∧ 1 ≤ k ∧ k ≤ xs.length ∧ xs.length - k ≤ gg ∧ Aside (Below w.heap.size w wr))
  case atStart => exact ⟨1, by rw [H1.out], rfl, Nat.le_refl _, h0, by omega, (show Aside _ from Below.refl _ _)⟩
  case round =>
    obtain ⟨k, rfl, rfl, hk1, hk, hg, HB⟩ := hrel
    have hB := HB.out
    by_cases hlt : k < xs.length
    · obtain ⟨a', ha'⟩ : ∃ a, xs[k]? = some a := ⟨xs[k], List.getElem?_eq_getElem hlt⟩
      obtain ⟨b', off', he, hb', hcx⟩ := HC.out k a' ha'
      injection he with he
      injection he with e1 e2 _
      subst e1 e2
      have e1 : wr.cell? ⟨b, off + k, none⟩ = some (.int .i64 a') := (hB.cell (p := ⟨b, off + k, none⟩) hb).trans (by simpa using hcx 0 _ rfl)
      have hltz : (k : Int) < (xs.length : Int) := by omega
      have hk0 : (0 : Int) ≤ (k : Int) := Int.natCast_nonneg _
      have HM := Lib.hid (maxL_take ha' hk1)
      clear hcx ha'
      go_wp2
      go_roundg (xs.length - (k + 1))
      case measure => omega
      case rel => exact ⟨k + 1, by rw [HM.out], by go_num, by omega, by omega, by omega, hB⟩
    · obtain rfl : k = xs.length := by omega
      have hltz : ¬ (xs.length : Int) < (xs.length : Int) := by omega
      go_wp2
      go_ret
      exact ⟨rfl, by (repeat' (first | (with_reducible exact Below.refl _ _) | (with_reducible refine below_alloc ?_) | (with_reducible refine below_drew ?_) | (with_reducible refine below_drewN ?_) | (with_reducible refine below_set (by simp; omega) ?_) | (with_reducible refine below_call (by with_reducible assumption) ?_)))⟩
/-- A shorter beginning of a row of the call's own. -/
theorem own_take {w : World} {base : Nat} {e : TypeId} {k : Nat} {A : Option Addr} {n c : Nat} {xs : List Value} (h : w.ownsRow base e k (.slice A n c) n xs) {m : Nat} (hm : m ≤ n) : w.ownsRow base e k (.slice A m c) m (xs.take (m * k)) := by
  obtain ⟨h1, h2⟩ := h
  have hmk : m * k ≤ n * k := Nat.mul_le_mul_right k hm
  refine ⟨by rw [List.length_take, h1]; omega, ?_⟩
  rcases h2 with ⟨e, hn⟩ | ⟨g, cap, cur, e, hb, hg, hc, hM, hs, ht⟩
  · injection e with e1 e2 e3
    subst e1 e3
    obtain rfl : m = 0 := by omega
    exact .inl ⟨rfl, rfl⟩
  · injection e with e1 e2 e3
    subst e1 e3
    exact .inr ⟨g, _, cur, rfl, hb, hg, by omega, hM, hs, by rw [← ht, List.take_take, Nat.min_eq_left hmk]⟩
theorem flatMap_take {α : Type} {enc : α → List Value} {k : Nat} (hk : ∀ x, (enc x).length = k) : ∀ (xs : List α) (m : Nat), (xs.flatMap enc).take (m * k) = (xs.take m).flatMap enc
  | [], m => by simp
  | x :: r, 0 => by simp
  | x :: r, m + 1 => by
    rw [List.flatMap_cons, List.take_succ_cons, List.flatMap_cons, ← flatMap_take hk r m, Nat.succ_mul, Nat.add_comm, ← hk x, List.take_length_add_append]
theorem own_takeL {α : Type} {enc : α → List Value} {k : Nat} (hk : ∀ x, (enc x).length = k) {w : World} {base : Nat} {e : TypeId} {A : Option Addr} {n c : Nat} {xs : List α} (h : w.ownsRow base e k (.slice A n c) n (xs.flatMap enc)) {m : Nat} (hm : m ≤ n) : w.ownsRow base e k (.slice A m c) m ((xs.take m).flatMap enc) := by
  rw [← flatMap_take hk]
  exact own_take h hm
theorem Sl.drop {α : Type} {enc : α → List Value} {k : Nat} {w : World} {b off n c : Nat} {xs : List α} (h : Sl enc k w (.slice (some ⟨b, off, none⟩) n c) xs) (m : Nat) (hm : m ≤ n) : Sl enc k w (.slice (some ⟨b, off + m * k, none⟩) (n - m) (c - m)) (xs.drop m) := by
  obtain ⟨A, c', e, h1, h2, h3⟩ := h
  injection e with e1 e2 e3
  subst e1 e2 e3
  refine ⟨_, _, by rw [List.length_drop], by rw [List.length_drop]; omega, by omega, fun i x hx => ?_⟩
  rw [List.getElem?_drop] at hx
  obtain ⟨b', off', e', hb', hc'⟩ := h3 (m + i) x hx
  injection e' with e'
  injection e' with e1 e2
  subst e1 e2
  refine ⟨_, _, rfl, hb', fun j v hv => ?_⟩
  have := hc' j v hv
  rw [Nat.add_mul] at this
  rw [show off + m * k + i * k + j = off + (m * k + i * k) + j by omega]
  exact this
theorem own_form {α : Type} {enc : α → List Value} {k : Nat} {w : World} {base : Nat} {e : TypeId} {s : Value} {xs : List α} (h : w.ownsRow base e k s xs.length (xs.flatMap enc)) : (s = .slice none 0 0 ∧ xs = []) ∨ ∃ g cap, s = .slice (some ⟨g, 0, none⟩) xs.length cap ∧ xs.length ≤ cap ∧ cap ≤ maxLen ∧ g < w.heap.size := by
  rcases h.2 with ⟨e, hn⟩ | ⟨g, cap, cur, e, hb, hg, hc, hM, hs, ht⟩
  · exact .inl ⟨e, List.eq_nil_of_length_eq_zero hn⟩
  · exact .inr ⟨g, cap, e, hc, hM, (Array.getElem?_eq_some_iff.1 hg).1⟩
theorem depthStep_len (p : Prt) (st : List Int) : (depthStep p st).length = st.length - takesE p + 1 := by
  unfold depthStep
  rw [List.length_append, List.length_take]
  simp
theorem takesE_le (p : Prt) : takesE p ≤ 2 := by
  unfold takesE
  split
  · omega
  · split <;> omega
theorem maxL_le {st : List Int} {k : Int} (hk : 0 ≤ k) (h : ∀ d ∈ st, d ≤ k) : maxL st ≤ k := by
  have hf : ∀ (l : List Int) (a : Int), a ≤ k → (∀ d ∈ l, d ≤ k) → l.foldl max a ≤ k := by
    intro l
    induction l with
    | nil => intro a ha _; exact ha
    | cons x r ih =>
      intro a ha hl
      exact ih _ (by have := hl x (by simp); omega) (fun d hd => hl d (by simp [hd]))
  cases st with
  | nil => exact hk
  | cons x r => exact hf r x (h x (by simp)) (fun d hd => h d (by simp [hd]))
theorem maxL_ge {st : List Int} (h : ∀ d ∈ st, 1 ≤ d) : 0 ≤ maxL st := by
  have hf : ∀ (l : List Int) (a : Int), 0 ≤ a → 0 ≤ l.foldl max a := by
    intro l
    induction l with
    | nil => intro a ha; exact ha
    | cons x r ih => intro a ha; exact ih _ (by omega)
  cases st with
  | nil => exact Int.le_refl _
  | cons x r => exact hf r x (by have := h x (by simp); omega)
end Go.Proofs.YtbnelgniekcjdaaGreatDoor
