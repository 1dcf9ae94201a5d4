/- (*reader).operation: the operation of a row that stands here. -/
import Derived.Test.YtbnelgniekcjdaaGreatDoorCRdA
import Derived.Test.YtbnelgniekcjdaaGreatDoorCName
set_option linter.unusedSimpArgs false
set_option linter.unusedVariables false
namespace Go.Proofs.YtbnelgniekcjdaaGreatDoor
open Go.RowKit Cap
set_option maxRecDepth 100000

/-- The texts of conversions, by their types. -/
def convTxt : List ByteArray := [⟨#[]⟩, ⟨#[]⟩, ⟨#[84, 79, 95, 73, 78, 84]⟩, ⟨#[84, 79, 95, 68, 73, 78, 84]⟩, ⟨#[84, 79, 95, 84, 73, 77, 69]⟩]
/-- The package's tables, as the program lays them. -/
structure GX (w : World) : Prop where
  g : G w
  signs : ∀ i s, signTxt[i]? = some s → w.cell? ⟨1, i, none⟩ = some (.string s)
  conv : ∀ i s, convTxt[i]? = some s → w.cell? ⟨0, i, none⟩ = some (.string s)
theorem GX.below {w w' : World} (h : GX w) (hb : Below w.heap.size w w') : GX w' :=
  ⟨h.g.below hb, fun i s hs => (hb.cell (p := ⟨_, i, none⟩) (World.block_lt_of_cell? _ _ (h.signs i s hs))).trans (h.signs i s hs),
   fun i s hs => (hb.cell (p := ⟨_, i, none⟩) (World.block_lt_of_cell? _ _ (h.conv i s hs))).trans (h.conv i s hs)⟩
theorem opsAt_drop {l : List Tok} {a k n : Nat} {row : List Nat} (h : row[k]? = some n) : opsAt l a (row.drop k) = if isOpAt l a n then n else opsAt l a (row.drop (k + 1)) := by
  rw [drop_cons h, opsAt]
set_option maxHeartbeats 4000000 in
theorem op_c (l : List Tok) (w0 W : World) (rb : Nat) (lv ov : Value) (a d : Nat) (o : List Prt) (hl : TokL w0 lv l) (h : Rd w0 rb lv a d ov o W) (ha : a ≤ l.length) (hG : GX W) (row : List Nat) (hr : ∀ n ∈ row, 1 ≤ n ∧ n ≤ 16) (v : Value) (hv : Sl encI 1 W v (row.map Int.ofNat)) :
    Calls Tryz.prog 33 #[.pointer (some ⟨rb, 0, none⟩), v] W fun e w' => e = .returned (.int .i64 (opsAt l a row : Nat)) ∧ Below W.heap.size W w' := by
  have HI := Lib.hid (fun W' (hb : Below W.heap.size W W') k s => is_c l w0 W' rb lv ov a d o hl (h.below hb) ha k s)
  have HG := Lib.hid hG
  have HRW := Lib.hid hr
  obtain ⟨A, c, rfl, h1, h2, h3⟩ := hv
  rw [List.length_map] at h1
  rw [List.length_map]
  obtain ⟨L, hL⟩ : ∃ L, row.length = L := ⟨_, rfl⟩
  have HL := Lib.hid (show ∀ k, k < L → ∃ n, row[k]? = some n from fun k hk => ⟨row[k]'(by omega), List.getElem?_eq_getElem (by omega)⟩)
  have HLN := Lib.hid hL
  have HC := Lib.hid h3
  rw [hL] at h1 ⊢
  clear hl h ha hG hr h3 hL
  go_enter Tryz.func33, Tryz.ntmps33
  go_wp2
  go_loopg [9] L (fun gg s9 wr => ∃ k : Nat, s9 = .int .i64 k ∧ k ≤ L ∧ L - k ≤ gg ∧ Aside (Below W.heap.size W wr) ∧ Aside (opsAt l a (row.drop k) = opsAt l a row))
  case atStart => exact ⟨0, rfl, Nat.zero_le _, by omega, (show Below W.heap.size W _ from by (repeat' (first | (with_reducible exact Below.refl _ _) | (with_reducible refine below_alloc ?_) | (with_reducible refine below_drew ?_) | (with_reducible refine below_drewN ?_) | (with_reducible refine below_set (by first | (simp; done) | (simp; omega)) ?_) | (with_reducible refine below_call (by with_reducible assumption) ?_)))), rfl⟩
  case round =>
    obtain ⟨k, rfl, hk, hg, HB, HO⟩ := hrel
    have hB := HB.out
    have hk0 : (0 : Int) ≤ (k : Int) := Int.natCast_nonneg _
    by_cases hlt : k < L
    · obtain ⟨n, hn⟩ := HL.out k hlt
      obtain ⟨hn1, hn16⟩ := HRW.out n (List.mem_of_getElem? hn)
      obtain ⟨b, off, rfl, hb, hx⟩ := HC.out k (Int.ofNat n) (by rw [List.getElem?_map, hn]; rfl)
      have e0 : wr.cell? ⟨b, off + k, none⟩ = some (.int .i64 (n : Int)) := (hB.cell (p := ⟨b, off + k, none⟩) hb).trans (by simpa using hx 0 _ rfl)
      have HS := Lib.hid (show ∀ W', Below W.heap.size W W' → W'.cell? ⟨1, n, none⟩ = some (.string (signAt n)) from fun W' hW => (HG.out.below hW).signs n _ (by unfold signAt; rw [List.getD_eq_getElem?_getD, List.getElem?_eq_getElem (show n < signTxt.length from by show n < 17; omega)]; rfl))
      have s0 := HS.out _ hB
      have HN := Lib.hid (opsAt_drop (l := l) (a := a) hn)
      have hltz : (k : Int) < (L : Int) := by omega
      have hn0 : (0 : Int) ≤ (n : Int) := Int.natCast_nonneg _
      have hnz : (n : Int) < 17 := by omega
      have HT := Lib.hid (show isOpAt l a n = (isTok l a 3 (signAt n) || isTok l a 1 (signAt n) || (n == 6 && (isTok l a 3 ⟨#[38]⟩ || isTok l a 1 ⟨#[38]⟩))) from rfl)
      have H1 := Lib.hid (fun W' (hb : Below W.heap.size W W') => HI.out W' hb 3 (signAt n))
      have H2 := Lib.hid (fun W' (hb : Below W.heap.size W W') => HI.out W' hb 1 (signAt n))
      have H3 := Lib.hid (fun W' (hb : Below W.heap.size W W') => HI.out W' hb 3 ⟨#[38]⟩)
      have H4 := Lib.hid (fun W' (hb : Below W.heap.size W W') => HI.out W' hb 1 ⟨#[38]⟩)
      clear hx hn
      cases h1 : isTok l a 3 (signAt n) with
      | true =>
        rw [h1] at H1
        have HR := Lib.hid (show opsAt l a row = n by rw [← HO.out, HN.out, HT.out, h1]; rfl)
        clear h1
        go_wp2_with (first | (go_at_call 57; refine (H1.out _ (by (repeat' (first | (with_reducible exact Below.refl _ _) | (with_reducible refine below_alloc ?_) | (with_reducible refine below_drew ?_) | (with_reducible refine below_drewN ?_) | (with_reducible refine below_set (by first | (simp; done) | (simp; omega)) ?_) | (with_reducible refine below_call (by with_reducible assumption) ?_))))).mono ?_; rintro e w1 ⟨rfl, hb1⟩))
        go_ret
        exact ⟨by rw [HR.out]; rfl, by (repeat' (first | (with_reducible exact Below.refl _ _) | (with_reducible refine below_alloc ?_) | (with_reducible refine below_drew ?_) | (with_reducible refine below_drewN ?_) | (with_reducible refine below_set (by first | (simp; done) | (simp; omega)) ?_) | (with_reducible refine below_call (by with_reducible assumption) ?_)))⟩
      | false =>
        rw [h1] at H1
        cases h2 : isTok l a 1 (signAt n) with
        | true =>
          rw [h2] at H2
          have HR := Lib.hid (show opsAt l a row = n by rw [← HO.out, HN.out, HT.out, h1, h2]; rfl)
          clear h1 h2
          go_wp2_with (first
            | (go_at_call_of 57 (Value.int .i64 3); refine (H1.out _ (by (repeat' (first | (with_reducible exact Below.refl _ _) | (with_reducible refine below_alloc ?_) | (with_reducible refine below_drew ?_) | (with_reducible refine below_drewN ?_) | (with_reducible refine below_set (by first | (simp; done) | (simp; omega)) ?_) | (with_reducible refine below_call (by with_reducible assumption) ?_))))).mono ?_; rintro e w1 ⟨rfl, hb1⟩; have s1 := HS.out _ (below_call hb1 (by (repeat' (first | (with_reducible exact Below.refl _ _) | (with_reducible refine below_alloc ?_) | (with_reducible refine below_drew ?_) | (with_reducible refine below_drewN ?_) | (with_reducible refine below_set (by first | (simp; done) | (simp; omega)) ?_) | (with_reducible refine below_call (by with_reducible assumption) ?_))))))
            | (go_at_call_of 57 (Value.int .i64 1); refine (H2.out _ (by (repeat' (first | (with_reducible exact Below.refl _ _) | (with_reducible refine below_alloc ?_) | (with_reducible refine below_drew ?_) | (with_reducible refine below_drewN ?_) | (with_reducible refine below_set (by first | (simp; done) | (simp; omega)) ?_) | (with_reducible refine below_call (by with_reducible assumption) ?_))))).mono ?_; rintro e w2 ⟨rfl, hb2⟩))
          go_ret
          exact ⟨by rw [HR.out]; rfl, by (repeat' (first | (with_reducible exact Below.refl _ _) | (with_reducible refine below_alloc ?_) | (with_reducible refine below_drew ?_) | (with_reducible refine below_drewN ?_) | (with_reducible refine below_set (by first | (simp; done) | (simp; omega)) ?_) | (with_reducible refine below_call (by with_reducible assumption) ?_)))⟩
        | false =>
          rw [h2] at H2
          by_cases hn6 : n = 6
          · have hq : ((n : Int) == 6) = true := by rw [hn6]; rfl
            cases h3 : isTok l a 3 ⟨#[38]⟩ with
            | true =>
              rw [h3] at H3
              have HR := Lib.hid (show opsAt l a row = n by rw [← HO.out, HN.out, HT.out, h1, h2, h3, hn6]; rfl)
              clear h1 h2 h3 hn6
              go_wp2_with (first
                | (go_at_call_of 57 (Value.int .i64 3); refine (H1.out _ (by (repeat' (first | (with_reducible exact Below.refl _ _) | (with_reducible refine below_alloc ?_) | (with_reducible refine below_drew ?_) | (with_reducible refine below_drewN ?_) | (with_reducible refine below_set (by first | (simp; done) | (simp; omega)) ?_) | (with_reducible refine below_call (by with_reducible assumption) ?_))))).mono ?_; rintro e w1 ⟨rfl, hb1⟩; have s1 := HS.out _ (below_call hb1 (by (repeat' (first | (with_reducible exact Below.refl _ _) | (with_reducible refine below_alloc ?_) | (with_reducible refine below_drew ?_) | (with_reducible refine below_drewN ?_) | (with_reducible refine below_set (by first | (simp; done) | (simp; omega)) ?_) | (with_reducible refine below_call (by with_reducible assumption) ?_))))); clear H1)
                | (go_at_call_of 57 (Value.int .i64 1); refine (H2.out _ (by (repeat' (first | (with_reducible exact Below.refl _ _) | (with_reducible refine below_alloc ?_) | (with_reducible refine below_drew ?_) | (with_reducible refine below_drewN ?_) | (with_reducible refine below_set (by first | (simp; done) | (simp; omega)) ?_) | (with_reducible refine below_call (by with_reducible assumption) ?_))))).mono ?_; rintro e w2 ⟨rfl, hb2⟩; clear H2)
                | (go_at_call_of 57 (Value.int .i64 3); refine (H3.out _ (by (repeat' (first | (with_reducible exact Below.refl _ _) | (with_reducible refine below_alloc ?_) | (with_reducible refine below_drew ?_) | (with_reducible refine below_drewN ?_) | (with_reducible refine below_set (by first | (simp; done) | (simp; omega)) ?_) | (with_reducible refine below_call (by with_reducible assumption) ?_))))).mono ?_; rintro e w3 ⟨rfl, hb3⟩))
              go_ret
              exact ⟨by rw [HR.out]; rfl, by (repeat' (first | (with_reducible exact Below.refl _ _) | (with_reducible refine below_alloc ?_) | (with_reducible refine below_drew ?_) | (with_reducible refine below_drewN ?_) | (with_reducible refine below_set (by first | (simp; done) | (simp; omega)) ?_) | (with_reducible refine below_call (by with_reducible assumption) ?_)))⟩
            | false =>
              rw [h3] at H3
              cases h4 : isTok l a 1 ⟨#[38]⟩ with
              | true =>
                rw [h4] at H4
                have HR := Lib.hid (show opsAt l a row = n by rw [← HO.out, HN.out, HT.out, h1, h2, h3, h4, hn6]; rfl)
                clear h1 h2 h3 h4 hn6
                go_wp2_with (first
                  | (go_at_call_of 57 (Value.int .i64 3); refine (H1.out _ (by (repeat' (first | (with_reducible exact Below.refl _ _) | (with_reducible refine below_alloc ?_) | (with_reducible refine below_drew ?_) | (with_reducible refine below_drewN ?_) | (with_reducible refine below_set (by first | (simp; done) | (simp; omega)) ?_) | (with_reducible refine below_call (by with_reducible assumption) ?_))))).mono ?_; rintro e w1 ⟨rfl, hb1⟩; have s1 := HS.out _ (below_call hb1 (by (repeat' (first | (with_reducible exact Below.refl _ _) | (with_reducible refine below_alloc ?_) | (with_reducible refine below_drew ?_) | (with_reducible refine below_drewN ?_) | (with_reducible refine below_set (by first | (simp; done) | (simp; omega)) ?_) | (with_reducible refine below_call (by with_reducible assumption) ?_))))); clear H1)
                  | (go_at_call_of 57 (Value.int .i64 1); refine (H2.out _ (by (repeat' (first | (with_reducible exact Below.refl _ _) | (with_reducible refine below_alloc ?_) | (with_reducible refine below_drew ?_) | (with_reducible refine below_drewN ?_) | (with_reducible refine below_set (by first | (simp; done) | (simp; omega)) ?_) | (with_reducible refine below_call (by with_reducible assumption) ?_))))).mono ?_; rintro e w2 ⟨rfl, hb2⟩; clear H2)
                  | (go_at_call_of 57 (Value.int .i64 3); refine (H3.out _ (by (repeat' (first | (with_reducible exact Below.refl _ _) | (with_reducible refine below_alloc ?_) | (with_reducible refine below_drew ?_) | (with_reducible refine below_drewN ?_) | (with_reducible refine below_set (by first | (simp; done) | (simp; omega)) ?_) | (with_reducible refine below_call (by with_reducible assumption) ?_))))).mono ?_; rintro e w3 ⟨rfl, hb3⟩; clear H3)
                  | (go_at_call_of 57 (Value.int .i64 1); refine (H4.out _ (by (repeat' (first | (with_reducible exact Below.refl _ _) | (with_reducible refine below_alloc ?_) | (with_reducible refine below_drew ?_) | (with_reducible refine below_drewN ?_) | (with_reducible refine below_set (by first | (simp; done) | (simp; omega)) ?_) | (with_reducible refine below_call (by with_reducible assumption) ?_))))).mono ?_; rintro e w4 ⟨rfl, hb4⟩))
                go_ret
                exact ⟨by rw [HR.out]; rfl, by (repeat' (first | (with_reducible exact Below.refl _ _) | (with_reducible refine below_alloc ?_) | (with_reducible refine below_drew ?_) | (with_reducible refine below_drewN ?_) | (with_reducible refine below_set (by first | (simp; done) | (simp; omega)) ?_) | (with_reducible refine below_call (by with_reducible assumption) ?_)))⟩
              | false =>
                rw [h4] at H4
                have HR := Lib.hid (show opsAt l a (row.drop (k + 1)) = opsAt l a row by rw [← HO.out, HN.out, HT.out, h1, h2, h3, h4]; simp)
                clear h1 h2 h3 h4 hn6
                go_wp2_with (first
                  | (go_at_call_of 57 (Value.int .i64 3); refine (H1.out _ (by (repeat' (first | (with_reducible exact Below.refl _ _) | (with_reducible refine below_alloc ?_) | (with_reducible refine below_drew ?_) | (with_reducible refine below_drewN ?_) | (with_reducible refine below_set (by first | (simp; done) | (simp; omega)) ?_) | (with_reducible refine below_call (by with_reducible assumption) ?_))))).mono ?_; rintro e w1 ⟨rfl, hb1⟩; have s1 := HS.out _ (below_call hb1 (by (repeat' (first | (with_reducible exact Below.refl _ _) | (with_reducible refine below_alloc ?_) | (with_reducible refine below_drew ?_) | (with_reducible refine below_drewN ?_) | (with_reducible refine below_set (by first | (simp; done) | (simp; omega)) ?_) | (with_reducible refine below_call (by with_reducible assumption) ?_))))); clear H1)
                  | (go_at_call_of 57 (Value.int .i64 1); refine (H2.out _ (by (repeat' (first | (with_reducible exact Below.refl _ _) | (with_reducible refine below_alloc ?_) | (with_reducible refine below_drew ?_) | (with_reducible refine below_drewN ?_) | (with_reducible refine below_set (by first | (simp; done) | (simp; omega)) ?_) | (with_reducible refine below_call (by with_reducible assumption) ?_))))).mono ?_; rintro e w2 ⟨rfl, hb2⟩; clear H2)
                  | (go_at_call_of 57 (Value.int .i64 3); refine (H3.out _ (by (repeat' (first | (with_reducible exact Below.refl _ _) | (with_reducible refine below_alloc ?_) | (with_reducible refine below_drew ?_) | (with_reducible refine below_drewN ?_) | (with_reducible refine below_set (by first | (simp; done) | (simp; omega)) ?_) | (with_reducible refine below_call (by with_reducible assumption) ?_))))).mono ?_; rintro e w3 ⟨rfl, hb3⟩; clear H3)
                  | (go_at_call_of 57 (Value.int .i64 1); refine (H4.out _ (by (repeat' (first | (with_reducible exact Below.refl _ _) | (with_reducible refine below_alloc ?_) | (with_reducible refine below_drew ?_) | (with_reducible refine below_drewN ?_) | (with_reducible refine below_set (by first | (simp; done) | (simp; omega)) ?_) | (with_reducible refine below_call (by with_reducible assumption) ?_))))).mono ?_; rintro e w4 ⟨rfl, hb4⟩))
                go_roundg (L - (k + 1))
                case measure => omega
                case rel => exact ⟨k + 1, by go_num, by omega, by omega, (show Below W.heap.size W _ from below_call hb4 (below_call hb3 (below_call hb2 (below_call hb1 hB)))), HR.out⟩
          · have hq : ((n : Int) == 6) = false := by simp; omega
            have HR := Lib.hid (show opsAt l a (row.drop (k + 1)) = opsAt l a row by rw [← HO.out, HN.out, HT.out, h1, h2, show (n == 6) = false by simpa using hn6]; rfl)
            clear h1 h2 hn6
            go_wp2_with (first
              | (go_at_call_of 57 (Value.int .i64 3); refine (H1.out _ (by (repeat' (first | (with_reducible exact Below.refl _ _) | (with_reducible refine below_alloc ?_) | (with_reducible refine below_drew ?_) | (with_reducible refine below_drewN ?_) | (with_reducible refine below_set (by first | (simp; done) | (simp; omega)) ?_) | (with_reducible refine below_call (by with_reducible assumption) ?_))))).mono ?_; rintro e w1 ⟨rfl, hb1⟩; have s1 := HS.out _ (below_call hb1 (by (repeat' (first | (with_reducible exact Below.refl _ _) | (with_reducible refine below_alloc ?_) | (with_reducible refine below_drew ?_) | (with_reducible refine below_drewN ?_) | (with_reducible refine below_set (by first | (simp; done) | (simp; omega)) ?_) | (with_reducible refine below_call (by with_reducible assumption) ?_))))))
              | (go_at_call_of 57 (Value.int .i64 1); refine (H2.out _ (by (repeat' (first | (with_reducible exact Below.refl _ _) | (with_reducible refine below_alloc ?_) | (with_reducible refine below_drew ?_) | (with_reducible refine below_drewN ?_) | (with_reducible refine below_set (by first | (simp; done) | (simp; omega)) ?_) | (with_reducible refine below_call (by with_reducible assumption) ?_))))).mono ?_; rintro e w2 ⟨rfl, hb2⟩))
            go_roundg (L - (k + 1))
            case measure => omega
            case rel => exact ⟨k + 1, by go_num, by omega, by omega, (show Below W.heap.size W _ from below_call hb2 (below_call hb1 hB)), HR.out⟩
    · obtain rfl : k = L := by omega
      have hltz : ¬ (k : Int) < (k : Int) := by omega
      have HR := Lib.hid (show opsAt l a row = 0 by rw [← HO.out, List.drop_eq_nil_of_le (by have := HLN.out; omega)]; rfl)
      go_wp2
      go_ret
      exact ⟨by rw [HR.out]; rfl, by (repeat' (first | (with_reducible exact Below.refl _ _) | (with_reducible refine below_alloc ?_) | (with_reducible refine below_drew ?_) | (with_reducible refine below_drewN ?_) | (with_reducible refine below_set (by first | (simp; done) | (simp; omega)) ?_) | (with_reducible refine below_call (by with_reducible assumption) ?_)))⟩
end Go.Proofs.YtbnelgniekcjdaaGreatDoor
