/- capstanlaw06: read and works. -/
import Derived.Test.YtbnelgniekcjdaaGreatDoorCLexJ
import Derived.Test.YtbnelgniekcjdaaGreatDoorCRdK
import Derived.Test.YtbnelgniekcjdaaGreatDoorCSameP
set_option linter.unusedSimpArgs false
set_option linter.unusedVariables false
namespace Cap
open Go Go.RowKit
theorem oneS_small {q : List UInt8} {t : Tok} {n : Nat} (h : oneS q = some (t, n)) : t.s.size ≤ 24 := by
  have h2 : ∀ x ∈ signs2 ++ signs1, x.length ≤ 24 := by decide
  unfold oneS at h
  split at h
  · cases h
  · split at h
    · simp only at h
      split at h
      · cases h
      · rename_i hn
        cases h
        simp only [not_or] at hn
        simp [ByteArray.size]
        omega
    · split at h
      · simp only at h
        split at h
        · cases h
        · cases h
          exact Nat.zero_le _
      · split at h
        · cases h
        · rename_i s0 hs
          cases h
          have := h2 _ (List.mem_of_find?_eq_some hs)
          simpa [ByteArray.size] using this
theorem tokS_small : ∀ (f p : Nat) (r : List UInt8) (l : List Tok), tokS f p r = some l → l.length ≤ f ∧ ∀ t ∈ l, t.s.size ≤ 24
  | 0, _, _, _, h => by cases h
  | f + 1, p, r, l, h => by
    rw [tokS] at h
    split at h
    · cases h
    · split at h
      · cases h
        refine ⟨by simp, fun t ht => ?_⟩
        rw [List.mem_singleton] at ht
        subst ht
        exact Nat.zero_le _
      · split at h
        · cases h
        · rename_i t n h1
          split at h
          · cases h
          · rename_i l' h2
            cases h
            obtain ⟨h3, h4⟩ := tokS_small f _ _ _ h2
            refine ⟨by simp only [List.length_cons]; omega, fun u hu => ?_⟩
            rcases List.mem_cons.1 hu with rfl | hu
            · exact (show t.s.size ≤ 24 from oneS_small h1)
            · exact h4 u hu
theorem textToks_small {s : ByteArray} {l : List Tok} (h : textToks s = some l) : l.length ≤ 4097 ∧ ∀ t ∈ l, t.s.size ≤ 24 := by
  unfold textToks at h
  split at h
  · rename_i hs
    obtain ⟨h1, h2⟩ := tokS_small _ _ _ _ h
    exact ⟨by omega, h2⟩
  · cases h
/-- What read reads, of a plain text. -/
def readS (s : ByteArray) : Option (List Prt) := match textToks s with
  | none => none
  | some l => match parseP l 0 with
    | .no _ _ => none
    | .ok x n => if n = (l.length : Int) - 1 then some x else none
end Cap
namespace Go.Proofs.YtbnelgniekcjdaaGreatDoor
open Go.RowKit Cap
set_option maxRecDepth 100000

/-- What the package-level variables hold that lexer and reader read. -/
structure GE (w : World) : Prop where
  x : GX w
  l : GL w
theorem GE.below {w w' : World} (h : GE w) (hb : Below w.heap.size w w') : GE w' := ⟨h.x.below hb, h.l.below hb⟩
theorem own_set {w : World} {base : Nat} {e : TypeId} {k : Nat} {v : Value} {n : Nat} {xs : List Value} (h : w.ownsRow base e k v n xs) {B : Nat} (hB : B < base) (j : Nat) (u : Value) : (w.setCell ⟨B, j, none⟩ u).ownsRow base e k v n xs :=
  own_keep h fun g hg => heap_setCell_other w ⟨B, j, none⟩ g u (by have := (own_lt h g hg).1; show g ≠ B; omega)
set_option maxHeartbeats 4000000 in
theorem read_c (s : ByteArray) (x : List Prt) (w : World) (hG : GE w) (hr : readS s = some x) :
    Calls Tryz.prog 8 #[.string s] w fun e w' => ∃ v, e = .returned (.tuple #[v, .bool true]) ∧ Sl encPrt 5 w' v x ∧ Below w.heap.size w w' := by
  unfold readS at hr
  split at hr
  · cases hr
  · rename_i l hl
    split at hr
    · cases hr
    · rename_i y n hp
      split at hr
      · rename_i hn
        cases hr
        obtain ⟨hs1, hs2⟩ := textToks_small hl
        have HT := Lib.hid (tokens_c s l w hG.l hl)
        have HP := Lib.hid (fun (W : World) (v : Value) (hW : Below w.heap.size w W) (hv : TokL W v l) => hp ▸ parse_c l W v 0 hv (by unfold TokMax; omega) (hG.x.below hW) (fun t ht => by have := hs2 t ht; omega))
        have HN := Lib.hid hn
        have hl0 : (0 : Int) ≤ (l.length : Int) := Int.natCast_nonneg _
        have hl1 : (l.length : Int) ≤ 4097 := by omega
        clear hG hl hp hs2 hn
        go_enter Tryz.func8, Tryz.ntmps8
        go_wp2_with (first
          | (go_at_call 15; refine HT.out.mono ?_; rintro e w1 ⟨v1, rfl, ho1, hb1⟩; obtain ⟨A1, c1, rfl⟩ := own_slice ho1; have HL1 := Lib.hid (Sl.own encTok_len ho1 rfl); clear ho1))
        refine (HP.out _ _ (by (repeat' (first | (with_reducible exact Below.refl _ _) | (with_reducible refine below_alloc ?_) | (with_reducible refine below_drew ?_) | (with_reducible refine below_drewN ?_) | (with_reducible refine below_set (by first | (simp; done) | (simp; omega)) ?_) | (with_reducible refine below_call (by with_reducible assumption) ?_)))) (HL1.out.below (by (repeat' (first | (with_reducible exact Below.refl _ _) | (with_reducible refine below_alloc ?_) | (with_reducible refine below_drew ?_) | (with_reducible refine below_drewN ?_) | (with_reducible refine below_set (by first | (simp; done) | (simp; omega)) ?_) | (with_reducible refine below_call (by with_reducible assumption) ?_)))))).mono ?_
        rintro e w2 hE
        cases hE with
        | @ok _ _ v2 w2 h2 hb2 =>
          have HX := Lib.hid (Sl.own encPrt_len h2 rfl)
          have HO2 := Lib.hid h2
          have hbx := (hb2.block w1.heap.size (by simp)).trans (heap_alloc_new _ _)
          have b0 := cell_of_row _ _ 0 _ _ _ hbx
          have b1 := cell_of_row _ _ 1 _ _ _ hbx
          have f0 := frozen_of_row _ _ 0 _ _ hbx
          have f1 := frozen_of_row _ _ 1 _ _ hbx
          simp at b0 b1
          have hlt := hb2.size
          simp at hlt
          have HB2 := Lib.hid hb2
          have HB1 := Lib.hid hb1
          have hsz1 := hb1.size
          have HBX := Lib.hid hbx
          clear h2 hb2 hbx hb1
          obtain ⟨A2, c2, rfl, p1, p2, p3⟩ := HX.out
          clear p1 p2 p3
          have hnb : (n == (l.length : Int) - 1) = true := by simp [HN.out]
          go_wp2
          go_ret2
          refine ⟨_, rfl, Sl.own encPrt_len (own_set (own_set HO2.out (by simp) _ _) (by simp) _ _) rfl, ?_⟩
          exact below_set (by show w.heap.size ≤ w1.heap.size; omega) (below_set (by show w.heap.size ≤ w1.heap.size; omega) (below_call HB2.out (below_alloc HB1.out)))
      · cases hr
def bA : ByteArray := ⟨#[65]⟩
def ex1 : List Prt := [varP ⟨#[65]⟩, varP ⟨#[66]⟩, numP 2 0, opP 3, opP 1, numP 7 0, opP 11]
def ex2 : List Prt := [varP ⟨#[73]⟩, numP 1 0, opP 1, indexP ⟨#[65]⟩, opP 16, fieldP ⟨#[84]⟩ ⟨#[81]⟩, opP 6]
theorem ex1_read : readS ⟨#[97, 32, 43, 32, 98, 32, 42, 32, 50, 32, 60, 32, 55]⟩ = some ex1 := by kernel_rfl
theorem ex2_read : readS ⟨#[110, 111, 116, 32, 97, 91, 105, 32, 43, 32, 49, 93, 32, 97, 110, 100, 32, 116, 46, 113]⟩ = some ex2 := by kernel_rfl
set_option maxHeartbeats 8000000 in
theorem works_c (w : World) (hG : GE w) : Calls Tryz.prog 7 #[] w fun e w' => e = .returned (.bool true) ∧ Below w.heap.size w w' := by
  have H1 := Lib.hid (fun (W : World) (hW : Below w.heap.size w W) => read_c _ ex1 W (hG.below hW) ex1_read)
  have H2 := Lib.hid (fun (W : World) (hW : Below w.heap.size w W) => read_c _ ex2 W (hG.below hW) ex2_read)
  clear hG
  go_enter Tryz.func7, Tryz.ntmps7
  go_wp2_with (first
    | (go_at_call 8; refine (H1.out _ (by (repeat' (first | (with_reducible exact Below.refl _ _) | (with_reducible refine below_alloc ?_) | (with_reducible refine below_drew ?_) | (with_reducible refine below_drewN ?_) | (with_reducible refine below_set (by first | (simp; done) | (simp; omega)) ?_) | (with_reducible refine below_call (by with_reducible assumption) ?_))))).mono ?_; clear H1; rintro e w1 ⟨v1, rfl, hv1, hb1⟩; have HV1 := Lib.hid hv1; clear hv1)
    | (go_at_call 8; refine (H2.out _ (by (repeat' (first | (with_reducible exact Below.refl _ _) | (with_reducible refine below_alloc ?_) | (with_reducible refine below_drew ?_) | (with_reducible refine below_drewN ?_) | (with_reducible refine below_set (by first | (simp; done) | (simp; omega)) ?_) | (with_reducible refine below_call (by with_reducible assumption) ?_))))).mono ?_; rintro e w2 ⟨v2, rfl, hv2, hb2⟩; obtain ⟨A2, c2, rfl, q1, q2, q3⟩ := hv2; rw [show ex2.length = 7 from rfl] at q1 ⊢; obtain ⟨b, off, rfl, hbb, hx3⟩ := q3 3 (indexP ⟨#[65]⟩) rfl; obtain ⟨b', off', he, hbb', hx5⟩ := q3 5 (fieldP ⟨#[84]⟩ ⟨#[81]⟩) rfl; injection he with he; injection he with he1 he2 he3; subst he1 he2; clear he3 q3))
  have hb2' : Below w.heap.size w w2 := by (repeat' (first | (with_reducible exact Below.refl _ _) | (with_reducible refine below_alloc ?_) | (with_reducible refine below_drew ?_) | (with_reducible refine below_drewN ?_) | (with_reducible refine below_set (by first | (simp; done) | (simp; omega)) ?_) | (with_reducible refine below_call (by with_reducible assumption) ?_)))
  have HSM := Lib.hid (samep_c ex1 ex1 v1 (.slice (some ⟨w2.heap.size, 0, none⟩) 7 7) _ ((HV1.out.below hb2).below (below_alloc (Below.refl _ _))) (Sl.lit encPrt_len w2 _ 44 7 ex1 rfl rfl (by decide)))
  rw [sameP_refl] at HSM
  refine HSM.out.mono ?_
  rintro e w3 ⟨rfl, hb3⟩
  have hb23 : Below w2.heap.size w2 w3 := by (repeat' (first | (with_reducible exact Below.refl _ _) | (with_reducible refine below_alloc ?_) | (with_reducible refine below_drew ?_) | (with_reducible refine below_drewN ?_) | (with_reducible refine below_set (by first | (simp; done) | (simp; omega)) ?_) | (with_reducible refine below_call (by with_reducible assumption) ?_)))
  have a0 : w3.cell? ⟨b, off + 15, none⟩ = some (.int .i64 3) := (hb23.cell (p := ⟨b, off + 15, none⟩) hbb).trans (hx3 0 _ rfl)
  have a1 : w3.cell? ⟨b, off + 16, none⟩ = some (.int .i64 0) := (hb23.cell (p := ⟨b, off + 16, none⟩) hbb).trans (hx3 1 _ rfl)
  have a2 : w3.cell? ⟨b, off + 17, none⟩ = some (.int .i64 0) := (hb23.cell (p := ⟨b, off + 17, none⟩) hbb).trans (hx3 2 _ rfl)
  have a3 : w3.cell? ⟨b, off + 18, none⟩ = some (.string ⟨#[65]⟩) := (hb23.cell (p := ⟨b, off + 18, none⟩) hbb).trans (hx3 3 _ rfl)
  have a4 : w3.cell? ⟨b, off + 19, none⟩ = some (.string ⟨#[]⟩) := (hb23.cell (p := ⟨b, off + 19, none⟩) hbb).trans (hx3 4 _ rfl)
  have e0 : w3.cell? ⟨b, off + 25, none⟩ = some (.int .i64 4) := (hb23.cell (p := ⟨b, off + 25, none⟩) hbb).trans (hx5 0 _ rfl)
  have e1 : w3.cell? ⟨b, off + 26, none⟩ = some (.int .i64 0) := (hb23.cell (p := ⟨b, off + 26, none⟩) hbb).trans (hx5 1 _ rfl)
  have e2 : w3.cell? ⟨b, off + 27, none⟩ = some (.int .i64 0) := (hb23.cell (p := ⟨b, off + 27, none⟩) hbb).trans (hx5 2 _ rfl)
  have e3 : w3.cell? ⟨b, off + 28, none⟩ = some (.string ⟨#[84]⟩) := (hb23.cell (p := ⟨b, off + 28, none⟩) hbb).trans (hx5 3 _ rfl)
  have e4 : w3.cell? ⟨b, off + 29, none⟩ = some (.string ⟨#[81]⟩) := (hb23.cell (p := ⟨b, off + 29, none⟩) hbb).trans (hx5 4 _ rfl)
  have HB := Lib.hid (show Below w.heap.size w w3 from below_call hb23 hb2')
  clear hx3 hx5 HSM
  go_wp2
  all_goals go_ret
  all_goals exact ⟨rfl, HB.out⟩
end Go.Proofs.YtbnelgniekcjdaaGreatDoor
