/- capstanref15.Check, Deep, Reached. -/
import Derived.Test.YtefpgjocfgeenaaGreatDoorRef15f
import Derived.Test.YtefpgjocfgeenaaGreatDoorReached
import Derived.Test.YtefpgjocfgeenaaGreatDoorDeadLaw
namespace Go.Proofs.YtefpgjocfgeenaaGreatDoor
open Go.RowKit Cap
set_option maxRecDepth 100000

theorem one_B : ∀ x, ∀ u ∈ encB x, u.oneCell' = true := fun x u hu => by
  obtain rfl := List.mem_singleton.1 hu
  rfl
theorem stV_two (r d : Bool) : (stV r d == 2) = d := by cases r <;> cases d <;> rfl
theorem clear_same {rs ds : List Bool} {n : Nat} (hc : Clear rs ds n) (hd : ∀ j, ds.getD j false = true → rs.getD j false = true) {j : Nat} (hj : j < n) : ds.getD j false = rs.getD j false := by
  have h1 := hc j hj
  have h2 := hd j
  cases hr : rs.getD j false <;> cases hq : ds.getD j false <;> rw [hr, hq] at h1 h2 <;> simp_all
theorem take_one {rs : List Bool} {k : Nat} (hk : k < rs.length) : rs.take (k + 1) = rs.take k ++ [rs.getD k false] := by
  rw [List.take_succ_eq_append_getElem hk, List.getD_eq_getElem?_getD, List.getElem?_eq_getElem hk]
  rfl
theorem rcheck15_c (x : Img) (vx : Value) (w : World) (hx : ImgV w vx x) (hl : x.ins.length + x.outs.length ≤ 1099511627776) (hi : ImgOk x) :
    Calls Tryz.prog 12 #[vx] w fun e w' => e = .returned (.tuple #[.int .i64 (verifyNE x).1, .int .i64 (verifyNE x).2]) ∧ Below w.heap.size w w' := by
  have HR := Lib.hid (fun W (hW : Below w.heap.size w W) => rrun_c x vx W (hx.below hW) hl hi)
  obtain ⟨vt, vf, vi, vo, vc, rfl, -⟩ := hx
  cases hq : verifyL x with
  | error ne =>
    obtain ⟨at_, er⟩ := ne
    have HN := Lib.hid (show verifyNE x = (at_, er) by simp [verifyNE, hq])
    have HQ := Lib.hid hq
    clear hq
    go_enter Tryz.func12, Tryz.ntmps12
    go_wp2_with (go_at_call 36; refine (HR.out _ (by (repeat' (first | (with_reducible exact Below.refl _ _) | (with_reducible refine below_alloc ?_) | (with_reducible refine below_drew ?_) | (with_reducible refine below_drewN ?_) | (with_reducible refine below_set (by simp; omega) ?_) | (with_reducible refine below_call (by with_reducible assumption) ?_))))).mono ?_; rw [HQ.out]; rintro e w1 (⟨hb⟩ | _); obtain ⟨hc, hf⟩ := bcell hb; have hz := hb.size; (try simp at hz); (try have hz1 := Nat.lt_of_succ_le hz); (try have hz2 := Nat.lt_of_succ_lt hz1); (try have hz3 := Nat.lt_of_succ_lt hz2); (try have hz4 := Nat.lt_of_succ_lt hz3))
    go_ret2
    exact ⟨by rw [HN.out]; rfl, by (repeat' (first | (with_reducible exact Below.refl _ _) | (with_reducible refine below_alloc ?_) | (with_reducible refine below_drew ?_) | (with_reducible refine below_drewN ?_) | (with_reducible refine below_set (by simp; omega) ?_) | (with_reducible refine below_call (by with_reducible assumption) ?_)))⟩
  | ok r =>
    obtain ⟨rs, ss, deep⟩ := r
    have HN := Lib.hid (show verifyNE x = (0, 0) by simp [verifyNE, hq])
    have HQ := Lib.hid hq
    clear hq
    go_enter Tryz.func12, Tryz.ntmps12
    go_wp2_with (go_at_call 36; refine (HR.out _ (by (repeat' (first | (with_reducible exact Below.refl _ _) | (with_reducible refine below_alloc ?_) | (with_reducible refine below_drew ?_) | (with_reducible refine below_drewN ?_) | (with_reducible refine below_set (by simp; omega) ?_) | (with_reducible refine below_call (by with_reducible assumption) ?_))))).mono ?_; rw [HQ.out]; rintro e w1 (_ | ⟨hb, -, -, -⟩); obtain ⟨hc, hf⟩ := bcell hb; have hz := hb.size; (try simp at hz); (try have hz1 := Nat.lt_of_succ_le hz); (try have hz2 := Nat.lt_of_succ_lt hz1); (try have hz3 := Nat.lt_of_succ_lt hz2); (try have hz4 := Nat.lt_of_succ_lt hz3))
    go_ret2
    exact ⟨by rw [HN.out]; rfl, by (repeat' (first | (with_reducible exact Below.refl _ _) | (with_reducible refine below_alloc ?_) | (with_reducible refine below_drew ?_) | (with_reducible refine below_drewN ?_) | (with_reducible refine below_set (by simp; omega) ?_) | (with_reducible refine below_call (by with_reducible assumption) ?_)))⟩
theorem rdeep15_c (x : Img) (vx : Value) (w : World) (hx : ImgV w vx x) (hl : x.ins.length + x.outs.length ≤ 1099511627776) (hi : ImgOk x) :
    Calls Tryz.prog 14 #[vx] w fun e w' => e = .returned (.tuple #[.int .i64 (deepNE x).1, .int .i64 (deepNE x).2]) ∧ Below w.heap.size w w' := by
  have HR := Lib.hid (fun W (hW : Below w.heap.size w W) => rrun_c x vx W (hx.below hW) hl hi)
  obtain ⟨vt, vf, vi, vo, vc, rfl, -⟩ := hx
  cases hq : verifyL x with
  | error ne =>
    obtain ⟨at_, er⟩ := ne
    have hne : er ≠ 0 := verifyL_err hq
    have HN := Lib.hid (show deepNE x = (0, er) by simp [deepNE, hq])
    have HQ := Lib.hid hq
    clear hq
    go_enter Tryz.func14, Tryz.ntmps14
    go_wp2_with (go_at_call 36; refine (HR.out _ (by (repeat' (first | (with_reducible exact Below.refl _ _) | (with_reducible refine below_alloc ?_) | (with_reducible refine below_drew ?_) | (with_reducible refine below_drewN ?_) | (with_reducible refine below_set (by simp; omega) ?_) | (with_reducible refine below_call (by with_reducible assumption) ?_))))).mono ?_; rw [HQ.out]; rintro e w1 (⟨hb⟩ | _); obtain ⟨hc, hf⟩ := bcell hb; have hz := hb.size; (try simp at hz); (try have hz1 := Nat.lt_of_succ_le hz); (try have hz2 := Nat.lt_of_succ_lt hz1); (try have hz3 := Nat.lt_of_succ_lt hz2); (try have hz4 := Nat.lt_of_succ_lt hz3))
    go_ret2
    exact ⟨by rw [HN.out]; rfl, by (repeat' (first | (with_reducible exact Below.refl _ _) | (with_reducible refine below_alloc ?_) | (with_reducible refine below_drew ?_) | (with_reducible refine below_drewN ?_) | (with_reducible refine below_set (by simp; omega) ?_) | (with_reducible refine below_call (by with_reducible assumption) ?_)))⟩
  | ok r =>
    obtain ⟨rs, ss, deep⟩ := r
    have HN := Lib.hid (show deepNE x = (deep, 0) by simp [deepNE, hq])
    have HQ := Lib.hid hq
    clear hq
    go_enter Tryz.func14, Tryz.ntmps14
    go_wp2_with (go_at_call 36; refine (HR.out _ (by (repeat' (first | (with_reducible exact Below.refl _ _) | (with_reducible refine below_alloc ?_) | (with_reducible refine below_drew ?_) | (with_reducible refine below_drewN ?_) | (with_reducible refine below_set (by simp; omega) ?_) | (with_reducible refine below_call (by with_reducible assumption) ?_))))).mono ?_; rw [HQ.out]; rintro e w1 (_ | ⟨hb, hl, -, -⟩); have c9 := cell_of_row _ _ 8 _ _ _ hl.look; simp at c9; obtain ⟨hc, hf⟩ := bcell hb; have hz := hb.size; (try simp at hz); (try have hz1 := Nat.lt_of_succ_le hz); (try have hz2 := Nat.lt_of_succ_lt hz1); (try have hz3 := Nat.lt_of_succ_lt hz2); (try have hz4 := Nat.lt_of_succ_lt hz3))
    go_ret2
    exact ⟨by rw [HN.out]; rfl, by (repeat' (first | (with_reducible exact Below.refl _ _) | (with_reducible refine below_alloc ?_) | (with_reducible refine below_drew ?_) | (with_reducible refine below_drewN ?_) | (with_reducible refine below_set (by simp; omega) ?_) | (with_reducible refine below_call (by with_reducible assumption) ?_)))⟩
/-- What Reached hands back. -/
inductive RReachedR (w : World) (n : Nat) : Except NE (List Bool × List (List Int) × Int) → Ending → World → Prop
  | err {at_ e : Int} {w' : World} (h : Below w.heap.size w w') : RReachedR w n (.error (at_, e)) (.returned (.tuple #[.slice none 0 0, .int .i64 e])) w'
  | ok {rs : List Bool} {ss : List (List Int)} {deep : Int} {A : Option Addr} {c : Nat} {w' : World} (h : Below w.heap.size w w') (hn : rs.length = n) (hs : Sl encB 1 w' (.slice A n c) rs) : RReachedR w n (.ok (rs, ss, deep)) (.returned (.tuple #[.slice A n c, .int .i64 0])) w'
set_option maxHeartbeats 2000000 in
theorem rreached15_c (x : Img) (vx : Value) (w : World) (hx : ImgV w vx x) (hl : x.ins.length + x.outs.length ≤ 1099511627776) (hi : ImgOk x) :
    Calls Tryz.prog 16 #[vx] w (RReachedR w x.code.length (verifyL x)) := by
  have HR := Lib.hid (fun W (hW : Below w.heap.size w W) => rrun_c x vx W (hx.below hW) hl hi)
  obtain ⟨vt, vf, vi, vo, vc, rfl, -⟩ := hx
  cases hq : verifyL x with
  | error ne =>
    obtain ⟨at_, er⟩ := ne
    have hne : er ≠ 0 := verifyL_err hq
    have HQ := Lib.hid hq
    clear hq
    go_enter Tryz.func16, Tryz.ntmps16
    go_wp2_with (go_at_call 36; refine (HR.out _ (by (repeat' (first | (with_reducible exact Below.refl _ _) | (with_reducible refine below_alloc ?_) | (with_reducible refine below_drew ?_) | (with_reducible refine below_drewN ?_) | (with_reducible refine below_set (by simp; omega) ?_) | (with_reducible refine below_call (by with_reducible assumption) ?_))))).mono ?_; rw [HQ.out]; rintro e w1 (⟨hb⟩ | _); obtain ⟨hc, hf⟩ := bcell hb; have hz := hb.size; (try simp at hz); (try have hz1 := Nat.lt_of_succ_le hz); (try have hz2 := Nat.lt_of_succ_lt hz1); (try have hz3 := Nat.lt_of_succ_lt hz2); (try have hz4 := Nat.lt_of_succ_lt hz3))
    go_ret2
    exact RReachedR.err (by (repeat' (first | (with_reducible exact Below.refl _ _) | (with_reducible refine below_alloc ?_) | (with_reducible refine below_drew ?_) | (with_reducible refine below_drewN ?_) | (with_reducible refine below_set (by simp; omega) ?_) | (with_reducible refine below_call (by with_reducible assumption) ?_))))
  | ok r =>
    obtain ⟨rs, ss, deep⟩ := r
    obtain ⟨hco, hc1, -⟩ := sound_len (codeCheck_ok (verifyL_code hq)).1
    have HQ := Lib.hid hq
    clear hq
    go_enter Tryz.func16, Tryz.ntmps16
    go_wp2_with (go_at_call 36; refine (HR.out _ (by (repeat' (first | (with_reducible exact Below.refl _ _) | (with_reducible refine below_alloc ?_) | (with_reducible refine below_drew ?_) | (with_reducible refine below_drewN ?_) | (with_reducible refine below_set (by simp; omega) ?_) | (with_reducible refine below_call (by with_reducible assumption) ?_))))).mono ?_; rw [HQ.out]; rintro e w1 (_ | ⟨hb, hl, hcl, hdr⟩); rename_i ds base bl bs bt v0 v1 v2 v3 v4 v5; have HL := Lib.hid hl; have HCL := Lib.hid hcl; have HDR := Lib.hid hdr; clear hl hcl hdr)
    have hblw : bl < w1.heap.size := (Array.getElem?_eq_some_iff.1 HL.out.look).1
    have hbtw : bt < w1.heap.size := (Array.getElem?_eq_some_iff.1 HL.out.sts).1
    have c7 : w1.cell? ⟨bl, 7, none⟩ = some (.slice (some ⟨bt, 0, none⟩) x.code.length x.code.length) := cell_of_row _ _ 7 _ _ _ HL.out.look
    have hBw : Below w.heap.size w w1 := by (repeat' (first | (with_reducible exact Below.refl _ _) | (with_reducible refine below_alloc ?_) | (with_reducible refine below_drew ?_) | (with_reducible refine below_drewN ?_) | (with_reducible refine below_set (by simp; omega) ?_) | (with_reducible refine below_call (by with_reducible assumption) ?_)))
    have HBW := Lib.hid hBw
    have HRL := Lib.hid HL.out.lr
    clear hb hBw
    go_loopg [7, 8] x.code.length (fun gg s7 s8 wr => ∃ k : Nat, s8 = .int .i64 k ∧ k ≤ x.code.length ∧ x.code.length - k ≤ gg ∧ Aside (wr.ownsRow w1.heap.size 4 1 s7 k ((rs.take k).flatMap encB)) ∧ Aside (Below w1.heap.size w1 wr))
    case atStart => exact ⟨0, rfl, Nat.zero_le _, by omega, (show Aside _ from ⟨by simp, .inl ⟨rfl, rfl⟩⟩), (show Aside _ from Below.refl _ _)⟩
    case round =>
      obtain ⟨k, rfl, hk, hg, HO, HB⟩ := hrel
      have hB := HB.out
      have d7 : wr.cell? ⟨bl, 7, none⟩ = some (.slice (some ⟨bt, 0, none⟩) x.code.length x.code.length) := (hB.cell (p := ⟨bl, 7, none⟩) hblw).trans c7
      have hsz := hB.size
      by_cases hlt : k < x.code.length
      · have hltz : (k : Int) < (x.code.length : Int) := by omega
        have hk0 : (0 : Int) ≤ (k : Int) := Int.natCast_nonneg _
        have hk96 : (k : Int) ≤ 4096 := by omega
        obtain ⟨s, b, e1, hsb, HT⟩ : ∃ (s : Int) (b : Bool), wr.cell? ⟨bt, k, none⟩ = some (.int .i64 s) ∧ (s == 2) = b ∧ Aside (rs.take (k + 1) = rs.take k ++ [b]) :=
          ⟨_, _, (hB.cell (p := ⟨bt, k, none⟩) hbtw).trans (HL.out.st_at hlt), (stV_two _ _).trans (clear_same HCL.out HDR.out hlt), take_one (by rw [HRL.out]; exact hlt)⟩
        go_wp2_with (at_builtin; refine wpList_app _ rfl _ _ 31 rfl w1.heap.size 4 (.bool false) 1 1 Tryz.underlying31 info_bool rfl (by decide) encB (fun _ => rfl) one_B _ _ _ rfl (own_below HO.out (by (repeat' (first | (with_reducible exact Below.refl _ _) | (with_reducible refine below_alloc ?_) | (with_reducible refine below_drew ?_) | (with_reducible refine below_drewN ?_) | (with_reducible refine below_set (by simp; omega) ?_) | (with_reducible refine below_call (by with_reducible assumption) ?_))))) _ [b] rfl (by refine Sl.lit' ?_ _ _ _ _ _ _ ?_ ?_ ?_ ?_ <;> first | (intro _; rfl) | rfl | decide | (simp; done)) (by unfold maxLen; simp; omega) (by simp; omega) (by simp; omega) ?_; intro v2 w2 ho2 hg2)
        go_roundg (x.code.length - (k + 1))
        case measure => omega
        case rel =>
          refine ⟨k + 1, by go_num, by omega, by omega, ?_, below_grown (below_alloc HB.out) hg2 (own_ge HO.out (Nat.le_refl _))⟩
          show Aside _
          rw [HT.out, List.flatMap_append]
          exact ho2
      · obtain rfl : k = x.code.length := by omega
        have hltz : ¬ (x.code.length : Int) < (x.code.length : Int) := by omega
        obtain ⟨A, c, rfl⟩ := own_slice HO.out
        go_wp2
        go_ret2
        have h := HO.out
        rw [List.take_of_length_le (by rw [HRL.out]; exact Nat.le_refl _)] at h
        exact RReachedR.ok (below_call hB HBW.out) HRL.out (Sl.own (enc := encB) (k := 1) (fun _ => rfl) h HRL.out.symm)
/-- What Reached hands back, plainly. -/
def reachedNE (x : Img) : List Bool × Int := match verifyL x with | .error e => ([], e.2) | .ok (rs, _, _) => (rs, 0)
theorem reachedNE_len (x : Img) : (reachedNE x).1.length ≤ 4096 := by
  unfold reachedNE
  split
  · simp
  · rename_i rs ss deep hq
    have h1 := (sound_len (codeCheck_ok (verifyL_code hq)).1).1
    have h2 := verifyL_len hq
    simp only
    omega
theorem reached_eq (x : Img) (vx : Value) (w : World) (rs : List Bool) (er : Int) (hv : reachedNE x = (rs, er)) (h : ImgAsk w vx x) (hG : G w) :
    Calls Tryz.prog 15 #[vx] w fun e w' => ∃ A c, e = .returned (.tuple #[.slice A rs.length c, .int .i64 er]) ∧ Sl encB 1 w' (.slice A rs.length c) rs ∧ Below w.heap.size w w' := by
  refine (reached_c x vx w h hG).mono fun e w' hr => ?_
  unfold reachedNE at hv
  cases hq : verifyL x with
  | error ne =>
    obtain ⟨at_, er'⟩ := ne
    rw [hq] at hv hr
    injection hv with h1 h2
    subst h1 h2
    rcases hr with ⟨hb⟩ | _
    exact ⟨_, _, rfl, Sl.nil _ _ _, hb⟩
  | ok r =>
    obtain ⟨rs', ss, deep⟩ := r
    rw [hq] at hv hr
    injection hv with h1 h2
    subst h1 h2
    rcases hr with _ | ⟨hb, hn, hs⟩
    rw [← hn] at hs ⊢
    exact ⟨_, _, rfl, hs, hb⟩
theorem rreached15_eq (x : Img) (vx : Value) (w : World) (rs : List Bool) (er : Int) (hv : reachedNE x = (rs, er)) (hx : ImgV w vx x) (hl : x.ins.length + x.outs.length ≤ 1099511627776) (hi : ImgOk x) :
    Calls Tryz.prog 16 #[vx] w fun e w' => ∃ A c, e = .returned (.tuple #[.slice A rs.length c, .int .i64 er]) ∧ Sl encB 1 w' (.slice A rs.length c) rs ∧ Below w.heap.size w w' := by
  refine (rreached15_c x vx w hx hl hi).mono fun e w' hr => ?_
  unfold reachedNE at hv
  cases hq : verifyL x with
  | error ne =>
    obtain ⟨at_, er'⟩ := ne
    rw [hq] at hv hr
    injection hv with h1 h2
    subst h1 h2
    rcases hr with ⟨hb⟩ | _
    exact ⟨_, _, rfl, Sl.nil _ _ _, hb⟩
  | ok r =>
    obtain ⟨rs', ss, deep⟩ := r
    rw [hq] at hv hr
    injection hv with h1 h2
    subst h1 h2
    rcases hr with _ | ⟨hb, hn, hs⟩
    rw [← hn] at hs ⊢
    exact ⟨_, _, rfl, hs, hb⟩
theorem rcheck15_eq (x : Img) (vx : Value) (w : World) (a b : Int) (hv : verifyNE x = (a, b)) (hx : ImgV w vx x) (hl : x.ins.length + x.outs.length ≤ 1099511627776) (hi : ImgOk x) :
    Calls Tryz.prog 12 #[vx] w fun e w' => e = .returned (.tuple #[.int .i64 a, .int .i64 b]) ∧ Below w.heap.size w w' := by
  have := rcheck15_c x vx w hx hl hi
  rw [hv] at this
  exact this
theorem rdeep15_eq (x : Img) (vx : Value) (w : World) (a b : Int) (hv : deepNE x = (a, b)) (hx : ImgV w vx x) (hl : x.ins.length + x.outs.length ≤ 1099511627776) (hi : ImgOk x) :
    Calls Tryz.prog 14 #[vx] w fun e w' => e = .returned (.tuple #[.int .i64 a, .int .i64 b]) ∧ Below w.heap.size w w' := by
  have := rdeep15_c x vx w hx hl hi
  rw [hv] at this
  exact this
end Go.Proofs.YtefpgjocfgeenaaGreatDoor
