/- (*reader).or: all rows. -/
import Derived.Test.YtbnelgniekcjdaaGreatDoorCRdD
set_option linter.unusedSimpArgs false
set_option linter.unusedVariables false
namespace Go.Proofs.YtbnelgniekcjdaaGreatDoor
open Go.RowKit Cap
set_option maxRecDepth 100000

/-- The rows' literal, from block B on: seven rows, and the row of rows. -/
def RowsAt (B : Nat) (w : World) : Prop := ∀ k row, rows7[k]? = some row → w.cell? ⟨B + 7, k, none⟩ = some (.slice (some ⟨B + k, 0, none⟩) row.length row.length) ∧ w.heap[B + k]? = some (.cells ((row.map Int.ofNat).map fun n => Value.int .i64 n).toArray 3 (0, 0)) ∧ (∀ n ∈ row, 1 ≤ n ∧ n ≤ 16) ∧ row.length ≤ 16
theorem RowsAt.below {B : Nat} {w w' : World} (h : RowsAt B w) (hb : Below w.heap.size w w') : RowsAt B w' := fun k row hk => by
  obtain ⟨h1, h2, h3⟩ := h k row hk
  exact ⟨(hb.cell (p := ⟨B + 7, k, none⟩) (World.block_lt_of_cell? _ _ h1)).trans h1, (hb.block _ (Array.getElem?_eq_some_iff.1 h2).1).trans h2, h3⟩
theorem allocs_old (i : Nat) : ∀ (os : List Obj) (w : World), i < w.heap.size → (os.foldl World.alloc w).heap[i]? = w.heap[i]?
  | [], _, _ => rfl
  | q :: r, w, h => (allocs_old i r (w.alloc q) (by simp; omega)).trans (heap_alloc_old w q h)
theorem allocs_at : ∀ (os : List Obj) (w : World) (k : Nat), k < os.length → (os.foldl World.alloc w).heap[w.heap.size + k]? = os[k]?
  | [], _, _, h => by simp at h
  | q :: r, w, 0, _ => by
    rw [Nat.add_zero, List.foldl_cons, allocs_old _ _ _ (by simp), heap_alloc_new]
    rfl
  | q :: r, w, k + 1, h => by
    have h1 := allocs_at r (w.alloc q) k (by simpa using h)
    rw [World.size_alloc] at h1
    rw [List.foldl_cons, show w.heap.size + (k + 1) = w.heap.size + 1 + k by omega, h1]
    rfl
def rowObjs (B : Nat) : List Obj := [.cells #[.int .i64 3, .int .i64 4, .int .i64 5] 3, .cells #[.int .i64 1, .int .i64 2] 3, .cells #[.int .i64 11, .int .i64 12, .int .i64 13, .int .i64 14] 3,
  .cells #[.int .i64 9, .int .i64 10] 3, .cells #[.int .i64 6] 3, .cells #[.int .i64 8] 3, .cells #[.int .i64 7] 3,
  .cells #[.slice (some ⟨B, 0, none⟩) 3 3, .slice (some ⟨B + 1, 0, none⟩) 2 2, .slice (some ⟨B + 1 + 1, 0, none⟩) 4 4, .slice (some ⟨B + 1 + 1 + 1, 0, none⟩) 2 2, .slice (some ⟨B + 1 + 1 + 1 + 1, 0, none⟩) 1 1,
    .slice (some ⟨B + 1 + 1 + 1 + 1 + 1, 0, none⟩) 1 1, .slice (some ⟨B + 1 + 1 + 1 + 1 + 1 + 1, 0, none⟩) 1 1] 24]
theorem rows_laid (w : World) : RowsAt w.heap.size ((rowObjs w.heap.size).foldl World.alloc w) := by
  intro k row hk
  have hlt : k < 7 := (List.getElem?_eq_some_iff.1 hk).1
  have h7 : ((rowObjs w.heap.size).foldl World.alloc w).heap[w.heap.size + 7]? = (rowObjs w.heap.size)[7]? := allocs_at _ _ 7 (by show 7 < 8; omega)
  have hq : ((rowObjs w.heap.size).foldl World.alloc w).heap[w.heap.size + k]? = (rowObjs w.heap.size)[k]? := allocs_at _ _ k (by show k < 8; omega)
  have hc : ∀ j, ((rowObjs w.heap.size).foldl World.alloc w).cell? ⟨w.heap.size + 7, j, none⟩ = _ := fun j => cell_of_row _ _ j _ _ _ h7
  rw [hc, hq]
  rcases k with _ | _ | _ | _ | _ | _ | _ | k
  all_goals first | omega | skip
  all_goals (obtain rfl := Option.some.inj hk; exact ⟨rfl, rfl, by decide, by decide⟩)
theorem rows7_len : rows7.length = 7 := rfl
set_option maxHeartbeats 8000000 in
theorem or_c (l : List Tok) (w0 W : World) (rb : Nat) (lv ov : Value) (a d : Nat) (o : List Prt) (hl : TokL w0 lv l) (hm : TokMax l.length) (h : Rd w0 rb lv a d ov o W) (ho : o.length ≤ a) (ha : a ≤ l.length) (hG : GX w0)
    (un : Nat → PR) (hgood : GoodP l un) (hun : Reads l w0 rb lv d 31 #[.pointer (some ⟨rb, 0, none⟩)] #[] un W) :
    Calls Tryz.prog 17 #[.pointer (some ⟨rb, 0, none⟩)] W (RdE w0 W rb lv d o (orP l un a)) := by
  have hmf : ∀ (fn : Fn) (first cap : Array Value) (w : World), (Instr.makeFunc fn first cap).run Tryz.prog w = .ok (.func fn first cap) w := fun _ _ _ _ => rfl
  have HH := Lib.hid h
  have HU := Lib.hid hun
  have HGD := Lib.hid hgood
  have HL := Lib.hid hl
  have HG := Lib.hid hG
  have hlt := h.lt
  obtain ⟨Z, hZ⟩ : ∃ Z, orP l un a = Z := ⟨_, rfl⟩
  rw [hZ]
  have HZ := Lib.hid hZ
  clear h hun hgood hl hG hZ
  go_enter Tryz.func17, Tryz.ntmps17
  go_upto_region 3 with fail
  have HB0 := Lib.hid (show Below W.heap.size W ((rowObjs (W.heap.size + 1)).foldl World.alloc (W.alloc (.cells #[.pointer (some ⟨rb, 0, none⟩)] 55))) from by unfold rowObjs; simp only [List.foldl_cons, List.foldl_nil]; (repeat' (first | (with_reducible exact Below.refl _ _) | (with_reducible refine below_alloc ?_) | (with_reducible refine below_drew ?_) | (with_reducible refine below_drewN ?_) | (with_reducible refine below_set (by first | (simp; done) | (simp; omega)) ?_) | (with_reducible refine below_call (by with_reducible assumption) ?_))))
  have HR0 := Lib.hid (show RowsAt (W.heap.size + 1) ((rowObjs (W.heap.size + 1)).foldl World.alloc (W.alloc (.cells #[.pointer (some ⟨rb, 0, none⟩)] 55))) from by have h := rows_laid (W.alloc (.cells #[.pointer (some ⟨rb, 0, none⟩)] 55)); rw [World.size_alloc] at h; exact h)
  have HX0 := Lib.hid (show ((rowObjs (W.heap.size + 1)).foldl World.alloc (W.alloc (.cells #[.pointer (some ⟨rb, 0, none⟩)] 55))).heap[W.heap.size]? = some (.cells #[.pointer (some ⟨rb, 0, none⟩)] 55 (0, 0)) from (allocs_old _ _ _ (by simp)).trans (heap_alloc_new _ _))
  obtain ⟨B8, hB8⟩ : ∃ B, W.heap.size + 1 + 1 + 1 + 1 + 1 + 1 + 1 + 1 = B := ⟨_, rfl⟩
  rw [hB8]
  have HB8 := Lib.hid (show W.heap.size + 1 + 7 = B8 by omega)
  clear hB8
  go_loopg [2, 17] 7 (fun gg s2 s17 wr => ∃ (k f : Nat) (fst cap : Array Value), s2 = .func (.func f) fst cap ∧ s17 = .int .i64 (k : Int) ∧ k ≤ 7 ∧ 7 - k ≤ gg ∧ Aside (Below W.heap.size W wr) ∧ Aside (RowsAt (W.heap.size + 1) wr) ∧ Aside (wr.heap[W.heap.size]? = some (.cells #[.pointer (some ⟨rb, 0, none⟩)] 55 (0, 0))) ∧ Aside (Reads l w0 rb lv d f fst cap ((rows7.take k).foldl (rowP l) un) wr))
  case atStart => exact ⟨0, _, _, _, rfl, rfl, Nat.zero_le _, by omega, HB0.out, HR0.out, HX0.out, (show Reads _ _ _ _ _ _ _ _ _ _ from HU.out.mono (.call HB0.out (St.refl _ _)))⟩
  case round =>
    obtain ⟨k, f, fst, cap, rfl, rfl, hk, hg, HB, HRW, HX, HRD⟩ := hrel
    have hk0 : (0 : Int) ≤ (k : Int) := Int.natCast_nonneg _
    by_cases hk7 : k < 7
    · obtain ⟨row, hrow⟩ : ∃ row, rows7[k]? = some row := ⟨rows7[k], List.getElem?_eq_getElem hk7⟩
      obtain ⟨e0, hbk, hr1, hr2⟩ := HRW.out k row hrow
      rw [HB8.out] at e0
      have HBK := Lib.hid hbk
      have HROW := Lib.hid hr1
      have HLEN := Lib.hid hr2
      have HT := Lib.hid (show rowP l ((rows7.take k).foldl (rowP l) un) row = (rows7.take (k + 1)).foldl (rowP l) un by rw [List.take_add_one, hrow, List.foldl_append]; rfl)
      have hkz : (k : Int) < 7 := by omega
      clear hrow hbk hr1 hr2
      go_wp2
      go_roundg (7 - (k + 1))
      case measure => omega
      case rel =>
        have hw2 := HB.out
        have hb2 : Below wr.heap.size wr ((wr.alloc (.cells #[.slice (some ⟨W.heap.size + 1 + k, 0, none⟩) row.length row.length] 24)).alloc (.cells #[.func (.func f) fst cap] 1)) := by (repeat' (first | (with_reducible exact Below.refl _ _) | (with_reducible refine below_alloc ?_) | (with_reducible refine below_drew ?_) | (with_reducible refine below_drewN ?_) | (with_reducible refine below_set (by first | (simp; done) | (simp; omega)) ?_) | (with_reducible refine below_call (by with_reducible assumption) ?_)))
        have hrd2 := (HH.out.below hw2).below hb2
        refine ⟨k + 1, _, _, _, rfl, by go_num, by omega, by omega, below_call hb2 hw2, HRW.out.below hb2, (hb2.block _ (Array.getElem?_eq_some_iff.1 HX.out).1).trans HX.out, ?_⟩
        rw [← HT.out]
        have hst2 : St rb wr ((wr.alloc (.cells #[.slice (some ⟨W.heap.size + 1 + k, 0, none⟩) row.length row.length] 24)).alloc (.cells #[.func (.func f) fst cap] 1)) := .call hb2 (St.refl _ _)
        have x1 : ((wr.alloc (.cells #[.slice (some ⟨W.heap.size + 1 + k, 0, none⟩) row.length row.length] 24)).alloc (.cells #[.func (.func f) fst cap] 1)).heap[wr.heap.size + 1]? = some (.cells #[.func (.func f) fst cap] 1 (0, 0)) := by
          have h := heap_alloc_new (wr.alloc (.cells #[.slice (some ⟨W.heap.size + 1 + k, 0, none⟩) row.length row.length] 24)) (.cells #[.func (.func f) fst cap] 1)
          rwa [World.size_alloc] at h
        have x2 : ((wr.alloc (.cells #[.slice (some ⟨W.heap.size + 1 + k, 0, none⟩) row.length row.length] 24)).alloc (.cells #[.func (.func f) fst cap] 1)).heap[wr.heap.size]? = some (.cells #[.slice (some ⟨W.heap.size + 1 + k, 0, none⟩) row.length row.length] 24 (0, 0)) :=
          hpA (heap_alloc_new _ _)
        have x3 := (hb2.block _ (Array.getElem?_eq_some_iff.1 HX.out).1).trans HX.out
        have x4 := (hb2.block _ (Array.getElem?_eq_some_iff.1 HBK.out).1).trans HBK.out
        refine (show Reads l w0 rb lv d 32 #[] _ _ _ from ⟨enters_of Tryz.func32 (by kernel_rfl) rfl, fun W' a' ov' o' hst hrd ho' ha' => ?_⟩)
        have hz := row_c l w0 W' rb lv ov' a' d o' HL.out hm hrd ho' ha' HG.out (wr.heap.size + 1) W.heap.size wr.heap.size (W.heap.size + 1 + k) f fst cap _ row (foldl_good (rows7.take k) HGD.out) HROW.out HLEN.out
          (hst.box x1 hrd2.at_ (by decide) (by decide)) (hst.box x3 hrd2.at_ (by decide) (by decide)) (hst.box x2 hrd2.at_ (by decide) (by decide)) (hst.box x4 hrd2.at_ (by decide) (by decide)) (HRD.out.mono (hst2.trans hst))
        exact hz
    · obtain rfl : k = 7 := by omega
      have hB := HB.out
      have HC := Lib.hid (show Calls Tryz.prog f (fst ++ cap) wr (RdE w0 wr rb lv d o Z) by rw [← HZ.out]; exact HRD.out.2 wr a ov o (St.refl _ _) (HH.out.below hB) ho ha)
      have ef := HRD.out.1
      go_wp2_with fail
      refine HC.out.mono ?_
      rintro e w1 hE
      have hE' := RdE.pre (.call hB (St.refl _ _)) hE
      clear hE
      cases hE' with
      | no hb hk => exact ⟨rfl, .no hb hk⟩
      | ok h1 hk =>
        have H1 := Lib.hid h1
        have H2 := Lib.hid hk
        clear h1 hk
        go_wp2
        exact ⟨rfl, _, results_none rfl _ _ _, .ok H1.out H2.out⟩
end Go.Proofs.YtbnelgniekcjdaaGreatDoor
