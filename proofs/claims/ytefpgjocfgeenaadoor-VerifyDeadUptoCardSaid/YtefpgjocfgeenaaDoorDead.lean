/- VerifyDead: the walk. -/
import Derived.Test.YtefpgjocfgeenaaDoorReached
import Derived.Test.YtefpgjocfgeenaaDoorDeadLaw
import Derived.Test.YtefpgjocfgeenaaDoorPushes
namespace Go.Proofs.YtefpgjocfgeenaaDoor
open Go.RowKit Cap
set_option maxRecDepth 100000

/-- An image's box keeps the rows of an image of one's own. -/
theorem own_box {w : World} {base : Nat} {e : TypeId} {k : Nat} {v : Value} {n : Nat} {xs : List Value} (h : w.ownsRow base e k v n xs) {b : Nat} {cs : Array Value} {T : TypeId} {fr : Nat × Nat} (hb : w.heap[b]? = some (.cells cs T fr)) (hT : T ≠ e) : v.ownBlock = none ∨ v.ownBlock ≠ some b := by
  rcases h.2 with ⟨rfl, _⟩ | ⟨g, cap, cur, rfl, _, hg, _⟩
  · left; rfl
  · right
    intro e'
    simp [Value.ownBlock] at e'
    subst e'
    rw [hg] at hb
    injection hb with hb
    injection hb with _ hb _
    exact hT hb.symm
theorem grown_set (w : World) (b o : Nat) (u : Value) : w.grownBy (w.setCell ⟨b, o, none⟩ u) (some b) :=
  ⟨rfl, rfl, rfl, by simp, fun k _ hk => heap_setCell_other w ⟨b, o, none⟩ k u (fun e => hk (by rw [e]))⟩
theorem grown_sets (w : World) (b o : Nat) (us : List Value) : w.grownBy (w.setCells b o us) (some b) := by
  obtain ⟨k1, k2, k3, k4⟩ := setCells_rest b us o w
  exact ⟨k1, k2, k3, by rw [k4]; exact Nat.le_refl _, fun k _ hk => heap_setCells_other _ _ (fun e => hk (by rw [e])) _ _ _⟩
theorem ImgO.box {base : Nat} {w w' : World} {v : Value} {x : Img} (h : ImgO base w v x) {b : Nat} {cs : Array Value} {fr : Nat × Nat} (hb : w.heap[b]? = some (.cells cs 33 fr)) (hg : w.grownBy w' (some b)) : ImgO base w' v x := by
  obtain ⟨vt, vf, vi, vo, vc, rfl, h1, h2, h3, h4, h5⟩ := h
  exact ⟨vt, vf, vi, vo, vc, rfl, h1.kept hg (own_box h1 hb (by decide)), h2.kept hg (own_box h2 hb (by decide)), h3.kept hg (own_box h3 hb (by decide)), h4.kept hg (own_box h4 hb (by decide)), h5.kept hg (own_box h5 hb (by decide))⟩
theorem copyOk {x : Img} (h : isSound x = true) : CopyOk x := by
  simp only [isSound, Bool.and_eq_true, decide_eq_true_eq, beq_iff_eq] at h
  obtain ⟨⟨⟨⟨⟨⟨⟨_, h1⟩, h2⟩, h3⟩, h4⟩, h5⟩, _⟩, _⟩ := h
  rw [List.length_append] at h5
  exact ⟨by omega, by omega, by omega, by omega, by omega⟩
theorem ImgO.slices {base : Nat} {w : World} {v : Value} {x : Img} (h : ImgO base w v x) : ∃ A1 n1 A2 n2 A3 n3 A4 n4 A5 n5, v = .agg #[.string x.name, .slice A1 x.types.length n1, .slice A2 x.first.length n2, .slice A3 x.ins.length n3, .slice A4 x.outs.length n4, .slice A5 x.code.length n5] := by
  obtain ⟨vt, vf, vi, vo, vc, rfl, h1, h2, h3, h4, h5⟩ := h
  obtain ⟨A1, n1, rfl⟩ := own_slice h1
  obtain ⟨A2, n2, rfl⟩ := own_slice h2
  obtain ⟨A3, n3, rfl⟩ := own_slice h3
  obtain ⟨A4, n4, rfl⟩ := own_slice h4
  obtain ⟨A5, n5, rfl⟩ := own_slice h5
  exact ⟨A1, n1, A2, n2, A3, n3, A4, n4, A5, n5, rfl⟩
theorem own_diff {w : World} {base base' : Nat} {e e' : TypeId} {k k' : Nat} {v v' : Value} {n n' : Nat} {xs xs' : List Value} (h : w.ownsRow base e k v n xs) (h' : w.ownsRow base' e' k' v' n' xs') (hT : e ≠ e') : v.ownBlock = none ∨ v.ownBlock ≠ v'.ownBlock := by
  rcases h.2 with ⟨rfl, _⟩ | ⟨g, cap, cur, rfl, _, hg, _⟩
  · left; rfl
  · right
    rcases h'.2 with ⟨rfl, _⟩ | ⟨g', cap', cur', rfl, _, hg', _⟩
    · simp [Value.ownBlock]
    · intro e1
      simp [Value.ownBlock] at e1
      subst e1
      rw [hg] at hg'
      injection hg' with hb
      injection hb with _ hb _
      exact hT hb
/-- More code, put behind that of an image of one's own. -/
theorem ImgO.app {base : Nat} {w w' : World} {nm : ByteArray} {vt vf vi vo vc v' : Value} {y : Img} {i : Ins} (h : ImgO base w (.agg #[.string nm, vt, vf, vi, vo, vc]) y) (ho : w'.ownsRow base 26 4 v' (y.code.length + [i].length) (y.code.flatMap encIns ++ [i].flatMap encIns)) (hg : w.grownBy w' vc.ownBlock) :
    ImgO base w' (.agg #[.string nm, vt, vf, vi, vo, v']) (ext y [i]) := by
  obtain ⟨_, _, _, _, _, e, h1, h2, h3, h4, h5⟩ := h
  injection e with e
  simp at e
  obtain ⟨rfl, rfl, rfl, rfl, rfl, rfl⟩ := e
  refine ⟨_, _, _, _, _, rfl, h1.kept hg (own_diff h1 h5 (by decide)), h2.kept hg (own_diff h2 h5 (by decide)), h3.kept hg (own_diff h3 h5 (by decide)), h4.kept hg (own_diff h4 h5 (by decide)), ?_⟩
  rw [← List.flatMap_append] at ho
  simpa [ext] using ho
/-- The box of an image whose code grows is as it was. -/
theorem box_app {w4 w5 : World} {base : Nat} {v : Value} {n : Nat} {xs : List Value} {O O' : Obj} {cs : Array Value} (ho : w4.ownsRow base 26 4 v n xs) (hb : (w4.alloc O).heap[w4.heap.size]? = some (.cells cs 33 (0, 0))) (hg : ((w4.alloc O).alloc O').grownBy w5 v.ownBlock) :
    w5.heap[w4.heap.size]? = some (.cells cs 33 (0, 0)) := by
  have hb2 : ((w4.alloc O).alloc O').heap[w4.heap.size]? = some (.cells cs 33 (0, 0)) := (heap_alloc_old _ _ (by simp)).trans hb
  have hown5 : ((w4.alloc O).alloc O').ownsRow base 26 4 v n xs := own_below ho (below_alloc (below_alloc (Below.refl _ _)))
  have hnb := own_box hown5 hb2 (by decide)
  refine (hg.block w4.heap.size (by simp; omega) ?_).trans hb2
  rcases hnb with h | h
  · rw [h]; simp
  · exact fun e => h e.symm
theorem frozen_row {w : World} {b : Nat} {cs : Array Value} {T : TypeId} (j : Nat) (h : w.heap[b]? = some (.cells cs T (0, 0))) : w.frozen? ⟨b, j, none⟩ = false := by
  simp [World.frozen?, h]
theorem Sl.at {α : Type} {enc : α → List Value} {w : World} {b n c k : Nat} {xs : List α} {x : α} {u : Value} (h : Sl enc 1 w (.slice (some ⟨b, 0, none⟩) n c) xs) (hk : xs[k]? = some x) (hu : enc x = [u]) : b < w.heap.size ∧ w.cell? ⟨b, k, none⟩ = some u := by
  obtain ⟨A, c', e, _, _, h3⟩ := h
  injection e with e1 _ _
  obtain ⟨b', off, e2, h4, h5⟩ := h3 k x hk
  rw [← e1] at e2
  injection e2 with e2
  injection e2 with e2 e3
  subst e2 e3
  have := h5 0 u (by rw [hu]; rfl)
  exact ⟨h4, by simpa using this⟩
/-- What the first loop keeps: the given image's box and that of the image that grows. -/
structure DeadW (w : World) (bx by_ : Nat) (vx : Array Value) (y : Img) (wr : World) : Prop where
  below : Below w.heap.size w wr
  xbox : wr.heap[bx]? = some (.cells vx 33 (0, 0))
  ybox : ∃ us, wr.heap[by_]? = some (.cells us 33 (0, 0)) ∧ ImgV wr (.agg us) y
  gx : w.heap.size ≤ bx
  gy : w.heap.size ≤ by_
  ne : bx ≠ by_
theorem DeadW.keep {w : World} {bx by_ : Nat} {vx : Array Value} {y : Img} {wr w' : World} (h : DeadW w bx by_ vx y wr) (hb : Below wr.heap.size wr w') : DeadW w bx by_ vx y w' := by
  obtain ⟨us, h1, h2⟩ := h.ybox
  exact ⟨below_call hb h.below, (hb.block _ (Array.getElem?_eq_some_iff.1 h.xbox).1).trans h.xbox, ⟨us, (hb.block _ (Array.getElem?_eq_some_iff.1 h1).1).trans h1, h2.below hb⟩, h.gx, h.gy, h.ne⟩
/-- Another image is put into the box of the one that grows. -/
theorem DeadW.put {w : World} {bx by_ : Nat} {vx : Array Value} {y z : Img} {wr : World} (h : DeadW w bx by_ vx y wr) {base : Nat} {nm : ByteArray} {vt vf vi vo vc : Value} (hz : ImgO base wr (.agg #[.string nm, vt, vf, vi, vo, vc]) z) (hlen : ∃ us : Array Value, us.size = 6 ∧ wr.heap[by_]? = some (.cells us 33 (0, 0))) :
    DeadW w bx by_ vx z (wr.setCells by_ 0 [.string nm, vt, vf, vi, vo, vc]) := by
  obtain ⟨us, h6, h1⟩ := hlen
  have hg := grown_sets wr by_ 0 [.string nm, vt, vf, vi, vo, vc]
  have hrow := heap_setCells by_ 33 [.string nm, vt, vf, vi, vo, vc] us.toList 0 wr (by simpa using h1)
  have hov : over us.toList 0 [.string nm, vt, vf, vi, vo, vc] = [.string nm, vt, vf, vi, vo, vc] := by
    obtain ⟨l⟩ := us
    simp at h6
    match l, h6 with
    | [a, b, c, d, e, f], _ => rfl
  rw [hov] at hrow
  refine ⟨below_grown h.below hg (fun g hg' => by injection hg' with hg'; have := h.gy; omega), ?_, ⟨_, hrow, (hz.box h1 hg).img⟩, h.gx, h.gy, h.ne⟩
  rw [hg.block _ (Array.getElem?_eq_some_iff.1 h.xbox).1 (fun e => h.ne (by injection e))]
  exact h.xbox
set_option maxHeartbeats 20000000 in
theorem dead_c (x : Img) (vx : Value) (l : List Ins) (vl : Value) (w : World) (h : ImgAsk w vx x) (hl : Sl encIns 4 w vl l) (hli : ∀ i ∈ l, InsOk i) (hG : G w) :
    Calls Tryd.prog 4 #[vx, vl] w fun e w' => e = .returned (.bool true) ∧ Below w.heap.size w w' := by
  have HG := Lib.hid hG
  have HX := Lib.hid h
  have HL := Lib.hid hl
  obtain ⟨vt, vf, vi, vo, vc, rfl, -, -, -, -, -⟩ := h.img
  obtain ⟨Al, cl, rfl, hl1, hl2, hlc⟩ := hl
  have HLC := Lib.hid hlc
  clear hG h hlc
  cases hq : verifyL x with
  | error ne =>
    obtain ⟨at_, er⟩ := ne
    have hne : er ≠ 0 := verifyL_err hq
    have HV := Lib.hid (show verifyNE x = (at_, er) by simp [verifyNE, hq])
    clear hq
    go_enter Tryd.func4, Tryd.ntmps4
    go_wp2_with (first | (go_at_call 5; refine (works_c _ (HG.out.below (by (repeat' (first | (with_reducible exact Below.refl _ _) | (with_reducible refine below_alloc ?_) | (with_reducible refine below_drew ?_) | (with_reducible refine below_drewN ?_) | (with_reducible refine below_set (by simp; omega) ?_) | (with_reducible refine below_call (by with_reducible assumption) ?_)))))).mono ?_; rintro e w1 ⟨rfl, hb1⟩; obtain ⟨hc1, hf1⟩ := bcell hb1; have hz1 := hb1.size; (try simp at hz1); (try have hw01 : w.heap.size < w1.heap.size := by omega); (try have hw11 : w.heap.size + 1 < w1.heap.size := by omega); (try have hw21 : w.heap.size + 1 + 1 < w1.heap.size := by omega)) | (go_at_call 6; refine (check_eq x _ _ _ _ HV.out (HX.out.below (by (repeat' (first | (with_reducible exact Below.refl _ _) | (with_reducible refine below_alloc ?_) | (with_reducible refine below_drew ?_) | (with_reducible refine below_drewN ?_) | (with_reducible refine below_set (by simp; omega) ?_) | (with_reducible refine below_call (by with_reducible assumption) ?_))))) (HG.out.below (by (repeat' (first | (with_reducible exact Below.refl _ _) | (with_reducible refine below_alloc ?_) | (with_reducible refine below_drew ?_) | (with_reducible refine below_drewN ?_) | (with_reducible refine below_set (by simp; omega) ?_) | (with_reducible refine below_call (by with_reducible assumption) ?_)))))).mono ?_; rintro e w2 ⟨rfl, hb2⟩; obtain ⟨hc2, hf2⟩ := bcell hb2; have hz2 := hb2.size; (try simp at hz2); (try have hw02 : w.heap.size < w2.heap.size := by omega); (try have hw12 : w.heap.size + 1 < w2.heap.size := by omega); (try have hw22 : w.heap.size + 1 + 1 < w2.heap.size := by omega)))
    go_ret
    exact ⟨rfl, by (repeat' (first | (with_reducible exact Below.refl _ _) | (with_reducible refine below_alloc ?_) | (with_reducible refine below_drew ?_) | (with_reducible refine below_drewN ?_) | (with_reducible refine below_set (by simp; omega) ?_) | (with_reducible refine below_call (by with_reducible assumption) ?_)))⟩
  | ok r =>
    obtain ⟨rs, ss, deep⟩ := r
    have hcx := verifyL_code hq
    obtain ⟨hsd, hmay, -⟩ := codeCheck_ok hcx
    obtain ⟨hco, hc1, -⟩ := sound_len hsd
    have HV := Lib.hid (show verifyNE x = (0, 0) by simp [verifyNE, hq])
    have HD := Lib.hid (show deepNE x = (deep, 0) by simp [deepNE, hq])
    have HQ := Lib.hid hq
    have HCX := Lib.hid hcx
    have HSD := Lib.hid hsd
    clear hq hcx hmay hsd
    have hvc : ∃ A c, vc = .slice A x.code.length c := by
      obtain ⟨_, _, _, _, _, e, -, -, -, -, A, c, h5, -⟩ := HX.out.img
      injection e with e
      simp at e
      obtain ⟨-, -, -, -, rfl⟩ := e
      exact ⟨A, c, h5⟩
    obtain ⟨Ac, cc, rfl⟩ := hvc
    by_cases h100 : 100 < l.length
    · have h100z : (100 : Int) < (l.length : Int) := by omega
      go_enter Tryd.func4, Tryd.ntmps4
      go_wp2_with (first | (go_at_call 5; refine (works_c _ (HG.out.below (by (repeat' (first | (with_reducible exact Below.refl _ _) | (with_reducible refine below_alloc ?_) | (with_reducible refine below_drew ?_) | (with_reducible refine below_drewN ?_) | (with_reducible refine below_set (by simp; omega) ?_) | (with_reducible refine below_call (by with_reducible assumption) ?_)))))).mono ?_; rintro e w1 ⟨rfl, hb1⟩; obtain ⟨hc1, hf1⟩ := bcell hb1; have hz1 := hb1.size; (try simp at hz1); (try have hw01 : w.heap.size < w1.heap.size := by omega); (try have hw11 : w.heap.size + 1 < w1.heap.size := by omega); (try have hw21 : w.heap.size + 1 + 1 < w1.heap.size := by omega)) | (go_at_call 6; refine (check_eq x _ _ _ _ HV.out (HX.out.below (by (repeat' (first | (with_reducible exact Below.refl _ _) | (with_reducible refine below_alloc ?_) | (with_reducible refine below_drew ?_) | (with_reducible refine below_drewN ?_) | (with_reducible refine below_set (by simp; omega) ?_) | (with_reducible refine below_call (by with_reducible assumption) ?_))))) (HG.out.below (by (repeat' (first | (with_reducible exact Below.refl _ _) | (with_reducible refine below_alloc ?_) | (with_reducible refine below_drew ?_) | (with_reducible refine below_drewN ?_) | (with_reducible refine below_set (by simp; omega) ?_) | (with_reducible refine below_call (by with_reducible assumption) ?_)))))).mono ?_; rintro e w2 ⟨rfl, hb2⟩; obtain ⟨hc2, hf2⟩ := bcell hb2; have hz2 := hb2.size; (try simp at hz2); (try have hw02 : w.heap.size < w2.heap.size := by omega); (try have hw12 : w.heap.size + 1 < w2.heap.size := by omega); (try have hw22 : w.heap.size + 1 + 1 < w2.heap.size := by omega)))
      go_ret
      exact ⟨rfl, by (repeat' (first | (with_reducible exact Below.refl _ _) | (with_reducible refine below_alloc ?_) | (with_reducible refine below_drew ?_) | (with_reducible refine below_drewN ?_) | (with_reducible refine below_set (by simp; omega) ?_) | (with_reducible refine below_call (by with_reducible assumption) ?_)))⟩
    by_cases hcode : 4096 < x.code.length + l.length
    · have h100z : ¬ (100 : Int) < (l.length : Int) := by omega
      have hcodez : (4096 : Int) < (x.code.length : Int) + (l.length : Int) := by omega
      go_enter Tryd.func4, Tryd.ntmps4
      go_wp2_with (first | (go_at_call 5; refine (works_c _ (HG.out.below (by (repeat' (first | (with_reducible exact Below.refl _ _) | (with_reducible refine below_alloc ?_) | (with_reducible refine below_drew ?_) | (with_reducible refine below_drewN ?_) | (with_reducible refine below_set (by simp; omega) ?_) | (with_reducible refine below_call (by with_reducible assumption) ?_)))))).mono ?_; rintro e w1 ⟨rfl, hb1⟩; obtain ⟨hc1, hf1⟩ := bcell hb1; have hz1 := hb1.size; (try simp at hz1); (try have hw01 : w.heap.size < w1.heap.size := by omega); (try have hw11 : w.heap.size + 1 < w1.heap.size := by omega); (try have hw21 : w.heap.size + 1 + 1 < w1.heap.size := by omega)) | (go_at_call 6; refine (check_eq x _ _ _ _ HV.out (HX.out.below (by (repeat' (first | (with_reducible exact Below.refl _ _) | (with_reducible refine below_alloc ?_) | (with_reducible refine below_drew ?_) | (with_reducible refine below_drewN ?_) | (with_reducible refine below_set (by simp; omega) ?_) | (with_reducible refine below_call (by with_reducible assumption) ?_))))) (HG.out.below (by (repeat' (first | (with_reducible exact Below.refl _ _) | (with_reducible refine below_alloc ?_) | (with_reducible refine below_drew ?_) | (with_reducible refine below_drewN ?_) | (with_reducible refine below_set (by simp; omega) ?_) | (with_reducible refine below_call (by with_reducible assumption) ?_)))))).mono ?_; rintro e w2 ⟨rfl, hb2⟩; obtain ⟨hc2, hf2⟩ := bcell hb2; have hz2 := hb2.size; (try simp at hz2); (try have hw02 : w.heap.size < w2.heap.size := by omega); (try have hw12 : w.heap.size + 1 < w2.heap.size := by omega); (try have hw22 : w.heap.size + 1 + 1 < w2.heap.size := by omega)))
      go_ret
      exact ⟨rfl, by (repeat' (first | (with_reducible exact Below.refl _ _) | (with_reducible refine below_alloc ?_) | (with_reducible refine below_drew ?_) | (with_reducible refine below_drewN ?_) | (with_reducible refine below_set (by simp; omega) ?_) | (with_reducible refine below_call (by with_reducible assumption) ?_)))⟩
    have h100z : ¬ (100 : Int) < (l.length : Int) := by omega
    have hcodez : ¬ (4096 : Int) < (x.code.length : Int) + (l.length : Int) := by omega
    have HCO := Lib.hid (copyOk HSD.out)
    go_enter Tryd.func4, Tryd.ntmps4
    go_upto_region 7 with (first | (go_at_call 5; refine (works_c _ (HG.out.below (by (repeat' (first | (with_reducible exact Below.refl _ _) | (with_reducible refine below_alloc ?_) | (with_reducible refine below_drew ?_) | (with_reducible refine below_drewN ?_) | (with_reducible refine below_set (by simp; omega) ?_) | (with_reducible refine below_call (by with_reducible assumption) ?_)))))).mono ?_; rintro e w1 ⟨rfl, hb1⟩; obtain ⟨hc1, hf1⟩ := bcell hb1; have hz1 := hb1.size; (try simp at hz1); (try have hw01 : w.heap.size < w1.heap.size := by omega); (try have hw11 : w.heap.size + 1 < w1.heap.size := by omega); (try have hw21 : w.heap.size + 1 + 1 < w1.heap.size := by omega)) | (go_at_call 6; refine (check_eq x _ _ _ _ HV.out (HX.out.below (by (repeat' (first | (with_reducible exact Below.refl _ _) | (with_reducible refine below_alloc ?_) | (with_reducible refine below_drew ?_) | (with_reducible refine below_drewN ?_) | (with_reducible refine below_set (by simp; omega) ?_) | (with_reducible refine below_call (by with_reducible assumption) ?_))))) (HG.out.below (by (repeat' (first | (with_reducible exact Below.refl _ _) | (with_reducible refine below_alloc ?_) | (with_reducible refine below_drew ?_) | (with_reducible refine below_drewN ?_) | (with_reducible refine below_set (by simp; omega) ?_) | (with_reducible refine below_call (by with_reducible assumption) ?_)))))).mono ?_; rintro e w2 ⟨rfl, hb2⟩; obtain ⟨hc2, hf2⟩ := bcell hb2; have hz2 := hb2.size; (try simp at hz2); (try have hw02 : w.heap.size < w2.heap.size := by omega); (try have hw12 : w.heap.size + 1 < w2.heap.size := by omega); (try have hw22 : w.heap.size + 1 + 1 < w2.heap.size := by omega)) | (go_at_call 9; refine (copy_c x _ _ (HX.out.below (by (repeat' (first | (with_reducible exact Below.refl _ _) | (with_reducible refine below_alloc ?_) | (with_reducible refine below_drew ?_) | (with_reducible refine below_drewN ?_) | (with_reducible refine below_set (by simp; omega) ?_) | (with_reducible refine below_call (by with_reducible assumption) ?_))))).img HCO.out).mono ?_; rintro e w3 ⟨v, rfl, hO, hb3⟩; obtain ⟨A1, n1, A2, n2, A3, n3, A4, n4, A5, n5, rfl⟩ := hO.slices; have HO := Lib.hid hO; clear hO; obtain ⟨hc3, hf3⟩ := bcell hb3; have hz3 := hb3.size; (try simp at hz3); (try have hw03 : w.heap.size < w3.heap.size := by omega); (try have hw13 : w.heap.size + 1 < w3.heap.size := by omega); (try have hw23 : w.heap.size + 1 + 1 < w3.heap.size := by omega)))
    have hn3 : w3.heap.size ≠ w.heap.size := by omega
    go_wp2
    go_loopg [51] l.length (fun gg s51 wr => ∃ (k : Nat) (e : List Ins), s51 = .int .i64 k ∧ k ≤ l.length ∧ l.length - k ≤ gg ∧ e.length ≤ k ∧ Aside (∀ i ∈ e, InsOk i) ∧ Aside ((codeCheck (ext x e)).2 = 0) ∧ Aside (DeadW w w.heap.size w3.heap.size #[.string x.name, vt, vf, vi, vo, .slice Ac x.code.length cc] (ext x e) wr))
    case atStart =>
      refine ⟨0, [], rfl, Nat.zero_le _, by omega, Nat.le_refl _, (show Aside _ from fun i hi => by cases hi), (show Aside _ from by rw [ext_nil]; exact HCX.out), (show Aside _ from ⟨by (repeat' (first | (with_reducible exact Below.refl _ _) | (with_reducible refine below_alloc ?_) | (with_reducible refine below_drew ?_) | (with_reducible refine below_drewN ?_) | (with_reducible refine below_set (by simp; omega) ?_) | (with_reducible refine below_call (by with_reducible assumption) ?_))), ?_, ⟨_, heap_alloc_new _ _, by rw [ext_nil]; exact HO.out.img.below (below_alloc (Below.refl _ _))⟩, Nat.le_refl _, by omega, by omega⟩)⟩
      have e1 : (w.alloc (.cells #[.string x.name, vt, vf, vi, vo, .slice Ac x.code.length cc] 33)).heap[w.heap.size]? = some (.cells #[.string x.name, vt, vf, vi, vo, .slice Ac x.code.length cc] 33 (0, 0)) := heap_alloc_new _ _
      have e2 := (hb1.block w.heap.size (by simp)).trans e1
      have e3 := (hb2.block w.heap.size hw01).trans e2
      have e4 := (hb3.block w.heap.size hw02).trans e3
      exact (heap_alloc_old _ _ hw03).trans e4
    case round =>
      obtain ⟨k, e, rfl, hk, hg, hek, HEI, HEC, HW⟩ := hrel
      have HWB := HW.out.below
      have hwsz := HWB.size
      obtain ⟨us, hyb, hyi⟩ := HW.out.ybox
      obtain ⟨yt, yf, yi, yo, yc, hus, -⟩ := id hyi
      injection hus with hus
      subst hus
      have HYI := Lib.hid hyi
      have HYB := Lib.hid hyb
      by_cases hlt : k < l.length
      · obtain ⟨i, hi⟩ : ∃ i, l[k]? = some i := ⟨l[k], List.getElem?_eq_getElem hlt⟩
        have hiok := hli i (List.mem_of_getElem? hi)
        obtain ⟨b, off, rfl, hb, hcx⟩ := HLC.out k i hi
        have hltz : (k : Int) < (l.length : Int) := by omega
        have c0 : wr.cell? ⟨b, off + k * 4, none⟩ = some (.int .i64 i.op) := (HWB.cell (p := ⟨b, off + k * 4, none⟩) hb).trans (by simpa using hcx 0 _ rfl)
        have c1 : wr.cell? ⟨b, off + k * 4 + 1, none⟩ = some (.int .i64 i.a) := (HWB.cell (p := ⟨b, off + k * 4 + 1, none⟩) hb).trans (by simpa using hcx 1 _ rfl)
        have c2 : wr.cell? ⟨b, off + k * 4 + 2, none⟩ = some (.int .i64 i.b) := (HWB.cell (p := ⟨b, off + k * 4 + 2, none⟩) hb).trans (by simpa using hcx 2 _ rfl)
        have c3 : wr.cell? ⟨b, off + k * 4 + 3, none⟩ = some (.int .i64 i.n) := (HWB.cell (p := ⟨b, off + k * 4 + 3, none⟩) hb).trans (by simpa using hcx 3 _ rfl)
        have y0 : wr.cell? ⟨w3.heap.size, 0, none⟩ = some (.string (ext x e).name) := cell_of_row _ _ 0 _ _ _ hyb
        have y1 : wr.cell? ⟨w3.heap.size, 1, none⟩ = some yt := cell_of_row _ _ 1 _ _ _ hyb
        have y2 : wr.cell? ⟨w3.heap.size, 2, none⟩ = some yf := cell_of_row _ _ 2 _ _ _ hyb
        have y3 : wr.cell? ⟨w3.heap.size, 3, none⟩ = some yi := cell_of_row _ _ 3 _ _ _ hyb
        have y4 : wr.cell? ⟨w3.heap.size, 4, none⟩ = some yo := cell_of_row _ _ 4 _ _ _ hyb
        have y5 : wr.cell? ⟨w3.heap.size, 5, none⟩ = some yc := cell_of_row _ _ 5 _ _ _ hyb
        have hyw : w3.heap.size < wr.heap.size := (Array.getElem?_eq_some_iff.1 hyb).1
        have HCO2 := Lib.hid (copyOk (codeCheck_ok HEC.out).1)
        clear hcx hi hyb hyi
        go_upto_region 11 with (go_at_call 9; refine (copy_c (ext x e) _ _ (HYI.out.below (by (repeat' (first | (with_reducible exact Below.refl _ _) | (with_reducible refine below_alloc ?_) | (with_reducible refine below_drew ?_) | (with_reducible refine below_drewN ?_) | (with_reducible refine below_set (by simp; omega) ?_) | (with_reducible refine below_call (by with_reducible assumption) ?_))))) HCO2.out).mono ?_; rintro e w4 ⟨v, rfl, hO, hb4⟩; obtain ⟨Z1, m1, Z2, m2, Z3, m3, Z4, m4, Z5, m5, rfl⟩ := hO.slices; have HO4 := Lib.hid hO; clear hO; have hz4 := hb4.size; simp at hz4)
        have hz4' : wr.heap.size + 1 ≤ w4.heap.size := hz4
        have hlt4 : wr.heap.size < w4.heap.size := by omega
        have hne4 : wr.heap.size ≠ w4.heap.size := by omega
        have hne4' : w4.heap.size ≠ wr.heap.size := by omega
        have hbz : (w4.alloc (.cells #[.string (ext x e).name, .slice Z1 (ext x e).types.length m1, .slice Z2 (ext x e).first.length m2, .slice Z3 (ext x e).ins.length m3, .slice Z4 (ext x e).outs.length m4, .slice Z5 (ext x e).code.length m5] 33)).heap[w4.heap.size]? = some (.cells #[.string (ext x e).name, .slice Z1 (ext x e).types.length m1, .slice Z2 (ext x e).first.length m2, .slice Z3 (ext x e).ins.length m3, .slice Z4 (ext x e).outs.length m4, .slice Z5 (ext x e).code.length m5] 33 (0, 0)) := heap_alloc_new _ _
        have HBZ := Lib.hid hbz
        have hzown := HO4.out
        obtain ⟨_, _, _, _, _, hze, o1, o2, o3, o4, o5⟩ := hzown
        injection hze with hze
        simp at hze
        obtain ⟨rfl, rfl, rfl, rfl, rfl⟩ := hze
        have q0 : w4.cell? ⟨wr.heap.size, 0, none⟩ = some (.int .i64 i.op) := (hb4.cell (p := ⟨wr.heap.size, 0, none⟩) (by simp)).trans (cell_of_row _ _ 0 _ _ _ (heap_alloc_new wr _))
        have q1 : w4.cell? ⟨wr.heap.size, 1, none⟩ = some (.int .i64 i.a) := (hb4.cell (p := ⟨wr.heap.size, 1, none⟩) (by simp)).trans (cell_of_row _ _ 1 _ _ _ (heap_alloc_new wr _))
        have q2 : w4.cell? ⟨wr.heap.size, 2, none⟩ = some (.int .i64 i.b) := (hb4.cell (p := ⟨wr.heap.size, 2, none⟩) (by simp)).trans (cell_of_row _ _ 2 _ _ _ (heap_alloc_new wr _))
        have q3 : w4.cell? ⟨wr.heap.size, 3, none⟩ = some (.int .i64 i.n) := (hb4.cell (p := ⟨wr.heap.size, 3, none⟩) (by simp)).trans (cell_of_row _ _ 3 _ _ _ (heap_alloc_new wr _))
        have hsz1 : ∀ o, (wr.alloc o).heap.size = wr.heap.size + 1 := fun o => by simp
        rw [hsz1] at o5
        have O5 := Lib.hid o5
        clear o5 o1 o2 o3 o4 hbz
        have hlen5 : (ext x e).code.length + 1 ≤ 4097 := by
          have := (sound_len (codeCheck_ok HEC.out).1).1
          omega
        go_upto_region 12 with (at_builtin; refine wpList_app _ rfl (.tmp 58) (.tmp 60) 24 rfl (wr.heap.size + 1) 26 _ 4 32 Tryd.underlying24 info_ins rfl (by decide) encIns encIns_len one_Ins _ _ _ rfl (own_below O5.out (by (repeat' (first | (with_reducible exact Below.refl _ _) | (with_reducible refine below_alloc ?_) | (with_reducible refine below_drew ?_) | (with_reducible refine below_drewN ?_) | (with_reducible refine below_set (by simp; omega) ?_) | (with_reducible refine below_call (by with_reducible assumption) ?_))))) _ [i] rfl (by refine Sl.lit' ?_ _ _ _ _ _ _ ?_ ?_ ?_ ?_ <;> first | (intro _; rfl) | rfl | decide | (simp; done)) (by unfold maxLen; simp; omega) (by simp; omega) (by simp; omega) ?_; intro v5 w5 ho5 hg5; obtain ⟨A5', m5', rfl⟩ := own_slice ho5; have HO5 := Lib.hid ho5; have HG5 := Lib.hid hg5; have hbz5 := box_app O5.out HBZ.out hg5; have s5 := cell_of_row _ _ 5 _ _ _ hbz5; have f5 := frozen_row 5 hbz5; have HB5 := Lib.hid hbz5; clear ho5 hg5 hbz5)
        have hi5 := HO4.out
        rw [hsz1] at hi5
        have hi6 := ImgO.app (hi5.below (below_alloc (below_alloc (Below.refl _ _)))) HO5.out HG5.out
        have HI7 := Lib.hid (hi6.box HB5.out (grown_set w5 w4.heap.size 5 (.slice A5' ((ext x e).code.length + 1) m5')))
        have hB6 : Below wr.heap.size wr (w5.setCell ⟨w4.heap.size, 5, none⟩ (.slice A5' ((ext x e).code.length + 1) m5')) := by
          refine below_set (by show wr.heap.size ≤ w4.heap.size; omega) ?_
          refine below_grown (below_alloc (below_alloc (below_call hb4 (below_alloc (Below.refl _ _))))) HG5.out (fun g hg => ?_)
          exact own_ge (w := wr) O5.out (by omega) g hg
        have hrow6 := heap_setCell_same w5 w4.heap.size 5 _ 33 (.slice A5' ((ext x e).code.length + 1) m5') HB5.out
        simp at hrow6
        have HB6 := Lib.hid hB6
        clear hB6 hi6 hi5 s5 f5 HB5 HG5 HO5 HBZ HO4 O5 q0 q1 q2 q3
        generalize w5.setCell ⟨w4.heap.size, 5, none⟩ (.slice A5' ((ext x e).code.length + 1) m5') = w6 at HI7 HB6 hrow6 ⊢
        have z0 := cell_of_row _ _ 0 _ _ _ hrow6
        have z1 := cell_of_row _ _ 1 _ _ _ hrow6
        have z2 := cell_of_row _ _ 2 _ _ _ hrow6
        have z3 := cell_of_row _ _ 3 _ _ _ hrow6
        have z4 := cell_of_row _ _ 4 _ _ _ hrow6
        have z5 := cell_of_row _ _ 5 _ _ _ hrow6
        simp at z0 z1 z2 z3 z4 z5
        have HROW6 := Lib.hid hrow6
        have hbz6 : w4.heap.size < w6.heap.size := (Array.getElem?_eq_some_iff.1 hrow6).1
        clear hrow6
        have hokz : ImgOk (ext (ext x e) [i]) := fun j hj => by
          rcases List.mem_append.1 hj with hj | hj
          · rcases List.mem_append.1 hj with hj | hj
            · exact HX.out.ok j hj
            · exact HEI.out j hj
          · obtain rfl := List.mem_singleton.1 hj
            exact hiok
        have HCC := Lib.hid (codeCheck_c (ext (ext x e) [i]) _ w6 HI7.out.img (HG.out.below (below_call HB6.out HWB)) HX.out.name HX.out.ends hokz)
        by_cases hcc : (codeCheck (ext (ext x e) [i])).2 = 0
        · have hcz : ((codeCheck (ext (ext x e) [i])).2 == 0) = true := by rw [hcc]; rfl
          go_upto_region 14 with (go_at_call 10; refine HCC.out.mono ?_; rintro e' w7 ⟨rfl, hb7⟩; obtain ⟨hc7, hf7⟩ := bcell hb7; have hz7 := hb7.size)
          have HYB7 := Lib.hid ((hb7.block _ (Nat.lt_of_lt_of_le hyw HB6.out.size)).trans ((HB6.out.block _ hyw).trans HYB.out))
          have hz6 := HB6.out.size
          go_wp2_with ((with_reducible refine wpList_store_mid (by rfl) 33 (.tmp 7) (.tmp 70) (by rfl) w3.heap.size 0 #[.string (ext x e).name, .slice Z1 (ext x e).types.length m1, .slice Z2 (ext x e).first.length m2, .slice Z3 (ext x e).ins.length m3, .slice Z4 (ext x e).outs.length m4, .slice A5' ((ext x e).code.length + 1) m5'] ?_ ?_ (there_row HYB7.out rfl) (by kernel_rfl) (by kernel_rfl) ?_); (focus rfl); (focus rfl))
          go_roundg (l.length - (k + 1))
          case measure => omega
          case rel =>
            refine ⟨k + 1, e ++ [i], by go_num, by omega, by omega, by simp; omega, ?_, ?_, ?_⟩
            · exact show Aside _ from fun j hj => by
                rcases List.mem_append.1 hj with hj | hj
                · exact HEI.out j hj
                · obtain rfl := List.mem_singleton.1 hj
                  exact hiok
            · exact show Aside _ from by rw [← ext_ext]; exact hcc
            · rw [← ext_ext]
              exact (show Aside _ from (HW.out.keep (below_call hb7 HB6.out)).put (HI7.out.below hb7) ⟨_, rfl, HYB7.out⟩)
        · have hcz : ((codeCheck (ext (ext x e) [i])).2 == 0) = false := by rw [beq_eq_false_iff_ne]; exact hcc
          go_wp2_with (go_at_call 10; refine HCC.out.mono ?_; rintro e' w7 ⟨rfl, hb7⟩; obtain ⟨hc7, hf7⟩ := bcell hb7; have hz7 := hb7.size)
          go_roundg (l.length - (k + 1))
          case measure => omega
          case rel =>
            exact ⟨k + 1, e, by go_num, by omega, by omega, by omega, HEI.out, HEC.out, (show Aside _ from HW.out.keep (below_call hb7 HB6.out))⟩
      · obtain rfl : k = l.length := by omega
        have hltz : ¬ (l.length : Int) < (l.length : Int) := by omega
        obtain ⟨_, _, _, _, _, hye, -, -, -, -, A5, c5, h5, -⟩ := id hyi
        injection hye with hye
        simp at hye
        obtain ⟨-, -, -, -, rfl⟩ := hye
        subst h5
        have hxb := HW.out.xbox
        have y0 : wr.cell? ⟨w3.heap.size, 0, none⟩ = some (.string (ext x e).name) := cell_of_row _ _ 0 _ _ _ hyb
        have y1 : wr.cell? ⟨w3.heap.size, 1, none⟩ = some yt := cell_of_row _ _ 1 _ _ _ hyb
        have y2 : wr.cell? ⟨w3.heap.size, 2, none⟩ = some yf := cell_of_row _ _ 2 _ _ _ hyb
        have y3 : wr.cell? ⟨w3.heap.size, 3, none⟩ = some yi := cell_of_row _ _ 3 _ _ _ hyb
        have y4 : wr.cell? ⟨w3.heap.size, 4, none⟩ = some yo := cell_of_row _ _ 4 _ _ _ hyb
        have y5 : wr.cell? ⟨w3.heap.size, 5, none⟩ = some (.slice A5 (ext x e).code.length c5) := cell_of_row _ _ 5 _ _ _ hyb
        have x0 : wr.cell? ⟨w.heap.size, 0, none⟩ = some (.string x.name) := cell_of_row _ _ 0 _ _ _ hxb
        have x1 : wr.cell? ⟨w.heap.size, 1, none⟩ = some vt := cell_of_row _ _ 1 _ _ _ hxb
        have x2 : wr.cell? ⟨w.heap.size, 2, none⟩ = some vf := cell_of_row _ _ 2 _ _ _ hxb
        have x3 : wr.cell? ⟨w.heap.size, 3, none⟩ = some vi := cell_of_row _ _ 3 _ _ _ hxb
        have x4 : wr.cell? ⟨w.heap.size, 4, none⟩ = some vo := cell_of_row _ _ 4 _ _ _ hxb
        have x5 : wr.cell? ⟨w.heap.size, 5, none⟩ = some (.slice Ac x.code.length cc) := cell_of_row _ _ 5 _ _ _ hxb
        have hyw : w3.heap.size < wr.heap.size := (Array.getElem?_eq_some_iff.1 hyb).1
        have hxw : w.heap.size < wr.heap.size := (Array.getElem?_eq_some_iff.1 hxb).1
        have hoky : ImgOk (ext x e) := fun j hj => by
          rcases List.mem_append.1 hj with hj | hj
          · exact HX.out.ok j hj
          · exact HEI.out j hj
        have HYA := Lib.hid (show ImgAsk wr _ (ext x e) from ⟨HYI.out, HX.out.name, HX.out.ends, hoky⟩)
        have hqy := verifyL_ext HQ.out HEC.out
        have HVY := Lib.hid (show verifyNE (ext x e) = (0, 0) by unfold verifyNE; rw [hqy])
        have HDY := Lib.hid (show deepNE (ext x e) = (deep, 0) by unfold deepNE; rw [hqy])
        have HQY := Lib.hid hqy
        have HRL := Lib.hid (verifyL_len HQ.out)
        have HLEN := Lib.hid (show (ext x e).code.length = x.code.length + e.length by simp [ext])
        clear hqy hyb hyi hxb hoky
        go_upto_region 17 with (go_at_call 6; refine (check_eq (ext x e) _ _ _ _ HVY.out (HYA.out.below (by (repeat' (first | (with_reducible exact Below.refl _ _) | (with_reducible refine below_alloc ?_) | (with_reducible refine below_drew ?_) | (with_reducible refine below_drewN ?_) | (with_reducible refine below_set (by simp; omega) ?_) | (with_reducible refine below_call (by with_reducible assumption) ?_))))) (HG.out.below (below_call (by (repeat' (first | (with_reducible exact Below.refl _ _) | (with_reducible refine below_alloc ?_) | (with_reducible refine below_drew ?_) | (with_reducible refine below_drewN ?_) | (with_reducible refine below_set (by simp; omega) ?_) | (with_reducible refine below_call (by with_reducible assumption) ?_)))) HWB))).mono ?_; rintro e' v1 ⟨rfl, hbC1⟩; obtain ⟨hcC1, hfC1⟩ := bcell hbC1; have hzC1 := hbC1.size; have hyC1 := Nat.lt_of_lt_of_le hyw hzC1; have hxC1 := Nat.lt_of_lt_of_le hxw hzC1)
        go_upto_region 18 with (go_at_call 8; refine (deep_eq x _ _ _ _ HD.out (HX.out.below (below_call (by (repeat' (first | (with_reducible exact Below.refl _ _) | (with_reducible refine below_alloc ?_) | (with_reducible refine below_drew ?_) | (with_reducible refine below_drewN ?_) | (with_reducible refine below_set (by simp; omega) ?_) | (with_reducible refine below_call (by with_reducible assumption) ?_)))) HWB)) (HG.out.below (below_call (by (repeat' (first | (with_reducible exact Below.refl _ _) | (with_reducible refine below_alloc ?_) | (with_reducible refine below_drew ?_) | (with_reducible refine below_drewN ?_) | (with_reducible refine below_set (by simp; omega) ?_) | (with_reducible refine below_call (by with_reducible assumption) ?_)))) HWB))).mono ?_; rintro e' v2 ⟨rfl, hbC2⟩; obtain ⟨hcC2, hfC2⟩ := bcell hbC2; have hzC2 := hbC2.size; have hyC2 := Nat.lt_of_lt_of_le hyC1 hzC2; have hxC2 := Nat.lt_of_lt_of_le hxC1 hzC2)
        go_upto_region 19 with (go_at_call 8; refine (deep_eq (ext x e) _ _ _ _ HDY.out (HYA.out.below (by (repeat' (first | (with_reducible exact Below.refl _ _) | (with_reducible refine below_alloc ?_) | (with_reducible refine below_drew ?_) | (with_reducible refine below_drewN ?_) | (with_reducible refine below_set (by simp; omega) ?_) | (with_reducible refine below_call (by with_reducible assumption) ?_))))) (HG.out.below (below_call (by (repeat' (first | (with_reducible exact Below.refl _ _) | (with_reducible refine below_alloc ?_) | (with_reducible refine below_drew ?_) | (with_reducible refine below_drewN ?_) | (with_reducible refine below_set (by simp; omega) ?_) | (with_reducible refine below_call (by with_reducible assumption) ?_)))) HWB))).mono ?_; rintro e' v3 ⟨rfl, hbC3⟩; obtain ⟨hcC3, hfC3⟩ := bcell hbC3; have hzC3 := hbC3.size; have hyC3 := Nat.lt_of_lt_of_le hyC2 hzC3; have hxC3 := Nat.lt_of_lt_of_le hxC2 hzC3)
        go_upto_region 20 with (go_at_call 11; refine (reached_c (ext x e) _ _ (HYA.out.below (by (repeat' (first | (with_reducible exact Below.refl _ _) | (with_reducible refine below_alloc ?_) | (with_reducible refine below_drew ?_) | (with_reducible refine below_drewN ?_) | (with_reducible refine below_set (by simp; omega) ?_) | (with_reducible refine below_call (by with_reducible assumption) ?_))))) (HG.out.below (below_call (by (repeat' (first | (with_reducible exact Below.refl _ _) | (with_reducible refine below_alloc ?_) | (with_reducible refine below_drew ?_) | (with_reducible refine below_drewN ?_) | (with_reducible refine below_set (by simp; omega) ?_) | (with_reducible refine below_call (by with_reducible assumption) ?_)))) HWB))).mono ?_; rw [HQY.out]; rintro e' v4 (_ | ⟨hbC4, hnY, hsY⟩); rename_i bY; have HSY := Lib.hid hsY; clear hsY; obtain ⟨hcC4, hfC4⟩ := bcell hbC4; have hzC4 := hbC4.size; have hyC4 := Nat.lt_of_lt_of_le hyC3 hzC4; have hxC4 := Nat.lt_of_lt_of_le hxC3 hzC4)
        go_upto_region 23 with (go_at_call 11; refine (reached_c x _ _ (HX.out.below (below_call (by (repeat' (first | (with_reducible exact Below.refl _ _) | (with_reducible refine below_alloc ?_) | (with_reducible refine below_drew ?_) | (with_reducible refine below_drewN ?_) | (with_reducible refine below_set (by simp; omega) ?_) | (with_reducible refine below_call (by with_reducible assumption) ?_)))) HWB)) (HG.out.below (below_call (by (repeat' (first | (with_reducible exact Below.refl _ _) | (with_reducible refine below_alloc ?_) | (with_reducible refine below_drew ?_) | (with_reducible refine below_drewN ?_) | (with_reducible refine below_set (by simp; omega) ?_) | (with_reducible refine below_call (by with_reducible assumption) ?_)))) HWB))).mono ?_; rw [HQ.out]; rintro e' v5 (_ | ⟨hbC5, hnX, hsX⟩); rename_i bX; have HSX := Lib.hid hsX; clear hsX; obtain ⟨hcC5, hfC5⟩ := bcell hbC5; have hzC5 := hbC5.size; have hyC5 := Nat.lt_of_lt_of_le hyC4 hzC5)
        go_wp2
        go_loopg [127] (ext x e).code.length (fun gg s127 wq => ∃ k : Nat, s127 = .int .i64 k ∧ k ≤ (ext x e).code.length ∧ (ext x e).code.length - k ≤ gg ∧ Aside (Below v5.heap.size v5 wq))
        case atStart => exact ⟨0, rfl, Nat.zero_le _, by omega, (show Aside _ from Below.refl _ _)⟩
        case round =>
          obtain ⟨k, rfl, hk, hgk, HB⟩ := hrel
          have hBq := HB.out
          by_cases hlt : k < (ext x e).code.length
          · have hltz : (k : Int) < ((ext x e).code.length : Int) := by omega
            have hk0 : (0 : Int) ≤ (k : Int) := Int.natCast_nonneg _
            have hlen := HLEN.out
            have hrl := HRL.out
            have hE96 := (sound_len (codeCheck_ok HEC.out).1).1
            have hk96 : (k : Int) ≤ 4096 := by omega
            clear hE96
            by_cases hx : k < x.code.length
            · obtain ⟨rv, hrv⟩ : ∃ rv, rs[k]? = some rv := ⟨rs[k]'(by omega), List.getElem?_eq_getElem _⟩
              obtain ⟨hs1, hs2⟩ := HSX.out.at hrv (u := .bool rv) rfl
              have hrv2 : (rs ++ List.replicate e.length false)[k]? = some rv := by rw [List.getElem?_append_left (by omega)]; exact hrv
              obtain ⟨hr1, hr2⟩ := HSY.out.at hrv2 (u := .bool rv) rfl
              have c0 : wr.cell? ⟨bY, k, none⟩ = some (.bool rv) := (hBq.cell (p := ⟨bY, k, none⟩) (Nat.lt_of_lt_of_le hr1 hzC5)).trans ((hbC5.cell (p := ⟨bY, k, none⟩) hr1).trans hr2)
              have c1 : wr.cell? ⟨bX, k, none⟩ = some (.bool rv) := (hBq.cell (p := ⟨bX, k, none⟩) hs1).trans hs2
              have hxz : (k : Int) < (x.code.length : Int) := by omega
              clear hrv hrv2 hs1 hs2 hr1 hr2 hlen hrl
              cases rv
              all_goals go_upto_region 26 with fail
              all_goals go_quiet (fail)
              all_goals go_wp2
              all_goals go_roundg ((ext x e).code.length - (k + 1))
              all_goals first | exact ⟨k + 1, by go_num, by omega, by omega, below_drewN hBq⟩ | omega
            · have hrv : (rs ++ List.replicate e.length false)[k]? = some false := by
                rw [List.getElem?_append_right (by omega), List.getElem?_replicate]
                exact if_pos (by omega)
              obtain ⟨hr1, hr2⟩ := HSY.out.at hrv (u := .bool false) rfl
              have c0 : wr.cell? ⟨bY, k, none⟩ = some (.bool false) := (hBq.cell (p := ⟨bY, k, none⟩) (Nat.lt_of_lt_of_le hr1 hzC5)).trans ((hbC5.cell (p := ⟨bY, k, none⟩) hr1).trans hr2)
              have hxz : ¬ (k : Int) < (x.code.length : Int) := by omega
              clear hrv hr1 hr2 hlen hrl
              go_upto_region 26 with fail
              go_quiet (fail)
              go_wp2
              go_roundg ((ext x e).code.length - (k + 1))
              all_goals first | exact ⟨k + 1, by go_num, by omega, by omega, below_drewN hBq⟩ | omega
          · have hltz : ¬ (k : Int) < ((ext x e).code.length : Int) := by omega
            go_wp2
            go_ret
            exact ⟨rfl, by (repeat' (first | (with_reducible exact Below.refl _ _) | (with_reducible refine below_alloc ?_) | (with_reducible refine below_drew ?_) | (with_reducible refine below_drewN ?_) | (with_reducible refine below_set (by simp; omega) ?_) | (with_reducible refine below_call (by with_reducible assumption) ?_)))⟩
end Go.Proofs.YtefpgjocfgeenaaDoor
