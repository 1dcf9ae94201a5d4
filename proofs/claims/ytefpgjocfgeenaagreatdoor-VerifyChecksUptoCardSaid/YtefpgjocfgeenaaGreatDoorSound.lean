/- code.sound: what each call answers. -/
import Derived.Test.YtefpgjocfgeenaaGreatDoorCode2
import Derived.Test.YtefpgjocfgeenaaGreatDoorConcat
import Derived.Test.YtefpgjocfgeenaaGreatDoorMap
namespace Go.Proofs.YtefpgjocfgeenaaGreatDoor
open Go.RowKit Cap
set_option maxRecDepth 100000

theorem slices2 {w : World} {u v : Value} {xs ys : List Int} (h : Sl encI 1 w u xs) (h' : Sl encI 1 w v ys) : Slices encI 1 w [u, v] [xs, ys] :=
  ⟨rfl, fun j a l ha hl => by
    match j with
    | 0 => simp at ha hl; subst ha; subst hl; exact h
    | 1 => simp at ha hl; subst ha; subst hl; exact h'
    | j + 2 => simp at ha⟩
theorem fitsAll_drop {ts ns : List Int} {i : Nat} {t n : Int} (h : ts[i]? = some t) (h' : ns[i]? = some n) : fitsAll (ts.drop i) (ns.drop i) = (fits t n && fitsAll (ts.drop (i + 1)) (ns.drop (i + 1))) := by
  rw [drop_cons h, drop_cons h', fitsAll]

set_option maxHeartbeats 4000000 in
theorem sound_c (x : Img) (vx : Value) (w : World) (hx : ImgV w vx x) (hG : G w) (hn : x.name.size ≤ 140737488351232) (hl : x.ins.length + x.outs.length ≤ 1099511627776) :
    Calls Tryz.prog 105 #[vx] w fun e w' => e = .returned (.bool (isSound x)) ∧ Below w.heap.size w w' := by
  obtain ⟨vt, vf, vi, vo, vc, rfl, h1, h2, h3, h4, h5⟩ := hx
  have hlen : (x.ins ++ x.outs).length ≤ 1099511627776 := by simpa using hl
  obtain ⟨At, ct, rfl, hlt1, hlt2, hct⟩ := h1
  obtain ⟨Af, cf, rfl, hlf1, hlf2, hcf⟩ := h2
  obtain ⟨Ac, cc, rfl, hlc1, hlc2, -⟩ := h5
  have h3' := h3
  have h4' := h4
  obtain ⟨Ai, ci, rfl, hli1, hli2, -⟩ := h3'
  obtain ⟨Ao, co, rfl, hlo1, hlo2, -⟩ := h4'
  have HCT := Lib.hid hct
  have HCF := Lib.hid hcf
  clear hct hcf
  have hCat := fun (W : World) (hW : Below w.heap.size w W) (v : Value) (hv : Sl (fun u => [u]) 1 W v [.slice Ai x.ins.length ci, .slice Ao x.outs.length co]) => concat_int v _ [x.ins, x.outs] W hv (slices2 (h3.below hW) (h4.below hW)) (by simpa using hlen)
  have HCat := Lib.hid hCat
  have hNm := fun (W : World) (hW : Below w.heap.size w W) => name_c x.name W (hG.below hW) hn
  have HNm := Lib.hid hNm
  clear hCat hNm h3 h4 hG
  have HFL := Lib.hid (show x.ins ++ x.outs = [x.ins, x.outs].flatten by simp)
  cases k1 : isName x.name
  · have HR := Lib.hid (show isSound x = false by simp [isSound, k1])
    go_enter Tryz.func105, Tryz.ntmps105
    go_wp2_with (first | (go_at_call 179; refine (HCat.out _ (by (repeat' (first | (with_reducible exact Below.refl _ _) | (with_reducible refine below_alloc ?_) | (with_reducible refine below_drew ?_) | (with_reducible refine below_drewN ?_) | (with_reducible refine below_set (by simp; omega) ?_) | (with_reducible refine below_call (by with_reducible assumption) ?_)))) _ (by refine Sl.lit' ?_ _ _ _ _ _ _ ?_ ?_ ?_ ?_ <;> first | (intro _; rfl) | rfl | decide | (simp; done))).mono ?_; rintro e w1 ⟨ve, rfl, hoe, hbA⟩; obtain ⟨Ae, ce, rfl, hle1, hle2, hce⟩ := Sl.own encI_len hoe rfl; have HCE := Lib.hid hce; clear hce hoe; obtain ⟨hcA, hfA⟩ := bcell hbA; have hzA := hbA.size; (try simp at hzA); (try have hw0A : w.heap.size < w1.heap.size := by omega); (try have hw1A : w.heap.size + 1 < w1.heap.size := by omega); (try have hw2A : w.heap.size + 1 + 1 < w1.heap.size := by omega)) | (go_at_call 156; refine (HNm.out _ (by (repeat' (first | (with_reducible exact Below.refl _ _) | (with_reducible refine below_alloc ?_) | (with_reducible refine below_drew ?_) | (with_reducible refine below_drewN ?_) | (with_reducible refine below_set (by simp; omega) ?_) | (with_reducible refine below_call (by with_reducible assumption) ?_))))).mono ?_; rintro e w2 ⟨rfl, hbB⟩; obtain ⟨hcB, hfB⟩ := bcell hbB; have hzB := hbB.size; (try simp at hzB); (try have hw0B : w.heap.size < w2.heap.size := by omega); (try have hw1B : w.heap.size + 1 < w2.heap.size := by omega); (try have hw2B : w.heap.size + 1 + 1 < w2.heap.size := by omega)))
    go_ret
    exact ⟨ret_b HR.out.symm, by (repeat' (first | (with_reducible exact Below.refl _ _) | (with_reducible refine below_alloc ?_) | (with_reducible refine below_drew ?_) | (with_reducible refine below_drewN ?_) | (with_reducible refine below_set (by simp; omega) ?_) | (with_reducible refine below_call (by with_reducible assumption) ?_)))⟩
  have e2 : x.types.length = x.first.length ∨ ¬ x.types.length = x.first.length := Classical.em _
  rcases e2 with e2 | e2
  rotate_left
  · have HR := Lib.hid (show isSound x = false by simp [isSound, e2])
    have k2 : ((x.types.length : Int) != (x.first.length : Int)) = true := by rw [bne_iff_ne]; omega
    clear e2
    go_enter Tryz.func105, Tryz.ntmps105
    go_wp2_with (first | (go_at_call 179; refine (HCat.out _ (by (repeat' (first | (with_reducible exact Below.refl _ _) | (with_reducible refine below_alloc ?_) | (with_reducible refine below_drew ?_) | (with_reducible refine below_drewN ?_) | (with_reducible refine below_set (by simp; omega) ?_) | (with_reducible refine below_call (by with_reducible assumption) ?_)))) _ (by refine Sl.lit' ?_ _ _ _ _ _ _ ?_ ?_ ?_ ?_ <;> first | (intro _; rfl) | rfl | decide | (simp; done))).mono ?_; rintro e w1 ⟨ve, rfl, hoe, hbA⟩; obtain ⟨Ae, ce, rfl, hle1, hle2, hce⟩ := Sl.own encI_len hoe rfl; have HCE := Lib.hid hce; clear hce hoe; obtain ⟨hcA, hfA⟩ := bcell hbA; have hzA := hbA.size; (try simp at hzA); (try have hw0A : w.heap.size < w1.heap.size := by omega); (try have hw1A : w.heap.size + 1 < w1.heap.size := by omega); (try have hw2A : w.heap.size + 1 + 1 < w1.heap.size := by omega)) | (go_at_call 156; refine (HNm.out _ (by (repeat' (first | (with_reducible exact Below.refl _ _) | (with_reducible refine below_alloc ?_) | (with_reducible refine below_drew ?_) | (with_reducible refine below_drewN ?_) | (with_reducible refine below_set (by simp; omega) ?_) | (with_reducible refine below_call (by with_reducible assumption) ?_))))).mono ?_; rintro e w2 ⟨rfl, hbB⟩; obtain ⟨hcB, hfB⟩ := bcell hbB; have hzB := hbB.size; (try simp at hzB); (try have hw0B : w.heap.size < w2.heap.size := by omega); (try have hw1B : w.heap.size + 1 < w2.heap.size := by omega); (try have hw2B : w.heap.size + 1 + 1 < w2.heap.size := by omega)))
    go_ret
    exact ⟨ret_b HR.out.symm, by (repeat' (first | (with_reducible exact Below.refl _ _) | (with_reducible refine below_alloc ?_) | (with_reducible refine below_drew ?_) | (with_reducible refine below_drewN ?_) | (with_reducible refine below_set (by simp; omega) ?_) | (with_reducible refine below_call (by with_reducible assumption) ?_)))⟩
  have k2 : ((x.types.length : Int) != (x.first.length : Int)) = false := by rw [bne_eq_false_iff_eq]; omega
  have E2 := Lib.hid e2
  clear e2
  by_cases k3 : 1024 < x.types.length
  · have HR := Lib.hid (show isSound x = false by simp [isSound]; omega)
    go_enter Tryz.func105, Tryz.ntmps105
    go_wp2_with (first | (go_at_call 179; refine (HCat.out _ (by (repeat' (first | (with_reducible exact Below.refl _ _) | (with_reducible refine below_alloc ?_) | (with_reducible refine below_drew ?_) | (with_reducible refine below_drewN ?_) | (with_reducible refine below_set (by simp; omega) ?_) | (with_reducible refine below_call (by with_reducible assumption) ?_)))) _ (by refine Sl.lit' ?_ _ _ _ _ _ _ ?_ ?_ ?_ ?_ <;> first | (intro _; rfl) | rfl | decide | (simp; done))).mono ?_; rintro e w1 ⟨ve, rfl, hoe, hbA⟩; obtain ⟨Ae, ce, rfl, hle1, hle2, hce⟩ := Sl.own encI_len hoe rfl; have HCE := Lib.hid hce; clear hce hoe; obtain ⟨hcA, hfA⟩ := bcell hbA; have hzA := hbA.size; (try simp at hzA); (try have hw0A : w.heap.size < w1.heap.size := by omega); (try have hw1A : w.heap.size + 1 < w1.heap.size := by omega); (try have hw2A : w.heap.size + 1 + 1 < w1.heap.size := by omega)) | (go_at_call 156; refine (HNm.out _ (by (repeat' (first | (with_reducible exact Below.refl _ _) | (with_reducible refine below_alloc ?_) | (with_reducible refine below_drew ?_) | (with_reducible refine below_drewN ?_) | (with_reducible refine below_set (by simp; omega) ?_) | (with_reducible refine below_call (by with_reducible assumption) ?_))))).mono ?_; rintro e w2 ⟨rfl, hbB⟩; obtain ⟨hcB, hfB⟩ := bcell hbB; have hzB := hbB.size; (try simp at hzB); (try have hw0B : w.heap.size < w2.heap.size := by omega); (try have hw1B : w.heap.size + 1 < w2.heap.size := by omega); (try have hw2B : w.heap.size + 1 + 1 < w2.heap.size := by omega)))
    go_ret
    exact ⟨ret_b HR.out.symm, by (repeat' (first | (with_reducible exact Below.refl _ _) | (with_reducible refine below_alloc ?_) | (with_reducible refine below_drew ?_) | (with_reducible refine below_drewN ?_) | (with_reducible refine below_set (by simp; omega) ?_) | (with_reducible refine below_call (by with_reducible assumption) ?_)))⟩
  by_cases k4 : x.code.length < 1
  · have HR := Lib.hid (show isSound x = false by simp [isSound]; omega)
    go_enter Tryz.func105, Tryz.ntmps105
    go_wp2_with (first | (go_at_call 179; refine (HCat.out _ (by (repeat' (first | (with_reducible exact Below.refl _ _) | (with_reducible refine below_alloc ?_) | (with_reducible refine below_drew ?_) | (with_reducible refine below_drewN ?_) | (with_reducible refine below_set (by simp; omega) ?_) | (with_reducible refine below_call (by with_reducible assumption) ?_)))) _ (by refine Sl.lit' ?_ _ _ _ _ _ _ ?_ ?_ ?_ ?_ <;> first | (intro _; rfl) | rfl | decide | (simp; done))).mono ?_; rintro e w1 ⟨ve, rfl, hoe, hbA⟩; obtain ⟨Ae, ce, rfl, hle1, hle2, hce⟩ := Sl.own encI_len hoe rfl; have HCE := Lib.hid hce; clear hce hoe; obtain ⟨hcA, hfA⟩ := bcell hbA; have hzA := hbA.size; (try simp at hzA); (try have hw0A : w.heap.size < w1.heap.size := by omega); (try have hw1A : w.heap.size + 1 < w1.heap.size := by omega); (try have hw2A : w.heap.size + 1 + 1 < w1.heap.size := by omega)) | (go_at_call 156; refine (HNm.out _ (by (repeat' (first | (with_reducible exact Below.refl _ _) | (with_reducible refine below_alloc ?_) | (with_reducible refine below_drew ?_) | (with_reducible refine below_drewN ?_) | (with_reducible refine below_set (by simp; omega) ?_) | (with_reducible refine below_call (by with_reducible assumption) ?_))))).mono ?_; rintro e w2 ⟨rfl, hbB⟩; obtain ⟨hcB, hfB⟩ := bcell hbB; have hzB := hbB.size; (try simp at hzB); (try have hw0B : w.heap.size < w2.heap.size := by omega); (try have hw1B : w.heap.size + 1 < w2.heap.size := by omega); (try have hw2B : w.heap.size + 1 + 1 < w2.heap.size := by omega)))
    go_ret
    exact ⟨ret_b HR.out.symm, by (repeat' (first | (with_reducible exact Below.refl _ _) | (with_reducible refine below_alloc ?_) | (with_reducible refine below_drew ?_) | (with_reducible refine below_drewN ?_) | (with_reducible refine below_set (by simp; omega) ?_) | (with_reducible refine below_call (by with_reducible assumption) ?_)))⟩
  by_cases k5 : 4096 < x.code.length
  · have HR := Lib.hid (show isSound x = false by simp [isSound]; omega)
    go_enter Tryz.func105, Tryz.ntmps105
    go_wp2_with (first | (go_at_call 179; refine (HCat.out _ (by (repeat' (first | (with_reducible exact Below.refl _ _) | (with_reducible refine below_alloc ?_) | (with_reducible refine below_drew ?_) | (with_reducible refine below_drewN ?_) | (with_reducible refine below_set (by simp; omega) ?_) | (with_reducible refine below_call (by with_reducible assumption) ?_)))) _ (by refine Sl.lit' ?_ _ _ _ _ _ _ ?_ ?_ ?_ ?_ <;> first | (intro _; rfl) | rfl | decide | (simp; done))).mono ?_; rintro e w1 ⟨ve, rfl, hoe, hbA⟩; obtain ⟨Ae, ce, rfl, hle1, hle2, hce⟩ := Sl.own encI_len hoe rfl; have HCE := Lib.hid hce; clear hce hoe; obtain ⟨hcA, hfA⟩ := bcell hbA; have hzA := hbA.size; (try simp at hzA); (try have hw0A : w.heap.size < w1.heap.size := by omega); (try have hw1A : w.heap.size + 1 < w1.heap.size := by omega); (try have hw2A : w.heap.size + 1 + 1 < w1.heap.size := by omega)) | (go_at_call 156; refine (HNm.out _ (by (repeat' (first | (with_reducible exact Below.refl _ _) | (with_reducible refine below_alloc ?_) | (with_reducible refine below_drew ?_) | (with_reducible refine below_drewN ?_) | (with_reducible refine below_set (by simp; omega) ?_) | (with_reducible refine below_call (by with_reducible assumption) ?_))))).mono ?_; rintro e w2 ⟨rfl, hbB⟩; obtain ⟨hcB, hfB⟩ := bcell hbB; have hzB := hbB.size; (try simp at hzB); (try have hw0B : w.heap.size < w2.heap.size := by omega); (try have hw1B : w.heap.size + 1 < w2.heap.size := by omega); (try have hw2B : w.heap.size + 1 + 1 < w2.heap.size := by omega)))
    go_ret
    exact ⟨ret_b HR.out.symm, by (repeat' (first | (with_reducible exact Below.refl _ _) | (with_reducible refine below_alloc ?_) | (with_reducible refine below_drew ?_) | (with_reducible refine below_drewN ?_) | (with_reducible refine below_set (by simp; omega) ?_) | (with_reducible refine below_call (by with_reducible assumption) ?_)))⟩
  by_cases k6 : x.types.length < x.ins.length + x.outs.length
  · have HR := Lib.hid (show isSound x = false by (simp [isSound]; omega))
    go_enter Tryz.func105, Tryz.ntmps105
    go_wp2_with (first | (go_at_call 179; refine (HCat.out _ (by (repeat' (first | (with_reducible exact Below.refl _ _) | (with_reducible refine below_alloc ?_) | (with_reducible refine below_drew ?_) | (with_reducible refine below_drewN ?_) | (with_reducible refine below_set (by simp; omega) ?_) | (with_reducible refine below_call (by with_reducible assumption) ?_)))) _ (by refine Sl.lit' ?_ _ _ _ _ _ _ ?_ ?_ ?_ ?_ <;> first | (intro _; rfl) | rfl | decide | (simp; done))).mono ?_; rintro e w1 ⟨ve, rfl, hoe, hbA⟩; obtain ⟨Ae, ce, rfl, hle1, hle2, hce⟩ := Sl.own encI_len hoe rfl; have HCE := Lib.hid hce; clear hce hoe; obtain ⟨hcA, hfA⟩ := bcell hbA; have hzA := hbA.size; (try simp at hzA); (try have hw0A : w.heap.size < w1.heap.size := by omega); (try have hw1A : w.heap.size + 1 < w1.heap.size := by omega); (try have hw2A : w.heap.size + 1 + 1 < w1.heap.size := by omega)) | (go_at_call 156; refine (HNm.out _ (by (repeat' (first | (with_reducible exact Below.refl _ _) | (with_reducible refine below_alloc ?_) | (with_reducible refine below_drew ?_) | (with_reducible refine below_drewN ?_) | (with_reducible refine below_set (by simp; omega) ?_) | (with_reducible refine below_call (by with_reducible assumption) ?_))))).mono ?_; rintro e w2 ⟨rfl, hbB⟩; obtain ⟨hcB, hfB⟩ := bcell hbB; have hzB := hbB.size; (try simp at hzB); (try have hw0B : w.heap.size < w2.heap.size := by omega); (try have hw1B : w.heap.size + 1 < w2.heap.size := by omega); (try have hw2B : w.heap.size + 1 + 1 < w2.heap.size := by omega)))
    go_ret
    exact ⟨ret_b HR.out.symm, by (repeat' (first | (with_reducible exact Below.refl _ _) | (with_reducible refine below_alloc ?_) | (with_reducible refine below_drew ?_) | (with_reducible refine below_drewN ?_) | (with_reducible refine below_set (by simp; omega) ?_) | (with_reducible refine below_call (by with_reducible assumption) ?_)))⟩
  have hS : isSound x = (fitsAll x.types x.first && endsOk x.types.length [x.ins, x.outs].flatten (fun _ => false)) := by
    have e2 := E2.out
    have a3 : x.types.length ≤ 1024 := by omega
    have a4 : 1 ≤ x.code.length := by omega
    have a5 : x.code.length ≤ 4096 := by omega
    have a6 : (x.ins ++ x.outs).length ≤ x.types.length := by rw [List.length_append]; omega
    simp only [isSound, k1, e2, Bool.true_and, beq_self_eq_true, decide_eq_true_eq]
    simp at a6
    simp [a4, a5, a6, ← e2, a3]
  have HS := Lib.hid hS
  clear hS
  have d3 : decide ((1024 : Int) < (x.types.length : Int)) = false := by simp; omega
  have d4 : decide ((x.code.length : Int) < 1) = false := by simp; omega
  have d5 : decide ((4096 : Int) < (x.code.length : Int)) = false := by simp; omega
  have d6 : decide ((x.types.length : Int) < (x.ins.length : Int) + (x.outs.length : Int)) = false := by simp; omega
  have hmm := @run_makeMap Tryz.prog
  go_enter Tryz.func105, Tryz.ntmps105
  go_wp2_with (first | (go_at_call 179; refine (HCat.out _ (by (repeat' (first | (with_reducible exact Below.refl _ _) | (with_reducible refine below_alloc ?_) | (with_reducible refine below_drew ?_) | (with_reducible refine below_drewN ?_) | (with_reducible refine below_set (by simp; omega) ?_) | (with_reducible refine below_call (by with_reducible assumption) ?_)))) _ (by refine Sl.lit' ?_ _ _ _ _ _ _ ?_ ?_ ?_ ?_ <;> first | (intro _; rfl) | rfl | decide | (simp; done))).mono ?_; rintro e w1 ⟨ve, rfl, hoe, hbA⟩; obtain ⟨Ae, ce, rfl, hle1, hle2, hce⟩ := Sl.own encI_len hoe rfl; have HCE := Lib.hid hce; clear hce hoe; obtain ⟨hcA, hfA⟩ := bcell hbA; have hzA := hbA.size; (try simp at hzA); (try have hw0A : w.heap.size < w1.heap.size := by omega); (try have hw1A : w.heap.size + 1 < w1.heap.size := by omega); (try have hw2A : w.heap.size + 1 + 1 < w1.heap.size := by omega)) | (go_at_call 156; refine (HNm.out _ (by (repeat' (first | (with_reducible exact Below.refl _ _) | (with_reducible refine below_alloc ?_) | (with_reducible refine below_drew ?_) | (with_reducible refine below_drewN ?_) | (with_reducible refine below_set (by simp; omega) ?_) | (with_reducible refine below_call (by with_reducible assumption) ?_))))).mono ?_; rintro e w2 ⟨rfl, hbB⟩; obtain ⟨hcB, hfB⟩ := bcell hbB; have hzB := hbB.size; (try simp at hzB); (try have hw0B : w.heap.size < w2.heap.size := by omega); (try have hw1B : w.heap.size + 1 < w2.heap.size := by omega); (try have hw2B : w.heap.size + 1 + 1 < w2.heap.size := by omega)))
  have BW2 : Below w.heap.size w w2 := by (repeat' (first | (with_reducible exact Below.refl _ _) | (with_reducible refine below_alloc ?_) | (with_reducible refine below_drew ?_) | (with_reducible refine below_drewN ?_) | (with_reducible refine below_set (by simp; omega) ?_) | (with_reducible refine below_call (by with_reducible assumption) ?_)))
  have hsz : w.heap.size < w1.heap.size := by omega
  have cb1 : w2.cell? ⟨w.heap.size, 1, none⟩ = some (.slice At x.types.length ct) := by
    rw [hcB _ _ hsz, hcA _ _ (by simp; omega)]
    simp
  go_loopg [57] x.types.length (fun gg s57 wr => ∃ kk : Nat, kk ≤ x.types.length ∧ x.types.length - kk ≤ gg ∧ s57 = .int .i64 kk ∧ Aside (w2 = wr) ∧ Aside (fitsAll (x.types.drop kk) (x.first.drop kk) = fitsAll x.types x.first))
  case atStart => exact ⟨0, Nat.zero_le _, by omega, rfl, rfl, rfl⟩
  case round =>
    obtain ⟨kk, hkk, hg, rfl, BW, HF⟩ := hrel
    obtain rfl := BW.out
    by_cases hlt : kk < x.types.length
    · have hlt' : kk < x.first.length := by have := E2.out; omega
      obtain ⟨t, ht⟩ : ∃ t, x.types[kk]? = some t := ⟨x.types[kk], List.getElem?_eq_getElem hlt⟩
      obtain ⟨n, hn'⟩ : ∃ n, x.first[kk]? = some n := ⟨x.first[kk], List.getElem?_eq_getElem hlt'⟩
      obtain ⟨b, off, rfl, hb1, hcx⟩ := HCT.out kk t ht
      obtain ⟨b', off', rfl, hb1', hcy⟩ := HCF.out kk n hn'
      have hT := Lib.hid ht
      have hN := Lib.hid hn'
      clear ht hn'
      have hltz : (kk : Int) < (x.types.length : Int) := by omega
      have hltz' : (kk : Int) < (x.first.length : Int) := by omega
      have c0 : w2.cell? ⟨b, off + kk, none⟩ = some (.int .i64 t) := by simpa using (BW2.cell (p := ⟨b, off + kk * 1 + 0, none⟩) hb1).trans (hcx 0 _ rfl)
      have d0 : w2.cell? ⟨b', off' + kk, none⟩ = some (.int .i64 n) := by simpa using (BW2.cell (p := ⟨b', off' + kk * 1 + 0, none⟩) hb1').trans (hcy 0 _ rfl)
      clear hcx hcy
      cases hq : fits t n with
      | true =>
        go_wp2_with (go_at_call 30; refine (fits_c _ _ _).mono ?_; rintro e w' ⟨rfl, rfl⟩)
        go_roundg (x.types.length - (kk + 1))
        case measure => omega
        case rel =>
          refine ⟨kk + 1, by omega, by omega, by go_num, rfl, (show Aside _ from ?_)⟩
          have h1 := HF.out
          rw [fitsAll_drop hT.out hN.out, hq, Bool.true_and] at h1
          exact h1
      | false =>
        go_wp2_with (go_at_call 30; refine (fits_c _ _ _).mono ?_; rintro e w' ⟨rfl, rfl⟩)
        go_ret
        refine ⟨ret_b ?_, BW2⟩
        rw [HS.out, ← HF.out, fitsAll_drop hT.out hN.out, hq, Bool.false_and, Bool.false_and]
    · have : kk = x.types.length := by omega
      have hltz : ¬ (kk : Int) < (x.types.length : Int) := by omega
      subst this
      have hF : fitsAll x.types x.first = true := by
        rw [← HF.out, List.drop_length, E2.out, List.drop_length]
        rfl
      have HFT := Lib.hid hF
      clear hF
      have hzero : ∀ W, (zeroValue 4).run Tryz.prog W = .ok (.bool false) W := fun W => by kernel_rfl
      have HZ := Lib.hid hzero
      clear hzero
      have hM0 : w2.heap.size ≠ w.heap.size := by omega
      go_wp2
      go_loopg [74] (x.ins.length + x.outs.length) (fun gg s74 wr => ∃ (kk : Nat) (f : Int → Bool), kk ≤ x.ins.length + x.outs.length ∧ x.ins.length + x.outs.length - kk ≤ gg ∧ s74 = .int .i64 kk ∧ Aside ((w2.alloc (.map #[] 0)).grownBy wr (some w2.heap.size)) ∧ Aside (MapIB Tryz.prog 3 wr w2.heap.size kk f) ∧ Aside (endsOk x.types.length ([x.ins, x.outs].flatten.drop kk) f = endsOk x.types.length [x.ins, x.outs].flatten (fun _ => false)))
      case atStart => exact ⟨0, _, Nat.zero_le _, by omega, rfl, ⟨rfl, rfl, rfl, Nat.le_refl _, fun _ _ _ => rfl⟩, MapIB.made _ _, rfl⟩
      case round =>
        obtain ⟨kk, f, hkk, hg, rfl, GR, HM, HF⟩ := hrel
        by_cases hlt : kk < x.ins.length + x.outs.length
        · obtain ⟨c, hcl⟩ : ∃ c, [x.ins, x.outs].flatten[kk]? = some c := ⟨[x.ins, x.outs].flatten[kk]'(by simp; omega), List.getElem?_eq_getElem _⟩
          obtain ⟨b, off, rfl, hb1, hcx⟩ := HCE.out kk c hcl
          have HL := Lib.hid hcl
          clear hcl
          have hltz : (kk : Int) < (x.ins.length : Int) + (x.outs.length : Int) := by omega
          have hcellr : ∀ p : Addr, p.block < w2.heap.size → wr.cell? p = w2.cell? p := fun p hp =>
            (World.cell?_of_block (GR.out.block p.block (by simp; omega) (by simp; omega))).trans ((below_alloc (Below.refl w2.heap.size w2)).cell hp)
          have c0 : wr.cell? ⟨b, off + kk, none⟩ = some (.int .i64 c) := by
            have h := (hcellr ⟨b, off + kk * 1 + 0, none⟩ (by show b < _; omega)).trans ((hbB.cell (p := ⟨b, off + kk * 1 + 0, none⟩) hb1).trans (hcx 0 _ rfl))
            simpa using h
          have cb : wr.cell? ⟨w.heap.size, 1, none⟩ = some (.slice At x.types.length ct) := (hcellr _ (by show w.heap.size < _; omega)).trans cb1
          clear hcx hcellr
          have hfin : isSound x = endsOk x.types.length (c :: [x.ins, x.outs].flatten.drop (kk + 1)) f := by rw [HS.out, HFT.out, Bool.true_and, ← HF.out, drop_cons HL.out]
          have HFIN := Lib.hid hfin
          have HBW := Lib.hid (below_grown (below_alloc BW2) GR.out (fun g hg => by cases hg; exact BW2.size))
          clear hfin
          by_cases j1 : c < 0
          · go_wp2
            go_ret
            exact ⟨ret_b (by rw [HFIN.out, endsOk, if_pos (by omega)]), HBW.out⟩
          by_cases j2 : (x.types.length : Int) ≤ c
          · go_wp2
            go_ret
            exact ⟨ret_b (by rw [HFIN.out, endsOk, if_neg (by omega), if_pos (by omega)]), HBW.out⟩
          have hwf : wfI c := wfI_of (by omega) (by omega)
          have hlook := HM.out.look (T := 224) Tryz.underlying3 Tryz.underlying224 (HZ.out wr) hwf
          cases hq : f c with
          | true =>
            rw [hq] at hlook
            go_wp2
            go_ret
            exact ⟨ret_b (by rw [HFIN.out, endsOk, if_neg (by omega), if_neg (by omega), hq]; rfl), HBW.out⟩
          | false =>
            rw [hq] at hlook
            obtain ⟨w4, hput, hM4, hg4⟩ := HM.out.put (T := 224) Tryz.underlying3 Tryz.underlying224 (by unfold maxLen; omega) hwf true
            go_wp2
            go_roundg (x.ins.length + x.outs.length - (kk + 1))
            case measure => omega
            case rel =>
              refine ⟨kk + 1, _, by omega, by omega, by go_num, GR.out.trans hg4, hM4, (show Aside _ from ?_)⟩
              have h1 := HF.out
              rw [drop_cons HL.out, endsOk, if_neg (by omega), if_neg (by omega), hq] at h1
              exact h1
        · have : kk = x.ins.length + x.outs.length := by omega
          have hltz : ¬ (kk : Int) < (x.ins.length : Int) + (x.outs.length : Int) := by omega
          subst this
          go_wp2
          go_ret
          refine ⟨ret_b ?_, below_grown (below_alloc BW2) GR.out (fun g hg => by cases hg; exact BW2.size)⟩
          have hl0 : x.ins.length + x.outs.length = [x.ins, x.outs].flatten.length := by simp
          rw [HS.out, HFT.out, Bool.true_and, ← HF.out, hl0, List.drop_length]
          rfl
end Go.Proofs.YtefpgjocfgeenaaGreatDoor
