/- Slices in a list, one behind the other: plain words for slices.Concat. -/
import Derived.Test.YtbnelgniekcjdaaGreatDoorCFBase
import Derived.Test.YtbnelgniekcjdaaGreatDoorCKit
import Derived.Test.YtbnelgniekcjdaaGreatDoorProg
import Derived.Test.YtbnelgniekcjdaaGreatDoorShelf
set_option linter.unusedSimpArgs false
set_option linter.unusedVariables false
namespace Go.Proofs.YtbnelgniekcjdaaGreatDoor
open Go.RowKit Cap

/-- Slices in a list. -/
def Slices {α : Type} (enc : α → List Value) (k : Nat) (w : World) (vs : List Value) (xss : List (List α)) : Prop :=
  vs.length = xss.length ∧ ∀ (j : Nat) u xs, vs[j]? = some u → xss[j]? = some xs → Sl enc k w u xs
def lensTo {α : Type} (xss : List (List α)) (k : Nat) : Nat := (xss.take k).flatten.length
theorem take_flat {α : Type} {xss : List (List α)} {k : Nat} {xs : List α} (h : xss[k]? = some xs) : (xss.take (k + 1)).flatten = (xss.take k).flatten ++ xs := by
  obtain ⟨hk, rfl⟩ := List.getElem?_eq_some_iff.1 h
  rw [List.take_succ_eq_append_getElem hk, List.flatten_append]
  simp
theorem lensTo_succ {α : Type} {xss : List (List α)} {k : Nat} {xs : List α} (h : xss[k]? = some xs) : lensTo xss (k + 1) = lensTo xss k + xs.length := by
  rw [lensTo, take_flat h, List.length_append, lensTo]
theorem lensTo_le {α : Type} (xss : List (List α)) (k : Nat) : lensTo xss k ≤ xss.flatten.length := by
  have e : xss.flatten = (xss.take k).flatten ++ (xss.drop k).flatten := by rw [← List.flatten_append, List.take_append_drop]
  rw [lensTo, e, List.length_append]
  omega

def ConcatR {α : Type} (enc : α → List Value) (k : Nat) (T : TypeId) (ys : List α) (w : World) (e : Ending) (w' : World) : Prop :=
  ∃ v, e = .returned v ∧ w'.ownsRow w.heap.size T k v ys.length (ys.flatMap enc) ∧ Below w.heap.size w w'
end Go.Proofs.YtbnelgniekcjdaaGreatDoor

/- Texts in a row. -/
namespace Go.Proofs.YtbnelgniekcjdaaGreatDoor
open Go.RowKit Cap
theorem info_strR : InfoIs Tryz.prog 9 (.string ⟨#[]⟩) 1 16 := by unfold InfoIs; kernel_rfl
theorem encS_lenR (x : ByteArray) : (encS x).length = 1 := rfl
theorem one_SR (x : ByteArray) : ∀ u ∈ encS x, u.oneCell' = true := fun u hu => by
  simp [encS] at hu
  subst hu
  rfl
end Go.Proofs.YtbnelgniekcjdaaGreatDoor

/- slices.Grow and slices.Concat over []string: what each call answers. -/
namespace Go.Proofs.YtbnelgniekcjdaaGreatDoor
open Go.RowKit Cap
set_option maxRecDepth 100000

/-- A new row of room for n: nothing is in it yet. -/
theorem grow_S (n : Nat) (w : World) (hn : n ≤ 1099511627776) :
    Calls Tryz.prog 79 #[.slice none 0 0, .int .i64 n] w fun e w' => ∃ v, e = .returned v ∧ w'.ownsRow w.heap.size 9 1 v 0 [] ∧ Below w.heap.size w w' := by
  rcases Nat.eq_zero_or_pos n with rfl | h0
  · refine (Any8.slices_Grow_room Tryz.grow79 none 0 0 0 w (by omega) (by omega) (by omega) (by omega)).mono ?_
    rintro e w' ⟨rfl, rfl⟩
    exact ⟨_, rfl, World.ownsRow_nil _ _ _ _, Below.refl _ _⟩
  · obtain ⟨i, hi1, hi2, hi3, hi4⟩ := info_strR.parts
    have hb : (0 + n) * i.bytes ≤ 140737488355328 := by rw [hi4]; omega
    refine (Any8.slices_Grow_grow Tryz.grow79 i (.string ⟨#[]⟩) hi1 hi2 (by omega) none 0 0 n [] w (by omega) (by omega) hb (by omega) (by simp) (fun _ => rfl) (fun a h => by cases h)).mono ?_
    rintro e w' ⟨rfl, rfl⟩
    refine ⟨_, rfl, ⟨rfl, .inr ⟨w.heap.size, _, _, rfl, Nat.le_refl _, heap_alloc_new w.drew _, Nat.zero_le _, grownCap_le_maxLen _ _ _ _ (by unfold maxLen; omega), ?_, by simp⟩⟩, below_alloc (below_drew (Below.refl _ _))⟩
    have hge := grownCap_ge w (0 + n) 0 (Tryz.grow79_ren.t 25)
    simp only [Nat.zero_add] at hge
    simp [size_zeroCells, Value.cells]
    omega
set_option maxHeartbeats 2000000 in
theorem concat_S (v : Value) (vs : List Value) (xss : List (List ByteArray)) (w : World) (hs : Sl (fun u => [u]) 1 w v vs) (hl : Slices encS 1 w vs xss) (ht : xss.flatten.length ≤ 1099511627776) :
    Calls Tryz.prog 54 #[v] w (ConcatR encS 1 9 xss.flatten w) := by
  obtain ⟨A, c, rfl, hlc, hc, hcell⟩ := hs
  obtain ⟨hvl, hl⟩ := hl
  rw [hvl] at hlc ⊢
  have hbig : xss.length ≤ 9223372036854775807 := Nat.le_trans hlc hc
  have HL := Lib.hid hl
  have HC := Lib.hid hcell
  have HV := Lib.hid hvl
  have hto := lensTo_le xss
  clear hl hcell hvl
  go_enter Tryz.func54, Tryz.ntmps54
  go_wp2
  go_loopg [3, 11] xss.length (fun gg s3 s11 wr => ∃ kk : Nat, kk ≤ xss.length ∧ xss.length - kk ≤ gg ∧ s3 = .int .i64 (lensTo xss kk) ∧ s11 = .int .i64 kk ∧ Aside (Below w.heap.size w wr))
  case atStart => exact ⟨0, Nat.zero_le _, by omega, rfl, rfl, Below.refl _ w⟩
  case round =>
    obtain ⟨kk, hkk, hg, rfl, rfl, BW⟩ := hrel
    by_cases hlt : kk < xss.length
    · obtain ⟨xs, hx⟩ : ∃ xs, xss[kk]? = some xs := ⟨xss[kk], List.getElem?_eq_getElem hlt⟩
      obtain ⟨u, hu⟩ : ∃ u, vs[kk]? = some u := ⟨vs[kk]'(by have := HV.out; omega), List.getElem?_eq_getElem _⟩
      obtain ⟨b, off, rfl, hb, hcx⟩ := HC.out kk u hu
      have hS := HL.out kk u xs hu hx
      obtain ⟨A', c', rfl, hlc', hc', _⟩ := hS
      have hX := Lib.hid hx
      have hs1 := lensTo_succ hx
      have h1 := hto kk
      have h2 := hto (kk + 1)
      have HS1 := Lib.hid hs1
      have hb1 : lensTo xss kk + xs.length ≤ 1099511627776 := by omega
      clear hx hu hs1 hto
      have hltz : (kk : Int) < (xss.length : Int) := by omega
      have c0 : wr.cell? ⟨b, off + kk, none⟩ = some (.slice A' xs.length c') := by simpa using (BW.out.cell (p := ⟨b, off + kk * 1 + 0, none⟩) hb).trans (hcx 0 _ rfl)
      clear hcx
      go_wp2
      go_roundg (xss.length - (kk + 1))
      case measure => omega
      case rel => exact ⟨kk + 1, by omega, by omega, by rw [HS1.out]; go_num, by go_num, BW⟩
    · have : kk = xss.length := by omega
      have hltz : ¬ (kk : Int) < (xss.length : Int) := by omega
      subst this
      have hb1 : lensTo xss xss.length ≤ 1099511627776 := by have := hto xss.length; omega
      have hG := fun W => grow_S (lensTo xss xss.length) W hb1
      have HG := Lib.hid hG
      clear hG hto
      go_wp2_with fail
      refine (HG.out _).mono ?_
      rintro e w1 ⟨v1, rfl, ho1, hbw⟩
      have BW1 := below_call hbw BW.out
      have hsz := BW.out.size
      clear BW
      go_wp2
      go_loopg [6, 27] xss.length (fun gg s6 s27 wq => ∃ kk : Nat, kk ≤ xss.length ∧ xss.length - kk ≤ gg ∧ s27 = .int .i64 kk ∧ Aside (Below w.heap.size w wq) ∧ Aside (wq.ownsRow w.heap.size 9 1 s6 (xss.take kk).flatten.length ((xss.take kk).flatten.flatMap encS)))
      case atStart => exact ⟨0, Nat.zero_le _, by omega, rfl, BW1, own_base ho1 (by exact hsz)⟩
      case round =>
        obtain ⟨kk, hkk, hg, rfl, BQ, HO⟩ := hrel
        by_cases hlt : kk < xss.length
        · obtain ⟨xs, hx⟩ : ∃ xs, xss[kk]? = some xs := ⟨xss[kk], List.getElem?_eq_getElem hlt⟩
          obtain ⟨u, hu⟩ : ∃ u, vs[kk]? = some u := ⟨vs[kk]'(by have := HV.out; omega), List.getElem?_eq_getElem _⟩
          obtain ⟨b, off, rfl, hb, hcx⟩ := HC.out kk u hu
          have hS := (HL.out kk u xs hu hx).below BQ.out
          have hs1 := lensTo_succ hx
          have h2 := lensTo_le xss (kk + 1)
          have HX := Lib.hid hx
          have HT := Lib.hid (take_flat hx)
          have hb1 : (xss.take kk).flatten.length + xs.length ≤ 1099511627776 := by unfold lensTo at hs1 h2; omega
          clear hx hu hs1 h2
          have hltz : (kk : Int) < (xss.length : Int) := by omega
          have c0 : wr.cell? ⟨b, off + kk, none⟩ = some u := by simpa using (BQ.out.cell (p := ⟨b, off + kk * 1 + 0, none⟩) hb).trans (hcx 0 _ rfl)
          clear hcx
          have hsq := BQ.out.size
          go_wp2_with (at_builtin; refine wpList_app _ rfl _ _ 23 rfl w.heap.size 9 (.string ⟨#[]⟩) 1 16 Tryz.underlying23 info_strR rfl (by decide) encS encS_lenR one_SR _ _ _ rfl HO.out _ xs rfl hS (by unfold maxLen; omega) (by omega) (by omega) ?_; intro v2 w2 ho2 hg2)
          go_roundg (xss.length - (kk + 1))
          case measure => omega
          case rel =>
            refine ⟨kk + 1, by omega, by omega, by go_num, below_grown BQ.out hg2 (own_ge HO.out (Nat.le_refl _)), (show Aside _ from ?_)⟩
            rw [HT.out, List.length_append, List.flatMap_append]
            exact ho2
        · have : kk = xss.length := by omega
          have hltz : ¬ (kk : Int) < (xss.length : Int) := by omega
          subst this
          go_wp2
          go_ret
          have h := HO.out
          rw [List.take_length] at h
          exact ⟨_, rfl, h, BQ.out⟩
end Go.Proofs.YtbnelgniekcjdaaGreatDoor
