/- slices.Grow and slices.Concat over []int: what each call answers. -/
import Derived.Test.YtefpgjocfgeenaaGreatDoorShelf
import Derived.Test.YtefpgjocfgeenaaGreatDoorOwn
namespace Go.Proofs.YtefpgjocfgeenaaGreatDoor
open Go.RowKit Cap
set_option maxRecDepth 100000

theorem info_int : InfoIs Tryz.prog 3 (.int .i64 0) 1 8 := by unfold InfoIs; kernel_rfl
theorem one_I : ∀ x, ∀ u ∈ encI x, u.oneCell' = true := fun x u hu => by
  simp only [encI, List.mem_singleton] at hu
  subst hu
  rfl
/-- Slices in a list. -/
def Slices {α : Type} (enc : α → List Value) (k : Nat) (w : World) (vs : List Value) (xss : List (List α)) : Prop :=
  vs.length = xss.length ∧ ∀ (j : Nat) u xs, vs[j]? = some u → xss[j]? = some xs → Sl enc k w u xs
def lensTo {α : Type} (xss : List (List α)) (k : Nat) : Nat := (xss.take k).flatten.length
theorem take_flat {α : Type} {xss : List (List α)} {k : Nat} {xs : List α} (h : xss[k]? = some xs) : (xss.take (k + 1)).flatten = (xss.take k).flatten ++ xs := by
  obtain ⟨hk, rfl⟩ := List.getElem?_eq_some_iff.1 h
  rw [List.take_succ_eq_append_getElem hk, List.flatten_append]
  simp
theorem lensTo_succ {α : Type} {xss : List (List α)} {k : Nat} {xs : List α} (h : xss[k]? = some xs) : lensTo xss (k + 1) = lensTo xss k + xs.length := by
  rw [lensTo, take_flat h, List.length_append, lensTo]
theorem lensTo_le {α : Type} (xss : List (List α)) (k : Nat) : lensTo xss k ≤ xss.flatten.length := by
  have e : xss.flatten = (xss.take k).flatten ++ (xss.drop k).flatten := by rw [← List.flatten_append, List.take_append_drop]
  rw [lensTo, e, List.length_append]
  omega

/-- A new row of room for n: nothing is in it yet. -/
theorem grow_int (n : Nat) (w : World) (hn : n ≤ 1099511627776) :
    Calls Tryz.prog 240 #[.slice none 0 0, .int .i64 n] w fun e w' => ∃ v, e = .returned v ∧ w'.ownsRow w.heap.size 3 1 v 0 [] ∧ Below w.heap.size w w' := by
  rcases Nat.eq_zero_or_pos n with rfl | h0
  · refine (Any8.slices_Grow_room Tryz.grow240 none 0 0 0 w (by omega) (by omega) (by omega) (by omega)).mono ?_
    rintro e w' ⟨rfl, rfl⟩
    exact ⟨_, rfl, World.ownsRow_nil _ _ _ _, Below.refl _ _⟩
  · obtain ⟨i, hi1, hi2, hi3, hi4⟩ := info_int.parts
    have hb : (0 + n) * i.bytes ≤ 140737488355328 := by rw [hi4]; omega
    refine (Any8.slices_Grow_grow Tryz.grow240 i (.int .i64 0) hi1 hi2 (by omega) none 0 0 n [] w (by omega) (by omega) hb (by omega) (by simp) (fun _ => rfl) (fun a h => by cases h)).mono ?_
    rintro e w' ⟨rfl, rfl⟩
    refine ⟨_, rfl, ⟨rfl, .inr ⟨w.heap.size, _, _, rfl, Nat.le_refl _, heap_alloc_new w.drew _, Nat.zero_le _, grownCap_le_maxLen _ _ _ _ (by unfold maxLen; omega), ?_, by simp⟩⟩, below_alloc (below_drew (Below.refl _ _))⟩
    have hge := grownCap_ge w (0 + n) 0 (Tryz.grow240_ren.t 25)
    simp only [Nat.zero_add] at hge
    simp [size_zeroCells, Value.cells]
    omega
def ConcatR {α : Type} (enc : α → List Value) (k : Nat) (T : TypeId) (ys : List α) (w : World) (e : Ending) (w' : World) : Prop :=
  ∃ v, e = .returned v ∧ w'.ownsRow w.heap.size T k v ys.length (ys.flatMap enc) ∧ Below w.heap.size w w'
set_option maxHeartbeats 2000000 in
theorem concat_int (v : Value) (vs : List Value) (xss : List (List Int)) (w : World) (hs : Sl (fun u => [u]) 1 w v vs) (hl : Slices encI 1 w vs xss) (ht : xss.flatten.length ≤ 1099511627776) :
    Calls Tryz.prog 179 #[v] w (ConcatR encI 1 3 xss.flatten w) := by
  obtain ⟨A, c, rfl, hlc, hc, hcell⟩ := hs
  obtain ⟨hvl, hl⟩ := hl
  rw [hvl] at hlc ⊢
  have hbig : xss.length ≤ 9223372036854775807 := Nat.le_trans hlc hc
  have HL := Lib.hid hl
  have HC := Lib.hid hcell
  have HV := Lib.hid hvl
  have hto := lensTo_le xss
  clear hl hcell hvl
  go_enter Tryz.func179, Tryz.ntmps179
  go_wp2
  go_loopg [3, 11] xss.length (fun gg s3 s11 wr => ∃ kk : Nat, kk ≤ xss.length ∧ xss.length - kk ≤ gg ∧ s3 = .int .i64 (lensTo xss kk) ∧ s11 = .int .i64 kk ∧ Aside (Below w.heap.size w wr))
  case atStart => exact ⟨0, Nat.zero_le _, by omega, rfl, rfl, Below.refl _ w⟩
  case round =>
    obtain ⟨kk, hkk, hg, rfl, rfl, BW⟩ := hrel
    by_cases hlt : kk < xss.length
    · obtain ⟨xs, hx⟩ : ∃ xs, xss[kk]? = some xs := ⟨xss[kk], List.getElem?_eq_getElem hlt⟩
      obtain ⟨u, hu⟩ : ∃ u, vs[kk]? = some u := ⟨vs[kk]'(by have := HV.out; omega), List.getElem?_eq_getElem _⟩
      obtain ⟨b, off, rfl, hb, hcx⟩ := HC.out kk u hu
      have hS := HL.out kk u xs hu hx
      obtain ⟨A', c', rfl, hlc', hc', _⟩ := hS
      have hX := Lib.hid hx
      have hs1 := lensTo_succ hx
      have h1 := hto kk
      have h2 := hto (kk + 1)
      have HS1 := Lib.hid hs1
      have hb1 : lensTo xss kk + xs.length ≤ 1099511627776 := by omega
      clear hx hu hs1 hto
      have hltz : (kk : Int) < (xss.length : Int) := by omega
      have c0 : wr.cell? ⟨b, off + kk, none⟩ = some (.slice A' xs.length c') := by simpa using (BW.out.cell (p := ⟨b, off + kk * 1 + 0, none⟩) hb).trans (hcx 0 _ rfl)
      clear hcx
      go_wp2
      go_roundg (xss.length - (kk + 1))
      case measure => omega
      case rel => exact ⟨kk + 1, by omega, by omega, by rw [HS1.out]; go_num, by go_num, BW⟩
    · have : kk = xss.length := by omega
      have hltz : ¬ (kk : Int) < (xss.length : Int) := by omega
      subst this
      have hb1 : lensTo xss xss.length ≤ 1099511627776 := by have := hto xss.length; omega
      have hG := fun W => grow_int (lensTo xss xss.length) W hb1
      have HG := Lib.hid hG
      clear hG hto
      go_wp2_with fail
      refine (HG.out _).mono ?_
      rintro e w1 ⟨v1, rfl, ho1, hbw⟩
      have BW1 := below_call hbw BW.out
      have hsz := BW.out.size
      clear BW
      go_wp2
      go_loopg [6, 27] xss.length (fun gg s6 s27 wq => ∃ kk : Nat, kk ≤ xss.length ∧ xss.length - kk ≤ gg ∧ s27 = .int .i64 kk ∧ Aside (Below w.heap.size w wq) ∧ Aside (wq.ownsRow w.heap.size 3 1 s6 (xss.take kk).flatten.length ((xss.take kk).flatten.flatMap encI)))
      case atStart => exact ⟨0, Nat.zero_le _, by omega, rfl, BW1, own_base ho1 (by exact hsz)⟩
      case round =>
        obtain ⟨kk, hkk, hg, rfl, BQ, HO⟩ := hrel
        by_cases hlt : kk < xss.length
        · obtain ⟨xs, hx⟩ : ∃ xs, xss[kk]? = some xs := ⟨xss[kk], List.getElem?_eq_getElem hlt⟩
          obtain ⟨u, hu⟩ : ∃ u, vs[kk]? = some u := ⟨vs[kk]'(by have := HV.out; omega), List.getElem?_eq_getElem _⟩
          obtain ⟨b, off, rfl, hb, hcx⟩ := HC.out kk u hu
          have hS := (HL.out kk u xs hu hx).below BQ.out
          have hs1 := lensTo_succ hx
          have h2 := lensTo_le xss (kk + 1)
          have HX := Lib.hid hx
          have HT := Lib.hid (take_flat hx)
          have hb1 : (xss.take kk).flatten.length + xs.length ≤ 1099511627776 := by unfold lensTo at hs1 h2; omega
          clear hx hu hs1 h2
          have hltz : (kk : Int) < (xss.length : Int) := by omega
          have c0 : wr.cell? ⟨b, off + kk, none⟩ = some u := by simpa using (BQ.out.cell (p := ⟨b, off + kk * 1 + 0, none⟩) hb).trans (hcx 0 _ rfl)
          clear hcx
          have hsq := BQ.out.size
          go_wp2_with (at_builtin; refine wpList_app _ rfl _ _ 22 rfl w.heap.size 3 (.int .i64 0) 1 8 Tryz.underlying22 info_int rfl (by decide) encI encI_len one_I _ _ _ rfl HO.out _ xs rfl hS (by unfold maxLen; omega) (by omega) (by omega) ?_; intro v2 w2 ho2 hg2)
          go_roundg (xss.length - (kk + 1))
          case measure => omega
          case rel =>
            refine ⟨kk + 1, by omega, by omega, by go_num, below_grown BQ.out hg2 (own_ge HO.out (Nat.le_refl _)), (show Aside _ from ?_)⟩
            rw [HT.out, List.length_append, List.flatMap_append]
            exact ho2
        · have : kk = xss.length := by omega
          have hltz : ¬ (kk : Int) < (xss.length : Int) := by omega
          subst this
          go_wp2
          go_ret
          have h := HO.out
          rw [List.take_length] at h
          exact ⟨_, rfl, h, BQ.out⟩
end Go.Proofs.YtefpgjocfgeenaaGreatDoor
