/- expr.Names: the walk, out of what slices.Sorted(maps.Keys(m)) hands back. -/
import Derived.Test.YtbnelgniekcjdaaGreatDoorCFSpec
import Derived.Test.YtbnelgniekcjdaaGreatDoorCFCheck
import Derived.Maps.OwnSet
import Derived.Maps.Views
import Derived.StringKeys
import Derived.OwnWalkIn
import Derived.TacticsInMore
import Derived.Sort.KeysCollected
set_option linter.unusedSimpArgs false
set_option linter.unusedVariables false
namespace Cap
open Go Go.RowKit
/-- The names of parts, as a map's keys. -/
def keysOf (x : List Prt) : List Lit := (x.filter namedP).map fun p => Lit.string p.s.data.toList
def namesD (x : List Prt) : DataW Unit := Go.Maps.setOf (.lit (.bool true)) (keysOf x)
/-- The names of parts: each once, rising. -/
def namesL (x : List Prt) : List (List UInt8) := (strKeys (namesD x)).mergeSort leB
theorem keysOf_snoc (x : List Prt) (p : Prt) : keysOf (x ++ [p]) = if namedP p = true then keysOf x ++ [.string p.s.data.toList] else keysOf x := by
  unfold keysOf
  rw [List.filter_append, List.map_append]
  cases h : namedP p with
  | true => simp [h]
  | false => simp [h]
theorem keysOf_lit (x : List Prt) : ∀ k ∈ keysOf x, WideAt.IsKeyLit k := fun k hk => by
  unfold keysOf at hk
  rw [List.mem_map] at hk
  obtain ⟨p, _, rfl⟩ := hk
  trivial
end Cap
namespace Go.Proofs.YtbnelgniekcjdaaGreatDoor
open Go.RowKit Cap Go.Maps Go.Sort
set_option maxRecDepth 100000

/-- How a bool in a map is read. -/
def boolR (v : Value) : Option (DataW Unit × List MemPlace) :=
  match v with
  | .bool x => some (.lit (.bool x), [])
  | _ => none
def encSt (s : List UInt8) : List Value := [encStr s]
/-- What Names hands back. -/
def NamesR (x : List Prt) (w : World) (e : Ending) (w' : World) : Prop :=
  (if checkX x ≠ 0 then e = .returned (.tuple #[.slice none 0 0, .int .i64 (checkX x)])
    else ∃ v, e = .returned (.tuple #[v, .int .i64 0]) ∧ w'.ownsRow w.heap.size 9 1 v (namesL x).length ((namesL x).flatMap encSt) ∧ (v = .slice none 0 0 ↔ namesL x = [])) ∧ Below w.heap.size w w'
theorem flatMap_encSt (l : List (List UInt8)) : l.flatMap encSt = l.map encStr := by
  induction l with
  | nil => rfl
  | cons a r ih => rw [List.flatMap_cons, ih]; rfl
/-- slices.Sorted of a map's keys. -/
def SortedC : Prop := ∀ (b nn : Nat) (D0 : DataW Unit) (w : World), w.ownsMap Tryz.prog 9 boolR b nn D0 → Maps.size D0 ≤ maxLen → Maps.size D0 * 16 ≤ 140737488355328 →
    Calls Tryz.prog 24 #[.func (.func 40) #[] #[.pointer (some ⟨w.heap.size, 0, none⟩)]] (w.alloc (.cells #[.map (some b)] 69)) fun e w' => ∃ v, e = .returned v ∧ w'.ownsRow w.heap.size 9 1 v ((strKeys D0).mergeSort leB).length (((strKeys D0).mergeSort leB).map encStr) ∧ (v = .slice none 0 0 ↔ (strKeys D0).mergeSort leB = []) ∧ Below w.heap.size w w'
theorem keys_c (mb : Option Nat) (W : World) : Calls Tryz.prog 25 #[.map mb] W fun e w' => e = .returned (.func (.func 40) #[] #[.pointer (some ⟨W.heap.size, 0, none⟩)]) ∧ w' = W.alloc (.cells #[.map mb] 69) := by
  go_enter Tryz.func25, Tryz.ntmps25
  go_wp2
  go_ret
  exact ⟨rfl, rfl⟩
set_option maxHeartbeats 4000000 in
theorem names_of (hSC : SortedC) (x : List Prt) (vx : Value) (w : World) (hx : Sl encPrt 5 w vx x) (hG : G w) (hok : ∀ p ∈ x, PrtOk p) :
    Calls Tryz.prog 12 #[vx] w (NamesR x w) := by
  have HSC := Lib.hid hSC
  clear hSC
  have HCK := Lib.hid (fun W (hW : Below w.heap.size w W) => checkX_c x vx W (hx.below hW) (hG.below hW) hok)
  unfold NamesR
  obtain ⟨f, hf⟩ : ∃ f, checkX x = f := ⟨_, rfl⟩
  have HF := Lib.hid hf
  rw [hf] at HCK ⊢
  obtain ⟨Ax, cx, rfl, hxl, hxm, hxc⟩ := hx
  have HXC := Lib.hid hxc
  by_cases hf0 : f = 0
  case neg =>
    have hfb := ne_i hf0
    have hfn : (f != 0) = true := by simpa using hf0
    simp only [ne_eq, hf0, not_false_eq_true, if_true]
    clear hf hG hok hxc
    go_enter Tryz.func12, Tryz.ntmps12
    go_wp2_with (go_at_call 13; refine (HCK.out _ (by (repeat' (first | (with_reducible exact Below.refl _ _) | (with_reducible refine below_alloc ?_) | (with_reducible refine below_drew ?_) | (with_reducible refine below_drewN ?_) | (with_reducible refine below_set (by first | (simp; done) | (simp; omega)) ?_) | (with_reducible refine below_call (by with_reducible assumption) ?_))))).mono ?_; rintro e w1 ⟨rfl, hb1⟩)
    go_ret2
    exact ⟨rfl, by (repeat' (first | (with_reducible exact Below.refl _ _) | (with_reducible refine below_alloc ?_) | (with_reducible refine below_drew ?_) | (with_reducible refine below_drewN ?_) | (with_reducible refine below_set (by first | (simp; done) | (simp; omega)) ?_) | (with_reducible refine below_call (by with_reducible assumption) ?_)))⟩
  subst hf0
  have h500 := (checkX_ok hf).1
  have HOK := Lib.hid hok
  simp only [ne_eq, not_true_eq_false, if_false]
  clear hf hG hok hxc
  have hmm := @run_makeMap Tryz.prog
  go_enter Tryz.func12, Tryz.ntmps12
  go_wp2_with (go_at_call 13; refine (HCK.out _ (by (repeat' (first | (with_reducible exact Below.refl _ _) | (with_reducible refine below_alloc ?_) | (with_reducible refine below_drew ?_) | (with_reducible refine below_drewN ?_) | (with_reducible refine below_set (by first | (simp; done) | (simp; omega)) ?_) | (with_reducible refine below_call (by with_reducible assumption) ?_))))).mono ?_; rintro e w1 ⟨rfl, hb1⟩)
  have hb1' : Below w.heap.size w w1 := by (repeat' (first | (with_reducible exact Below.refl _ _) | (with_reducible refine below_alloc ?_) | (with_reducible refine below_drew ?_) | (with_reducible refine below_drewN ?_) | (with_reducible refine below_set (by first | (simp; done) | (simp; omega)) ?_) | (with_reducible refine below_call (by with_reducible assumption) ?_)))
  have HO0 := Lib.hid (World.ownsMap_made w1 Tryz.prog 9 boolR)
  have HB1 := Lib.hid hb1'
  obtain ⟨mb, hmb⟩ : ∃ mb, w1.heap.size = mb := ⟨_, rfl⟩
  have hmw : w.heap.size ≤ mb := by have := hb1'.size; omega
  have HB2 := Lib.hid (show Below w.heap.size w (w1.alloc (.map #[] 0)) by (repeat' (first | (with_reducible exact Below.refl _ _) | (with_reducible refine below_alloc ?_) | (with_reducible refine below_drew ?_) | (with_reducible refine below_drewN ?_) | (with_reducible refine below_set (by first | (simp; done) | (simp; omega)) ?_) | (with_reducible refine below_call (by with_reducible assumption) ?_))))
  rw [hmb] at HO0 ⊢
  clear hmb hb1 hb1' HCK
  go_loopg [16] x.length (fun gg s16 wr => ∃ k : Nat, s16 = .int .i64 k ∧ k ≤ x.length ∧ x.length - k ≤ gg ∧ Aside (wr.ownsMap Tryz.prog 9 boolR mb k (namesD (x.take k))) ∧ Aside (Below w.heap.size w wr))
  case atStart => exact ⟨0, rfl, Nat.zero_le _, by omega, HO0.out, HB2.out⟩
  case round =>
    obtain ⟨k, rfl, hk, hg, HO, HB⟩ := hrel
    by_cases hlt : k < x.length
    · obtain ⟨p, hp⟩ : ∃ p, x[k]? = some p := ⟨x[k], List.getElem?_eq_getElem hlt⟩
      obtain ⟨b, off, rfl, hb, hcx⟩ := HXC.out k p hp
      have hB := HB.out
      have c0 : wr.cell? ⟨b, off + k * 5, none⟩ = some (.int .i64 p.k) := (hB.cell (p := ⟨b, off + k * 5, none⟩) hb).trans (by simpa using hcx 0 _ rfl)
      have c1 : wr.cell? ⟨b, off + k * 5 + 1, none⟩ = some (.int .i64 p.n) := (hB.cell (p := ⟨b, off + k * 5 + 1, none⟩) hb).trans (by simpa using hcx 1 _ rfl)
      have c2 : wr.cell? ⟨b, off + k * 5 + 2, none⟩ = some (.int .i64 p.t) := (hB.cell (p := ⟨b, off + k * 5 + 2, none⟩) hb).trans (by simpa using hcx 2 _ rfl)
      have c3 : wr.cell? ⟨b, off + k * 5 + 3, none⟩ = some (.string p.s) := (hB.cell (p := ⟨b, off + k * 5 + 3, none⟩) hb).trans (by simpa using hcx 3 _ rfl)
      have c4 : wr.cell? ⟨b, off + k * 5 + 4, none⟩ = some (.string p.f) := (hB.cell (p := ⟨b, off + k * 5 + 4, none⟩) hb).trans (by simpa using hcx 4 _ rfl)
      have hltz : (k : Int) < (x.length : Int) := by omega
      have hk0 : (0 : Int) ≤ (k : Int) := Int.natCast_nonneg _
      have HPS := Lib.hid (HOK.out p (List.mem_of_getElem? hp)).1
      have HND := Lib.hid (show keysOf (x.take (k + 1)) = if namedP p = true then keysOf (x.take k) ++ [.string p.s.data.toList] else keysOf (x.take k) by
        obtain ⟨hi, rfl⟩ := List.getElem?_eq_some_iff.1 hp
        rw [List.take_succ_eq_append_getElem hi, keysOf_snoc])
      clear hcx hp hB
      by_cases hn : namedP p = true
      · have he : p.s.toList.isEmpty = false := by simpa [namedP] using hn
        rw [if_pos hn] at HND
        have hkey : keyOf Tryz.prog 9 (.string p.s) = some (.string p.s.data.toList) := Go.WideMaps.keyOf_string_mk Tryz.underlying9 (by have := HPS.out; unfold maxLen; omega)
        clear hn
        go_wp2_with (at_mapUpdate; refine wpList_mapUpdate_own _ rfl _ _ _ 69 rfl 9 4 (string_keyed Tryz.underlying9) Tryz.underlying69 boolR mb k (namesD (x.take k)) rfl (HO.out.alloc _) (by unfold maxLen; omega) (.string p.s) (.bool true) (.string p.s.data.toList) rfl rfl hkey (.lit (.bool true)) [] rfl ?_; intro w2 hown2 hgr2)
        all_goals go_roundg (x.length - (k + 1))
        all_goals first
          | omega
          | (refine ⟨k + 1, by go_num, by omega, by omega, ?_, ?_⟩
             focus (show World.ownsMap _ _ _ _ _ _ _; rw [namesD, HND.out, setOf_snoc]; exact hown2)
             focus (exact below_grown (below_alloc HB.out) hgr2 (fun r e => by injection e with e; omega)))
      · have he : p.s.toList.isEmpty = true := by simpa [namedP] using hn
        rw [if_neg hn] at HND
        clear hn
        go_wp2
        all_goals go_roundg (x.length - (k + 1))
        all_goals first
          | omega
          | (refine ⟨k + 1, by go_num, by omega, by omega, ?_, ?_⟩
             focus (show World.ownsMap _ _ _ _ _ _ _; rw [namesD, HND.out]; exact (HO.out.alloc _).mono (Nat.le_succ k))
             focus (exact below_alloc HB.out))
    · obtain rfl : k = x.length := by omega
      have hltz : ¬ (x.length : Int) < (x.length : Int) := by omega
      have HO2 := Lib.hid (show wr.ownsMap Tryz.prog 9 boolR mb x.length (namesD x) by have h := HO.out; rw [List.take_length] at h; exact h)
      have hsz : Maps.size (namesD x) ≤ x.length := HO2.out.size_le
      have HSO := Lib.hid (HSC.out mb x.length (namesD x) wr HO2.out (by unfold maxLen; omega) (by omega))
      clear HSC HO hsz
      go_wp2_with (first | (go_at_call 25; refine (keys_c _ _).mono ?_; rintro e w3 ⟨rfl, rfl⟩) | (go_at_call 24; refine HSO.out.mono ?_; rintro e w4 ⟨v, rfl, ho4, hn4, hb4⟩))
      go_ret2
      refine ⟨⟨v, rfl, ?_, hn4⟩, HB.out.trans (hb4.mono HB.out.size)⟩
      rw [flatMap_encSt]
      exact own_base ho4 HB.out.size
end Go.Proofs.YtbnelgniekcjdaaGreatDoor

/- What parts that pass have for texts; names of the same keys. -/
namespace Cap
open Go Go.RowKit
theorem namesL_of {x y : List Prt} (h : keysOf x = keysOf y) : namesL x = namesL y := by
  unfold namesL namesD
  rw [h]
end Cap
namespace Go.Proofs.YtbnelgniekcjdaaGreatDoor
open Go.RowKit Cap
theorem noS_size {s : ByteArray} (h : noS s = true) : s.size ≤ 24 := by
  unfold noS at h
  rw [ByteArray.toList_eq, List.isEmpty_iff] at h
  have h2 : s.size = s.data.toList.length := by simp
  rw [h2, h]
  decide
theorem word_size {s : ByteArray} (h : isWord s = true) : s.size ≤ 24 := by
  unfold isWord at h
  simp only [Bool.and_eq_true, decide_eq_true_eq] at h
  exact h.1.1.2
theorem name_size {s : ByteArray} (h : isName s = true) : s.size ≤ 24 := by
  unfold isName at h
  rw [Bool.and_eq_true] at h
  exact word_size h.1
theorem may_ok {p : Prt} (h : mayP p = true) : PrtOk p := by
  have key : p.s.size ≤ 24 ∧ p.f.size ≤ 24 := by
    unfold mayP at h
    by_cases h1 : p.k = 1
    · rw [if_pos h1] at h
      simp only [Bool.and_eq_true] at h
      exact ⟨noS_size h.2.1, noS_size h.2.2⟩
    rw [if_neg h1] at h
    by_cases h2 : p.k = 2 ∨ p.k = 3
    · rw [if_pos h2] at h
      simp only [Bool.and_eq_true] at h
      exact ⟨name_size h.1, noS_size h.2.2⟩
    rw [if_neg h2] at h
    by_cases h4 : p.k = 4
    · rw [if_pos h4] at h
      simp only [Bool.and_eq_true] at h
      exact ⟨name_size h.1.1, word_size h.1.2⟩
    rw [if_neg h4] at h
    by_cases h5 : p.k = 5
    · rw [if_pos h5] at h
      simp only [Bool.and_eq_true] at h
      exact ⟨noS_size h.2.1.2, noS_size h.2.2⟩
    · rw [if_neg h5] at h
      simp only [Bool.and_eq_true] at h
      exact ⟨noS_size h.2.1.2, noS_size h.2.2⟩
  exact ⟨by omega, by omega⟩
theorem encSt_len : ∀ s, (encSt s).length = 1 := fun _ => rfl
end Go.Proofs.YtbnelgniekcjdaaGreatDoor
