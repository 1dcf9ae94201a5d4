/- expr.Names: the walk, out of what slices.Sorted(maps.Keys(m)) hands back. -/
import Derived.Test.YtbnelgniekcjdaaGreatDoorCNmP
import Derived.Test.YtbnelgniekcjdaaGreatDoorCFCheck
import Derived.Maps.OwnSet
import Derived.Maps.Views
import Derived.StringKeys
import Derived.OwnWalkIn
import Derived.TacticsInMore
import Derived.Sort.KeysCollected
set_option linter.unusedSimpArgs false
set_option linter.unusedVariables false
namespace Cap
open Go Go.RowKit
/-- The names of parts, as a map's keys. -/
def keysOf (x : List Prt) : List Lit := (x.filter namedP).map fun p => Lit.string p.s.data.toList
def namesD (x : List Prt) : DataW Unit := Go.Maps.setOf (.lit (.bool true)) (keysOf x)
/-- The names of parts: each once, rising. -/
def namesL (x : List Prt) : List (List UInt8) := (strKeys (namesD x)).mergeSort leB
theorem keysOf_snoc (x : List Prt) (p : Prt) : keysOf (x ++ [p]) = if namedP p = true then keysOf x ++ [.string p.s.data.toList] else keysOf x := by
  unfold keysOf
  rw [List.filter_append, List.map_append]
  cases h : namedP p with
  | true => simp [h]
  | false => simp [h]
theorem keysOf_lit (x : List Prt) : ∀ k ∈ keysOf x, WideAt.IsKeyLit k := fun k hk => by
  unfold keysOf at hk
  rw [List.mem_map] at hk
  obtain ⟨p, _, rfl⟩ := hk
  trivial
end Cap
namespace Go.Proofs.YtbnelgniekcjdaaGreatDoor
open Go.RowKit Cap Go.Maps Go.Sort
set_option maxRecDepth 100000

/-- How a bool in a map is read. -/
def boolR (v : Value) : Option (DataW Unit × List MemPlace) :=
  match v with
  | .bool x => some (.lit (.bool x), [])
  | _ => none
def encSt (s : List UInt8) : List Value := [encStr s]
/-- What Names hands back. -/
def NamesR (x : List Prt) (w : World) (e : Ending) (w' : World) : Prop :=
  (if checkX x ≠ 0 then e = .returned (.tuple #[.slice none 0 0, .int .i64 (checkX x)])
    else ∃ v, e = .returned (.tuple #[v, .int .i64 0]) ∧ w'.ownsRow w.heap.size 9 1 v (namesL x).length ((namesL x).flatMap encSt) ∧ (v = .slice none 0 0 ↔ namesL x = [])) ∧ Below w.heap.size w w'
theorem flatMap_encSt (l : List (List UInt8)) : l.flatMap encSt = l.map encStr := by
  induction l with
  | nil => rfl
  | cons a r ih => rw [List.flatMap_cons, ih]; rfl
/-- slices.Sorted of a map's keys. -/
def SortedC : Prop := ∀ (b nn : Nat) (D0 : DataW Unit) (w : World), w.ownsMap Tryz.prog 9 boolR b nn D0 → Maps.size D0 ≤ maxLen → Maps.size D0 * 16 ≤ 140737488355328 →
    Calls Tryz.prog 24 #[.func (.func 40) #[] #[.pointer (some ⟨w.heap.size, 0, none⟩)]] (w.alloc (.cells #[.map (some b)] 69)) fun e w' => ∃ v, e = .returned v ∧ w'.ownsRow w.heap.size 9 1 v ((strKeys D0).mergeSort leB).length (((strKeys D0).mergeSort leB).map encStr) ∧ (v = .slice none 0 0 ↔ (strKeys D0).mergeSort leB = []) ∧ Below w.heap.size w w'
theorem keys_c (mb : Option Nat) (W : World) : Calls Tryz.prog 25 #[.map mb] W fun e w' => e = .returned (.func (.func 40) #[] #[.pointer (some ⟨W.heap.size, 0, none⟩)]) ∧ w' = W.alloc (.cells #[.map mb] 69) := by
  go_enter Tryz.func25, Tryz.ntmps25
  go_wp2
  go_ret
  exact ⟨rfl, rfl⟩
set_option maxHeartbeats 4000000 in
theorem names_of (hSC : SortedC) (x : List Prt) (vx : Value) (w : World) (hx : Sl encPrt 5 w vx x) (hG : G w) (hok : ∀ p ∈ x, PrtOk p) :
    Calls Tryz.prog 12 #[vx] w (NamesR x w) := by
  have HSC := Lib.hid hSC
  clear hSC
  have HCK := Lib.hid (fun W (hW : Below w.heap.size w W) => checkX_c x vx W (hx.below hW) (hG.below hW) hok)
  unfold NamesR
  obtain ⟨f, hf⟩ : ∃ f, checkX x = f := ⟨_, rfl⟩
  have HF := Lib.hid hf
  rw [hf] at HCK ⊢
  obtain ⟨Ax, cx, rfl, hxl, hxm, hxc⟩ := hx
  have HXC := Lib.hid hxc
  by_cases hf0 : f = 0
  case neg =>
    have hfb := ne_i hf0
    have hfn : (f != 0) = true := by simpa using hf0
    simp only [ne_eq, hf0, not_false_eq_true, if_true]
    clear hf hG hok hxc
    go_enter Tryz.func12, Tryz.ntmps12
    go_wp2_with (go_at_call 13; refine (HCK.out _ (by (repeat' (first | (with_reducible exact Below.refl _ _) | (with_reducible refine below_alloc ?_) | (with_reducible refine below_drew ?_) | (with_reducible refine below_drewN ?_) | (with_reducible refine below_set (by first | (simp; done) | (simp; omega)) ?_) | (with_reducible refine below_call (by with_reducible assumption) ?_))))).mono ?_; rintro e w1 ⟨rfl, hb1⟩)
    go_ret2
    exact ⟨rfl, by (repeat' (first | (with_reducible exact Below.refl _ _) | (with_reducible refine below_alloc ?_) | (with_reducible refine below_drew ?_) | (with_reducible refine below_drewN ?_) | (with_reducible refine below_set (by first | (simp; done) | (simp; omega)) ?_) | (with_reducible refine below_call (by with_reducible assumption) ?_)))⟩
  subst hf0
  have h500 := (checkX_ok hf).1
  have HOK := Lib.hid hok
  simp only [ne_eq, not_true_eq_false, if_false]
  clear hf hG hok hxc
  have hmm := @run_makeMap Tryz.prog
  go_enter Tryz.func12, Tryz.ntmps12
  go_wp2_with (go_at_call 13; refine (HCK.out _ (by (repeat' (first | (with_reducible exact Below.refl _ _) | (with_reducible refine below_alloc ?_) | (with_reducible refine below_drew ?_) | (with_reducible refine below_drewN ?_) | (with_reducible refine below_set (by first | (simp; done) | (simp; omega)) ?_) | (with_reducible refine below_call (by with_reducible assumption) ?_))))).mono ?_; rintro e w1 ⟨rfl, hb1⟩)
  have hb1' : Below w.heap.size w w1 := by (repeat' (first | (with_reducible exact Below.refl _ _) | (with_reducible refine below_alloc ?_) | (with_reducible refine below_drew ?_) | (with_reducible refine below_drewN ?_) | (with_reducible refine below_set (by first | (simp; done) | (simp; omega)) ?_) | (with_reducible refine below_call (by with_reducible assumption) ?_)))
  have HO0 := Lib.hid (World.ownsMap_made w1 Tryz.prog 9 boolR)
  have HB1 := Lib.hid hb1'
  obtain ⟨mb, hmb⟩ : ∃ mb, w1.heap.size = mb := ⟨_, rfl⟩
  have hmw : w.heap.size ≤ mb := by have := hb1'.size; omega
  have HB2 := Lib.hid (show Below w.heap.size w (w1.alloc (.map #[] 0)) by (repeat' (first | (with_reducible exact Below.refl _ _) | (with_reducible refine below_alloc ?_) | (with_reducible refine below_drew ?_) | (with_reducible refine below_drewN ?_) | (with_reducible refine below_set (by first | (simp; done) | (simp; omega)) ?_) | (with_reducible refine below_call (by with_reducible assumption) ?_))))
  rw [hmb] at HO0 ⊢
  clear hmb hb1 hb1' HCK
  go_loopg [16] x.length (fun gg s16 wr => ∃ k : Nat, s16 = .int .i64 k ∧ k ≤ x.length ∧ x.length - k ≤ gg ∧ Aside (wr.ownsMap Tryz.prog 9 boolR mb k (namesD (x.take k))) ∧ Aside (Below w.heap.size w wr))
  case atStart => exact ⟨0, rfl, Nat.zero_le _, by omega, HO0.out, HB2.out⟩
  case round =>
    obtain ⟨k, rfl, hk, hg, HO, HB⟩ := hrel
    by_cases hlt : k < x.length
    · obtain ⟨p, hp⟩ : ∃ p, x[k]? = some p := ⟨x[k], List.getElem?_eq_getElem hlt⟩
      obtain ⟨b, off, rfl, hb, hcx⟩ := HXC.out k p hp
      have hB := HB.out
      have c0 : wr.cell? ⟨b, off + k * 5, none⟩ = some (.int .i64 p.k) := (hB.cell (p := ⟨b, off + k * 5, none⟩) hb).trans (by simpa using hcx 0 _ rfl)
      have c1 : wr.cell? ⟨b, off + k * 5 + 1, none⟩ = some (.int .i64 p.n) := (hB.cell (p := ⟨b, off + k * 5 + 1, none⟩) hb).trans (by simpa using hcx 1 _ rfl)
      have c2 : wr.cell? ⟨b, off + k * 5 + 2, none⟩ = some (.int .i64 p.t) := (hB.cell (p := ⟨b, off + k * 5 + 2, none⟩) hb).trans (by simpa using hcx 2 _ rfl)
      have c3 : wr.cell? ⟨b, off + k * 5 + 3, none⟩ = some (.string p.s) := (hB.cell (p := ⟨b, off + k * 5 + 3, none⟩) hb).trans (by simpa using hcx 3 _ rfl)
      have c4 : wr.cell? ⟨b, off + k * 5 + 4, none⟩ = some (.string p.f) := (hB.cell (p := ⟨b, off + k * 5 + 4, none⟩) hb).trans (by simpa using hcx 4 _ rfl)
      have hltz : (k : Int) < (x.length : Int) := by omega
      have hk0 : (0 : Int) ≤ (k : Int) := Int.natCast_nonneg _
      have HPS := Lib.hid (HOK.out p (List.mem_of_getElem? hp)).1
      have HND := Lib.hid (show keysOf (x.take (k + 1)) = if namedP p = true then keysOf (x.take k) ++ [.string p.s.data.toList] else keysOf (x.take k) by
        obtain ⟨hi, rfl⟩ := List.getElem?_eq_some_iff.1 hp
        rw [List.take_succ_eq_append_getElem hi, keysOf_snoc])
      clear hcx hp hB
      by_cases hn : namedP p = true
      · have he : p.s.toList.isEmpty = false := by simpa [namedP] using hn
        rw [if_pos hn] at HND
        have hkey : keyOf Tryz.prog 9 (.string p.s) = some (.string p.s.data.toList) := Go.WideMaps.keyOf_string_mk Tryz.underlying9 (by have := HPS.out; unfold maxLen; omega)
        clear hn
        go_wp2_with (at_mapUpdate; refine wpList_mapUpdate_own _ rfl _ _ _ 69 rfl 9 4 (string_keyed Tryz.underlying9) Tryz.underlying69 boolR mb k (namesD (x.take k)) rfl (HO.out.alloc _) (by unfold maxLen; omega) (.string p.s) (.bool true) (.string p.s.data.toList) rfl rfl hkey (.lit (.bool true)) [] rfl ?_; intro w2 hown2 hgr2)
        all_goals go_roundg (x.length - (k + 1))
        all_goals first
          | omega
          | (refine ⟨k + 1, by go_num, by omega, by omega, ?_, ?_⟩
             focus (show World.ownsMap _ _ _ _ _ _ _; rw [namesD, HND.out, setOf_snoc]; exact hown2)
             focus (exact below_grown (below_alloc HB.out) hgr2 (fun r e => by injection e with e; omega)))
      · have he : p.s.toList.isEmpty = true := by simpa [namedP] using hn
        rw [if_neg hn] at HND
        clear hn
        go_wp2
        all_goals go_roundg (x.length - (k + 1))
        all_goals first
          | omega
          | (refine ⟨k + 1, by go_num, by omega, by omega, ?_, ?_⟩
             focus (show World.ownsMap _ _ _ _ _ _ _; rw [namesD, HND.out]; exact (HO.out.alloc _).mono (Nat.le_succ k))
             focus (exact below_alloc HB.out))
    · obtain rfl : k = x.length := by omega
      have hltz : ¬ (x.length : Int) < (x.length : Int) := by omega
      have HO2 := Lib.hid (show wr.ownsMap Tryz.prog 9 boolR mb x.length (namesD x) by have h := HO.out; rw [List.take_length] at h; exact h)
      have hsz : Maps.size (namesD x) ≤ x.length := HO2.out.size_le
      have HSO := Lib.hid (HSC.out mb x.length (namesD x) wr HO2.out (by unfold maxLen; omega) (by omega))
      clear HSC HO hsz
      go_wp2_with (first | (go_at_call 25; refine (keys_c _ _).mono ?_; rintro e w3 ⟨rfl, rfl⟩) | (go_at_call 24; refine HSO.out.mono ?_; rintro e w4 ⟨v, rfl, ho4, hn4, hb4⟩))
      go_ret2
      refine ⟨⟨v, rfl, ?_, hn4⟩, HB.out.trans (hb4.mono HB.out.size)⟩
      rw [flatMap_encSt]
      exact own_base ho4 HB.out.size
end Go.Proofs.YtbnelgniekcjdaaGreatDoor

/- capstanlaw06.has: is a text in a list? -/
namespace Go.Proofs.YtbnelgniekcjdaaGreatDoor
open Go.RowKit Cap Go.Maps Go.Sort
set_option maxRecDepth 100000

theorem encStr_is (s : List UInt8) : ∃ S : ByteArray, encStr s = Value.string S ∧ S.toList = s := ⟨⟨s.toArray⟩, rfl, by rw [toList_nil]⟩
/-- Is a text in a list? -/
def hasL (l : List (List UInt8)) (t : List UInt8) : Bool := l.any fun s => s == t
theorem hasL_mem {l : List (List UInt8)} {t : List UInt8} : hasL l t = true ↔ t ∈ l := by
  unfold hasL
  rw [List.any_eq_true]
  constructor
  · rintro ⟨s, hs, h⟩
    rw [beq_iff_eq] at h
    exact h ▸ hs
  · exact fun h => ⟨t, h, by simp⟩
theorem nodup_le {α : Type} [BEq α] [LawfulBEq α] : ∀ (l m : List α), l.Nodup → (∀ x ∈ l, x ∈ m) → l.length ≤ m.length
  | [], _, _, _ => Nat.zero_le _
  | a :: r, m, hn, hs => by
    have ha := hs a List.mem_cons_self
    have hr := (List.nodup_cons.1 hn)
    have h := nodup_le r (m.erase a) hr.2 (fun x hx => (List.mem_erase_of_ne (by rintro rfl; exact hr.1 hx)).2 (hs x (List.mem_cons_of_mem _ hx)))
    rw [List.length_erase_of_mem ha] at h
    have := List.length_pos_of_mem ha
    simp only [List.length_cons]
    omega
set_option maxHeartbeats 4000000 in
theorem has_c (l : List (List UInt8)) (v : Value) (t : ByteArray) (w : World) (h : Sl encSt 1 w v l) :
    Calls Tryz.prog 14 #[v, .string t] w fun e w' => e = .returned (.bool (hasL l t.toList)) ∧ w' = w := by
  obtain ⟨A, c, rfl, h1, h2, h3⟩ := h
  have HC := Lib.hid h3
  have HL := Lib.hid (show ∀ k, k < l.length → ∃ s, l[k]? = some s ∧ hasL (l.drop k) t.toList = ((s == t.toList) || hasL (l.drop (k + 1)) t.toList) from fun k hk =>
    ⟨l[k], List.getElem?_eq_getElem hk, by rw [drop_cons (List.getElem?_eq_getElem hk)]; rfl⟩)
  have HEND := Lib.hid (show hasL (l.drop l.length) t.toList = false by rw [List.drop_length]; rfl)
  have HZ := Lib.hid (show hasL (l.drop 0) t.toList = hasL l t.toList from rfl)
  obtain ⟨L, hL⟩ : ∃ L, l.length = L := ⟨_, rfl⟩
  have hmax : L ≤ 9223372036854775807 := by omega
  rw [hL] at HL HEND ⊢
  generalize hasL l t.toList = Z at HZ ⊢
  clear h1 h2 h3 hL
  go_enter Tryz.func14, Tryz.ntmps14
  go_wp2
  go_loopg [8] L (fun gg s8 wr => ∃ k : Nat, s8 = .int .i64 k ∧ k ≤ L ∧ L - k ≤ gg ∧ Aside (wr = w) ∧ Aside (hasL (l.drop k) t.toList = Z))
  case atStart => exact ⟨0, rfl, Nat.zero_le _, by omega, (show w = w from rfl), HZ.out⟩
  case round =>
    obtain ⟨k, rfl, hk, hg, HB, HS⟩ := hrel
    obtain rfl := HB.out
    by_cases hlt : k < L
    · obtain ⟨s, hp, hst⟩ := HL.out k hlt
      obtain ⟨b, o, rfl, hb, hx⟩ := HC.out k s hp
      obtain ⟨S, hS, hSt⟩ := encStr_is s
      have a0 : wr.cell? ⟨b, o + k, none⟩ = some (.string S) := by
        have := hx 0 (encStr s) rfl
        rw [Nat.mul_one, Nat.add_zero] at this
        rw [this, hS]
      have hltz : (k : Int) < (L : Int) := by omega
      have hk0 : (0 : Int) ≤ (k : Int) := Int.natCast_nonneg _
      have HST := Lib.hid (show ((S.toList == t.toList) || hasL (l.drop (k + 1)) t.toList) = Z from by rw [hSt, ← hst]; exact HS.out)
      clear hx hp hst hS hSt HC HL
      by_cases heq : S.toList = t.toList
      · have heqb : (S.toList == t.toList) = true := by rw [beq_iff_eq]; exact heq
        have HN := Lib.hid (show Z = true from by rw [← HST.out, heqb]; rfl)
        clear HST
        go_wp2
        go_ret
        exact ⟨by rw [HN.out]; rfl, rfl⟩
      · have heqb : (S.toList == t.toList) = false := by simpa using heq
        have HN := Lib.hid (show hasL (l.drop (k + 1)) t.toList = Z from by rw [← HST.out, heqb]; rfl)
        clear HST
        go_wp2
        go_roundg (L - (k + 1))
        case measure => omega
        case rel => exact ⟨k + 1, by go_num, by omega, by omega, (show wr = wr from rfl), HN.out⟩
    · obtain rfl : k = L := by omega
      have hltz : ¬ (k : Int) < (k : Int) := by omega
      have HN := Lib.hid (show Z = false from by rw [← HS.out]; exact HEND.out)
      go_wp2
      go_ret
      exact ⟨by rw [HN.out]; rfl, rfl⟩
end Go.Proofs.YtbnelgniekcjdaaGreatDoor
