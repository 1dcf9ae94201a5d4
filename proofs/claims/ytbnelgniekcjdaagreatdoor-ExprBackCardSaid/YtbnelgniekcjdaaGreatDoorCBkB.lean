/- A result that lives in a cell. -/
import Derived.Test.YtbnelgniekcjdaaGreatDoorCFBase
import Derived.Laws.ResultCell
import Derived.Test.YtbnelgniekcjdaaGreatDoorCBkLaw
import Derived.Test.YtbnelgniekcjdaaGreatDoorCRdA
import Derived.Test.YtbnelgniekcjdaaGreatDoorCLexI
import Derived.Test.YtbnelgniekcjdaaGreatDoorCCatS
import Derived.Test.YtbnelgniekcjdaaGreatDoorCName
import Derived.Test.YtbnelgniekcjdaaGreatDoorShelf
import Derived.Test.YtbnelgniekcjdaaGreatDoorCFExpr
set_option linter.unusedSimpArgs false
set_option linter.unusedVariables false
namespace Go.Proofs.YtbnelgniekcjdaaGreatDoor
open Go.RowKit Cap
theorem results_cell1 {fn : Func} {p : Tmp} {ty : TypeId} (h : fn.results = #[.cell p ty]) (tmps : Array Value) (P : Program) (w : World) :
    (results fn tmps).run P w = ((asAddr (tmps.getD p undef)).run P w).andThen fun a w₁ => (loadVar ty a).run P w₁ := by
  simp only [results, h]
  simp [Sem.run_bind, Result.andThen]
end Go.Proofs.YtbnelgniekcjdaaGreatDoor

/- expr.token, expr.tokens, (expr.shown).inner: what each call answers. -/
namespace Go.Proofs.YtbnelgniekcjdaaGreatDoor
open Go.RowKit Cap
set_option maxRecDepth 100000

theorem box5 {w : World} {B : Nat} {u0 u1 u2 u3 u4 : Value} {T : TypeId} (h : w.heap[B]? = some (.cells #[u0, u1, u2, u3, u4] T (0, 0))) : w.cell? ⟨B, 0, none⟩ = some u0 ∧ w.cell? ⟨B, 1, none⟩ = some u1 ∧ w.cell? ⟨B, 2, none⟩ = some u2 ∧ w.cell? ⟨B, 3, none⟩ = some u3 ∧ w.cell? ⟨B, 4, none⟩ = some u4 := by
  simp [World.cell?, h]
theorem ice5 {w : World} {B : Nat} {u0 u1 u2 u3 u4 : Value} {T : TypeId} (h : w.heap[B]? = some (.cells #[u0, u1, u2, u3, u4] T (0, 0))) : w.frozen? ⟨B, 0, none⟩ = false ∧ w.frozen? ⟨B, 1, none⟩ = false ∧ w.frozen? ⟨B, 2, none⟩ = false ∧ w.frozen? ⟨B, 3, none⟩ = false ∧ w.frozen? ⟨B, 4, none⟩ = false := by
  simp [World.frozen?, h]
theorem tokOf_v (s : ByteArray) : tokV (tokOf s) = .agg #[.int .i64 (if isWord s then 1 else 3), .string s, .int .i64 0, .int .i64 0, .int .i64 0] := rfl
set_option maxHeartbeats 1000000 in
theorem token_c (s : ByteArray) (w : World) (hG : G w) (hs : s.size ≤ 140737488351232) :
    Calls Tryz.prog 36 #[.string s] w fun e w' => e = .returned (tokV (tokOf s)) ∧ Below w.heap.size w w' := by
  rw [tokOf_v]
  have HW := Lib.hid (fun W (hW : Below w.heap.size w W) => word_c s W (hG.below hW) hs)
  clear hG hs
  cases hb : isWord s with
  | true =>
    rw [hb] at HW
    clear hb
    go_enter Tryz.func36, Tryz.ntmps36
    go_upto_region 2 with (first | (go_at_call 44; refine (HW.out _ (by (repeat' (first | (with_reducible exact Below.refl _ _) | (with_reducible refine below_alloc ?_) | (with_reducible refine below_drew ?_) | (with_reducible refine below_drewN ?_) | (with_reducible refine below_set (by first | (simp; done) | (simp; omega)) ?_) | (with_reducible refine below_call (by with_reducible assumption) ?_))))).mono ?_; rintro e w1 ⟨rfl, hb1⟩))
    have hr := (hb1.block w.heap.size (by simp)).trans (heap_alloc_new w _)
    obtain ⟨z0, z1, z2, z3, z4⟩ := box5 hr
    obtain ⟨t0, t1, t2, t3, t4⟩ := ice5 hr
    clear hr
    go_wp2
    (try simp only [Exit.inBlock, Exit.then])
    refine bodyPost_ret (v := .agg #[.int .i64 1, .string s, .int .i64 0, .int .i64 0, .int .i64 0]) ?_ rfl ?_
    · rw [results_cell1 (fn := Tryz.f36) (p := 2) (ty := 38) rfl]; go_simp
    exact ⟨rfl, by (repeat' (first | (with_reducible exact Below.refl _ _) | (with_reducible refine below_alloc ?_) | (with_reducible refine below_drew ?_) | (with_reducible refine below_drewN ?_) | (with_reducible refine below_set (by first | (simp; done) | (simp; omega)) ?_) | (with_reducible refine below_call (by with_reducible assumption) ?_)))⟩
  | false =>
    rw [hb] at HW
    clear hb
    go_enter Tryz.func36, Tryz.ntmps36
    go_upto_region 3 with (first | (go_at_call 44; refine (HW.out _ (by (repeat' (first | (with_reducible exact Below.refl _ _) | (with_reducible refine below_alloc ?_) | (with_reducible refine below_drew ?_) | (with_reducible refine below_drewN ?_) | (with_reducible refine below_set (by first | (simp; done) | (simp; omega)) ?_) | (with_reducible refine below_call (by with_reducible assumption) ?_))))).mono ?_; rintro e w1 ⟨rfl, hb1⟩))
    have hr := (hb1.block w.heap.size (by simp)).trans (heap_alloc_new w _)
    obtain ⟨z0, z1, z2, z3, z4⟩ := box5 hr
    obtain ⟨t0, t1, t2, t3, t4⟩ := ice5 hr
    clear hr
    go_wp2
    (try simp only [Exit.inBlock, Exit.then])
    refine bodyPost_ret (v := .agg #[.int .i64 3, .string s, .int .i64 0, .int .i64 0, .int .i64 0]) ?_ rfl ?_
    · rw [results_cell1 (fn := Tryz.f36) (p := 2) (ty := 38) rfl]; go_simp
    exact ⟨rfl, by (repeat' (first | (with_reducible exact Below.refl _ _) | (with_reducible refine below_alloc ?_) | (with_reducible refine below_drew ?_) | (with_reducible refine below_drewN ?_) | (with_reducible refine below_set (by first | (simp; done) | (simp; omega)) ?_) | (with_reducible refine below_call (by with_reducible assumption) ?_)))⟩
/-- What tokens hands back. -/
def ToksB (l : List Tok) (w : World) (e : Ending) (w' : World) : Prop :=
  ∃ v, e = .returned v ∧ w'.ownsRow w.heap.size 38 5 v l.length (l.flatMap encTok) ∧ Below w.heap.size w w'
theorem lit_tok (t : Tok) (W : World) : Sl encTok 5 (W.alloc (.cells #[.int .i64 t.k, .string t.s, .int .i64 t.n, .int .i64 t.ty, .int .i64 t.pos] 38)) (.slice (some ⟨W.heap.size, 0, none⟩) 1 1) [t] :=
  Sl.lit encTok_len W #[.int .i64 t.k, .string t.s, .int .i64 t.n, .int .i64 t.ty, .int .i64 t.pos] 38 1 [t] rfl rfl (by simp)
theorem own_snoc {w : World} {base : Nat} {v : Value} {l : List Tok} {t : Tok} (h : w.ownsRow base 38 5 v (l.length + [t].length) (l.flatMap encTok ++ [t].flatMap encTok)) : w.ownsRow base 38 5 v (l ++ [t]).length ((l ++ [t]).flatMap encTok) := by
  rw [List.length_append, List.flatMap_append]
  exact h
theorem map_take {α β : Type} {f : α → β} {l : List α} {k : Nat} {x : α} (h : l[k]? = some x) : (l.take (k + 1)).map f = (l.take k).map f ++ [f x] := by
  obtain ⟨hk, rfl⟩ := List.getElem?_eq_some_iff.1 h
  rw [List.take_succ_eq_append_getElem hk, List.map_append]
  rfl
set_option maxHeartbeats 8000000 in
theorem tokens_c' (bf bh : List ByteArray) (inner : List Tok) (vb vi vh : Value) (w : World) (hb : Sl encS 1 w vb bf) (hi : Sl encTok 5 w vi inner) (hh : Sl encS 1 w vh bh) (hG : G w)
    (h1 : ∀ s ∈ bf, s.size ≤ 140737488351232) (h2 : ∀ s ∈ bh, s.size ≤ 140737488351232) (l1 : bf.length ≤ 1048576) (l2 : inner.length ≤ 1048576) (l3 : bh.length ≤ 1048576) :
    Calls Tryz.prog 21 #[vb, vi, vh] w (ToksB (bf.map tokOf ++ inner ++ bh.map tokOf) w) := by
  have HI := Lib.hid hi
  obtain ⟨Ab, cb, rfl, hb1, hb2, hb3⟩ := hb
  obtain ⟨Ai, ci, rfl, -, -, -⟩ := hi
  obtain ⟨Ah, ch, rfl, hh1, hh2, hh3⟩ := hh
  have HB := Lib.hid hb3
  have HH := Lib.hid hh3
  have HT := Lib.hid (fun (s : ByteArray) (hs : s.size ≤ 140737488351232) W (hW : Below w.heap.size w W) => token_c s W (hG.below hW) hs)
  have H1 := Lib.hid h1
  have H2 := Lib.hid h2
  have L1 := Lib.hid l1
  have L2 := Lib.hid l2
  have L3 := Lib.hid l3
  have hbm : bf.length ≤ 9223372036854775807 := by omega
  have hhm : bh.length ≤ 9223372036854775807 := by omega
  obtain ⟨out, hout⟩ : ∃ l, bf.map tokOf ++ inner ++ bh.map tokOf = l := ⟨_, rfl⟩
  rw [hout]
  have HOUT := Lib.hid hout
  clear hb3 hh3 hb1 hb2 hh1 hh2 hG h1 h2 hout
  unfold ToksB
  go_enter Tryz.func21, Tryz.ntmps21
  go_wp2
  go_loopg [7, 14] bf.length (fun gg s7 s14 wr => ∃ k : Nat, s14 = .int .i64 k ∧ k ≤ bf.length ∧ bf.length - k ≤ gg ∧ Aside (Below w.heap.size w wr) ∧ Aside (wr.ownsRow w.heap.size 38 5 s7 ((bf.take k).map tokOf).length (((bf.take k).map tokOf).flatMap encTok)))
  case atStart => exact ⟨0, rfl, Nat.zero_le _, by omega, (show Below w.heap.size w w from Below.refl _ _), (show w.ownsRow w.heap.size 38 5 (.slice none 0 0) 0 [] from World.ownsRow_nil _ _ _ _)⟩
  case round =>
    obtain ⟨k, rfl, hk, hg, BW, HO⟩ := hrel
    by_cases hlt : k < bf.length
    · obtain ⟨s, hs⟩ : ∃ s, bf[k]? = some s := ⟨bf[k], List.getElem?_eq_getElem hlt⟩
      obtain ⟨b, o, rfl, hb, hx⟩ := HB.out k s hs
      have c0 : wr.cell? ⟨b, o + k, none⟩ = some (.string s) := by simpa using (BW.out.cell (p := ⟨b, o + k * 1 + 0, none⟩) hb).trans (hx 0 _ rfl)
      have hlz : (k : Int) < (bf.length : Int) := by omega
      have hk0 : (0 : Int) ≤ (k : Int) := Int.natCast_nonneg _
      have HMT := Lib.hid (map_take (f := tokOf) hs)
      have HTK := Lib.hid (HT.out s (H1.out s (List.mem_of_getElem? hs)))
      have hlen : ((bf.take k).map tokOf).length = k := by rw [List.length_map, List.length_take]; omega
      obtain ⟨done, hdone⟩ : ∃ l, (bf.take k).map tokOf = l := ⟨_, rfl⟩
      rw [hdone] at HMT HO hlen
      have HLN := Lib.hid hlen
      clear hx hs hdone hlen
      unfold tokV at HTK
      obtain ⟨t, ht⟩ : ∃ t, tokOf s = t := ⟨_, rfl⟩
      rw [ht] at HTK HMT
      clear ht
      obtain ⟨A7, c7, rfl⟩ := own_slice HO.out
      go_wp2_with (first
        | (go_at_call 36; refine (HTK.out _ (below_call (by (repeat' (first | (with_reducible exact Below.refl _ _) | (with_reducible refine below_alloc ?_) | (with_reducible refine below_drew ?_) | (with_reducible refine below_drewN ?_) | (with_reducible refine below_set (by first | (simp; done) | (simp; omega)) ?_) | (with_reducible refine below_call (by with_reducible assumption) ?_)))) BW.out)).mono ?_; rintro e w1 ⟨rfl, hb1⟩)
        | (at_builtin; refine wpList_app _ rfl (.tmp 18) (.tmp 21) 31 rfl w.heap.size 38 _ 5 48 Tryz.underlying31 info_tok rfl (by decide) encTok encTok_len one_Tok _ done.length (done.flatMap encTok) rfl (own_below HO.out (below_alloc hb1)) _ [t] rfl (lit_tok t w1) (by unfold maxLen; have := HLN.out; have := L1.out; simp; omega) (by have := HLN.out; have := L1.out; simp; omega) (by have := BW.out.size; have := hb1.size; simp; omega) ?_; intro v2 w2 ho2 hg2))
      go_roundg (bf.length - (k + 1))
      case measure => omega
      case rel =>
        refine ⟨k + 1, by go_num, by omega, by omega, (show Below w.heap.size w w2 from below_grown (below_call (below_alloc hb1) BW.out) hg2 (own_ge HO.out (Nat.le_refl _))), (show Aside _ from ?_)⟩
        show w2.ownsRow w.heap.size 38 5 v2 ((bf.take (k + 1)).map tokOf).length (((bf.take (k + 1)).map tokOf).flatMap encTok)
        rw [HMT.out]
        exact own_snoc ho2
    · obtain rfl : k = bf.length := by omega
      have hlz : ¬ (bf.length : Int) < (bf.length : Int) := by omega
      have HB1 := Lib.hid (show wr.ownsRow w.heap.size 38 5 _ (bf.map tokOf).length ((bf.map tokOf).flatMap encTok) from by have h := HO.out; rw [List.take_length] at h; exact h)
      have HW := BW
      have HL1 := Lib.hid (show (bf.map tokOf).length = bf.length from List.length_map _)
      obtain ⟨d1, hd1⟩ : ∃ l, bf.map tokOf = l := ⟨_, rfl⟩
      rw [hd1] at HB1 HL1 HOUT
      clear HO hd1 hg HB H1
      obtain ⟨A7, c7, rfl⟩ := own_slice HB1.out
      go_wp2_with (first
        | (at_builtin; refine wpList_app _ rfl (.tmp 24) (.tmp 25) 31 rfl w.heap.size 38 _ 5 48 Tryz.underlying31 info_tok rfl (by decide) encTok encTok_len one_Tok _ d1.length (d1.flatMap encTok) rfl HB1.out _ inner rfl (HI.out.below BW.out) (by unfold maxLen; have := HL1.out; have := L1.out; have := L2.out; omega) (by have := HL1.out; have := L1.out; have := L2.out; omega) BW.out.size ?_; intro v3 w3 ho3 hg3))
      have hb3 := below_grown BW.out hg3 (own_ge HB1.out (Nat.le_refl _))
      have HO3 := Lib.hid (show w3.ownsRow w.heap.size 38 5 v3 (d1 ++ inner).length ((d1 ++ inner).flatMap encTok) from by rw [List.length_append, List.flatMap_append]; exact ho3)
      have HB3 := Lib.hid hb3
      have HL3 := Lib.hid (show (d1 ++ inner).length = bf.length + inner.length from by rw [List.length_append, HL1.out])
      obtain ⟨d2, hd2⟩ : ∃ l, d1 ++ inner = l := ⟨_, rfl⟩
      rw [hd2] at HO3 HL3 HOUT
      clear hd2 ho3 hg3 hb3 BW HW HB1 HI
      go_loopg [7, 29] bh.length (fun gg s7 s29 wq => ∃ k : Nat, s29 = .int .i64 k ∧ k ≤ bh.length ∧ bh.length - k ≤ gg ∧ Aside (Below w.heap.size w wq) ∧ Aside (wq.ownsRow w.heap.size 38 5 s7 (d2 ++ (bh.take k).map tokOf).length ((d2 ++ (bh.take k).map tokOf).flatMap encTok)))
      case atStart => exact ⟨0, rfl, Nat.zero_le _, by omega, HB3.out, (show Aside _ from by rw [List.take_zero, List.map_nil, List.append_nil]; exact HO3.out)⟩
      case round =>
        obtain ⟨k, rfl, hk, hg, BQ, HO⟩ := hrel
        by_cases hlt : k < bh.length
        · obtain ⟨s, hs⟩ : ∃ s, bh[k]? = some s := ⟨bh[k], List.getElem?_eq_getElem hlt⟩
          obtain ⟨b, o, rfl, hb, hx⟩ := HH.out k s hs
          have c0 : wr.cell? ⟨b, o + k, none⟩ = some (.string s) := by simpa using (BQ.out.cell (p := ⟨b, o + k * 1 + 0, none⟩) hb).trans (hx 0 _ rfl)
          have hlz2 : (k : Int) < (bh.length : Int) := by omega
          have hk0 : (0 : Int) ≤ (k : Int) := Int.natCast_nonneg _
          have HMT := Lib.hid (map_take (f := tokOf) hs)
          have HTK := Lib.hid (HT.out s (H2.out s (List.mem_of_getElem? hs)))
          have hlen : (d2 ++ (bh.take k).map tokOf).length = bf.length + inner.length + k := by rw [List.length_append, HL3.out, List.length_map, List.length_take]; omega
          have HAP := Lib.hid (show d2 ++ (bh.take (k + 1)).map tokOf = (d2 ++ (bh.take k).map tokOf) ++ [tokOf s] from by rw [HMT.out, List.append_assoc])
          obtain ⟨done, hdone⟩ : ∃ l, d2 ++ (bh.take k).map tokOf = l := ⟨_, rfl⟩
          rw [hdone] at HAP HO hlen
          have HLN := Lib.hid hlen
          clear hx hs hdone hlen HMT
          unfold tokV at HTK
          obtain ⟨t, ht⟩ : ∃ t, tokOf s = t := ⟨_, rfl⟩
          rw [ht] at HTK HAP
          clear ht
          obtain ⟨A7, c7, rfl⟩ := own_slice HO.out
          go_wp2_with (first
            | (go_at_call 36; refine (HTK.out _ (below_call (by (repeat' (first | (with_reducible exact Below.refl _ _) | (with_reducible refine below_alloc ?_) | (with_reducible refine below_drew ?_) | (with_reducible refine below_drewN ?_) | (with_reducible refine below_set (by first | (simp; done) | (simp; omega)) ?_) | (with_reducible refine below_call (by with_reducible assumption) ?_)))) BQ.out)).mono ?_; rintro e w1 ⟨rfl, hb1⟩)
            | (at_builtin; refine wpList_app _ rfl (.tmp 33) (.tmp 36) 31 rfl w.heap.size 38 _ 5 48 Tryz.underlying31 info_tok rfl (by decide) encTok encTok_len one_Tok _ done.length (done.flatMap encTok) rfl (own_below HO.out (below_alloc hb1)) _ [t] rfl (lit_tok t w1) (by unfold maxLen; have := HLN.out; have := L1.out; have := L2.out; have := L3.out; simp; omega) (by have := HLN.out; have := L1.out; have := L2.out; have := L3.out; simp; omega) (by have := BQ.out.size; have := hb1.size; simp; omega) ?_; intro v2 w2 ho2 hg2))
          go_roundg (bh.length - (k + 1))
          case measure => omega
          case rel =>
            refine ⟨k + 1, by go_num, by omega, by omega, (show Below w.heap.size w w2 from below_grown (below_call (below_alloc hb1) BQ.out) hg2 (own_ge HO.out (Nat.le_refl _))), (show Aside _ from ?_)⟩
            show w2.ownsRow w.heap.size 38 5 v2 (d2 ++ (bh.take (k + 1)).map tokOf).length ((d2 ++ (bh.take (k + 1)).map tokOf).flatMap encTok)
            rw [HAP.out]
            exact own_snoc ho2
        · obtain rfl : k = bh.length := by omega
          have hlz2 : ¬ (bh.length : Int) < (bh.length : Int) := by omega
          go_wp2
          go_ret
          have h := HO.out
          rw [List.take_length, HOUT.out] at h
          exact ⟨_, rfl, h, BQ.out⟩
end Go.Proofs.YtbnelgniekcjdaaGreatDoor

/- slices.Grow and slices.Concat over []api.Token: what each call answers. -/
namespace Go.Proofs.YtbnelgniekcjdaaGreatDoor
open Go.RowKit Cap
set_option maxRecDepth 100000

/-- A new row of room for n: nothing is in it yet. -/
theorem grow_T (n : Nat) (w : World) (hn : n ≤ 1099511627776) :
    Calls Tryz.prog 37 #[.slice none 0 0, .int .i64 n] w fun e w' => ∃ v, e = .returned v ∧ w'.ownsRow w.heap.size 38 5 v 0 [] ∧ Below w.heap.size w w' := by
  rcases Nat.eq_zero_or_pos n with rfl | h0
  · refine (Any8.slices_Grow_room Tryz.grow37 none 0 0 0 w (by omega) (by omega) (by omega) (by omega)).mono ?_
    rintro e w' ⟨rfl, rfl⟩
    exact ⟨_, rfl, World.ownsRow_nil _ _ _ _, Below.refl _ _⟩
  · obtain ⟨i, hi1, hi2, hi3, hi4⟩ := info_tok.parts
    have hb : (0 + n) * i.bytes ≤ 140737488355328 := by rw [hi4]; omega
    refine (Any8.slices_Grow_grow Tryz.grow37 i (.agg #[.int .i64 0, .string ⟨#[]⟩, .int .i64 0, .int .i64 0, .int .i64 0]) hi1 hi2 (by omega) none 0 0 n [] w (by omega) (by omega) hb (by omega) (by simp) (fun _ => rfl) (fun a h => by cases h)).mono ?_
    rintro e w' ⟨rfl, rfl⟩
    refine ⟨_, rfl, ⟨rfl, .inr ⟨w.heap.size, _, _, rfl, Nat.le_refl _, heap_alloc_new w.drew _, Nat.zero_le _, grownCap_le_maxLen _ _ _ _ (by unfold maxLen; omega), ?_, by simp⟩⟩, below_alloc (below_drew (Below.refl _ _))⟩
    have hge := grownCap_ge w (0 + n) 0 (Tryz.grow37_ren.t 25)
    simp only [Nat.zero_add] at hge
    simp [size_zeroCells, Value.cells]
    omega
set_option maxHeartbeats 2000000 in
theorem concat_T (v : Value) (vs : List Value) (xss : List (List Tok)) (w : World) (hs : Sl (fun u => [u]) 1 w v vs) (hl : Slices encTok 5 w vs xss) (ht : xss.flatten.length ≤ 1099511627776) :
    Calls Tryz.prog 23 #[v] w (ConcatR encTok 5 38 xss.flatten w) := by
  obtain ⟨A, c, rfl, hlc, hc, hcell⟩ := hs
  obtain ⟨hvl, hl⟩ := hl
  rw [hvl] at hlc ⊢
  have hbig : xss.length ≤ 9223372036854775807 := Nat.le_trans hlc hc
  have HL := Lib.hid hl
  have HC := Lib.hid hcell
  have HV := Lib.hid hvl
  have hto := lensTo_le xss
  clear hl hcell hvl
  go_enter Tryz.func23, Tryz.ntmps23
  go_wp2
  go_loopg [3, 11] xss.length (fun gg s3 s11 wr => ∃ kk : Nat, kk ≤ xss.length ∧ xss.length - kk ≤ gg ∧ s3 = .int .i64 (lensTo xss kk) ∧ s11 = .int .i64 kk ∧ Aside (Below w.heap.size w wr))
  case atStart => exact ⟨0, Nat.zero_le _, by omega, rfl, rfl, Below.refl _ w⟩
  case round =>
    obtain ⟨kk, hkk, hg, rfl, rfl, BW⟩ := hrel
    by_cases hlt : kk < xss.length
    · obtain ⟨xs, hx⟩ : ∃ xs, xss[kk]? = some xs := ⟨xss[kk], List.getElem?_eq_getElem hlt⟩
      obtain ⟨u, hu⟩ : ∃ u, vs[kk]? = some u := ⟨vs[kk]'(by have := HV.out; omega), List.getElem?_eq_getElem _⟩
      obtain ⟨b, off, rfl, hb, hcx⟩ := HC.out kk u hu
      have hS := HL.out kk u xs hu hx
      obtain ⟨A', c', rfl, hlc', hc', _⟩ := hS
      have hX := Lib.hid hx
      have hs1 := lensTo_succ hx
      have h1 := hto kk
      have h2 := hto (kk + 1)
      have HS1 := Lib.hid hs1
      have hb1 : lensTo xss kk + xs.length ≤ 1099511627776 := by omega
      clear hx hu hs1 hto
      have hltz : (kk : Int) < (xss.length : Int) := by omega
      have c0 : wr.cell? ⟨b, off + kk, none⟩ = some (.slice A' xs.length c') := by simpa using (BW.out.cell (p := ⟨b, off + kk * 1 + 0, none⟩) hb).trans (hcx 0 _ rfl)
      clear hcx
      go_wp2
      go_roundg (xss.length - (kk + 1))
      case measure => omega
      case rel => exact ⟨kk + 1, by omega, by omega, by rw [HS1.out]; go_num, by go_num, BW⟩
    · have : kk = xss.length := by omega
      have hltz : ¬ (kk : Int) < (xss.length : Int) := by omega
      subst this
      have hb1 : lensTo xss xss.length ≤ 1099511627776 := by have := hto xss.length; omega
      have hG := fun W => grow_T (lensTo xss xss.length) W hb1
      have HG := Lib.hid hG
      clear hG hto
      go_wp2_with fail
      refine (HG.out _).mono ?_
      rintro e w1 ⟨v1, rfl, ho1, hbw⟩
      have BW1 := below_call hbw BW.out
      have hsz := BW.out.size
      clear BW
      go_wp2
      go_loopg [6, 27] xss.length (fun gg s6 s27 wq => ∃ kk : Nat, kk ≤ xss.length ∧ xss.length - kk ≤ gg ∧ s27 = .int .i64 kk ∧ Aside (Below w.heap.size w wq) ∧ Aside (wq.ownsRow w.heap.size 38 5 s6 (xss.take kk).flatten.length ((xss.take kk).flatten.flatMap encTok)))
      case atStart => exact ⟨0, Nat.zero_le _, by omega, rfl, BW1, own_base ho1 (by exact hsz)⟩
      case round =>
        obtain ⟨kk, hkk, hg, rfl, BQ, HO⟩ := hrel
        by_cases hlt : kk < xss.length
        · obtain ⟨xs, hx⟩ : ∃ xs, xss[kk]? = some xs := ⟨xss[kk], List.getElem?_eq_getElem hlt⟩
          obtain ⟨u, hu⟩ : ∃ u, vs[kk]? = some u := ⟨vs[kk]'(by have := HV.out; omega), List.getElem?_eq_getElem _⟩
          obtain ⟨b, off, rfl, hb, hcx⟩ := HC.out kk u hu
          have hS := (HL.out kk u xs hu hx).below BQ.out
          have hs1 := lensTo_succ hx
          have h2 := lensTo_le xss (kk + 1)
          have HX := Lib.hid hx
          have HT := Lib.hid (take_flat hx)
          have hb1 : (xss.take kk).flatten.length + xs.length ≤ 1099511627776 := by unfold lensTo at hs1 h2; omega
          clear hx hu hs1 h2
          have hltz : (kk : Int) < (xss.length : Int) := by omega
          have c0 : wr.cell? ⟨b, off + kk, none⟩ = some u := by simpa using (BQ.out.cell (p := ⟨b, off + kk * 1 + 0, none⟩) hb).trans (hcx 0 _ rfl)
          clear hcx
          have hsq := BQ.out.size
          go_wp2_with (at_builtin; refine wpList_app _ rfl _ _ 31 rfl w.heap.size 38 (.agg #[.int .i64 0, .string ⟨#[]⟩, .int .i64 0, .int .i64 0, .int .i64 0]) 5 48 Tryz.underlying31 info_tok rfl (by decide) encTok encTok_len one_Tok _ _ _ rfl HO.out _ xs rfl hS (by unfold maxLen; omega) (by omega) (by omega) ?_; intro v2 w2 ho2 hg2)
          go_roundg (xss.length - (kk + 1))
          case measure => omega
          case rel =>
            refine ⟨kk + 1, by omega, by omega, by go_num, below_grown BQ.out hg2 (own_ge HO.out (Nat.le_refl _)), (show Aside _ from ?_)⟩
            rw [HT.out, List.length_append, List.flatMap_append]
            exact ho2
        · have : kk = xss.length := by omega
          have hltz : ¬ (kk : Int) < (xss.length : Int) := by omega
          subst this
          go_wp2
          go_ret
          have h := HO.out
          rw [List.take_length] at h
          exact ⟨_, rfl, h, BQ.out⟩
end Go.Proofs.YtbnelgniekcjdaaGreatDoor

/- expr.Tokens: its stack of what is shown; slices.Clone of it; (expr.shown).inner. -/
namespace Go.Proofs.YtbnelgniekcjdaaGreatDoor
open Go.RowKit Cap
set_option maxRecDepth 100000

/-- What is shown, as it lies: a slice of tokens, and whether it is an operation. -/
structure ShV where
  a : Option Addr
  n : Nat
  c : Nat
  op : Bool
def ShV.v (s : ShV) : Value := .slice s.a s.n s.c
def encSh (s : ShV) : List Value := [.slice s.a s.n s.c, .bool s.op]
theorem encSh_len (s : ShV) : (encSh s).length = 2 := rfl
theorem info_sh : InfoIs Tryz.prog 63 (.agg #[.slice none 0 0, .bool false]) 2 32 := by unfold InfoIs; kernel_rfl
theorem one_Sh (s : ShV) : ∀ u ∈ encSh s, u.oneCell' = true := fun u hu => by
  simp only [encSh, List.mem_cons, List.not_mem_nil, or_false] at hu
  rcases hu with rfl | rfl <;> rfl
/-- A row of tokens of the call's own. -/
def TR (base : Nat) (w : World) (v : Value) (l : List Tok) : Prop := w.ownsRow base 38 5 v l.length (l.flatMap encTok)
theorem TR.below {base : Nat} {w w' : World} {v : Value} {l : List Tok} (h : TR base w v l) (hb : Below w.heap.size w w') : TR base w' v l := own_below h hb
theorem TR.sl {base : Nat} {w : World} {v : Value} {l : List Tok} (h : TR base w v l) : Sl encTok 5 w v l := Sl.own encTok_len h rfl
/-- A row of tokens does not lie where a row of what is shown does. -/
theorem tok_not_sh {w : World} {base base' : Nat} {v v' : Value} {n n' : Nat} {xs xs' : List Value} (h : w.ownsRow base 38 5 v n xs) (h' : w.ownsRow base' 63 2 v' n' xs') {g : Nat} (hg : v.ownBlock = some g) : some g ≠ v'.ownBlock := by
  rcases h.2 with ⟨rfl, _⟩ | ⟨g1, cap, cur, rfl, hb, hh, _⟩
  · simp [Value.ownBlock] at hg
  rcases h'.2 with ⟨rfl, _⟩ | ⟨g2, cap2, cur2, rfl, hb2, hh2, _⟩
  · simp [Value.ownBlock]
  · intro e
    simp [Value.ownBlock] at hg e
    subst hg
    subst e
    rw [hh] at hh2
    injection hh2 with hh2
    injection hh2 with _ h2 _
    exact absurd h2 (by decide)
theorem TR.grown {base base' : Nat} {w w' : World} {v v' : Value} {l : List Tok} {n' : Nat} {xs' : List Value} (h : TR base w v l) (h' : w.ownsRow base' 63 2 v' n' xs') (hg : w.grownBy w' v'.ownBlock) : TR base w' v l :=
  own_keep h fun g hgg => hg.block g (own_lt h g hgg).2 (tok_not_sh h h' hgg)
/-- The stack. -/
structure StkW (base : Nat) (w : World) (v : Value) (vs : List ShV) (ss : List Sh) : Prop where
  row : w.ownsRow base 63 2 v vs.length (vs.flatMap encSh)
  len : vs.length = ss.length
  tok : ∀ (i : Nat) s t, vs[i]? = some s → ss[i]? = some t → TR base w s.v t.1 ∧ s.op = t.2
theorem StkW.below {base : Nat} {w w' : World} {v : Value} {vs : List ShV} {ss : List Sh} (h : StkW base w v vs ss) (hb : Below w.heap.size w w') : StkW base w' v vs ss :=
  ⟨own_below h.row hb, h.len, fun i s t h1 h2 => ⟨(h.tok i s t h1 h2).1.below hb, (h.tok i s t h1 h2).2⟩⟩
theorem StkW.push {base : Nat} {w w' : World} {v v' : Value} {vs : List ShV} {ss : List Sh} {s : ShV} {t : Sh} (h : StkW base w v vs ss) (ht : TR base w s.v t.1) (ho : s.op = t.2)
    (hr : w'.ownsRow base 63 2 v' (vs.length + [s].length) (vs.flatMap encSh ++ [s].flatMap encSh)) (hg : w.grownBy w' v.ownBlock) : StkW base w' v' (vs ++ [s]) (ss ++ [t]) := by
  refine ⟨by rw [List.length_append, List.flatMap_append]; exact hr, by rw [List.length_append, List.length_append, h.len]; rfl, fun i s' t' h1 h2 => ?_⟩
  by_cases hi : i < vs.length
  · rw [List.getElem?_append_left hi] at h1
    rw [List.getElem?_append_left (by rw [← h.len]; exact hi)] at h2
    obtain ⟨g1, g2⟩ := h.tok i s' t' h1 h2
    exact ⟨g1.grown h.row hg, g2⟩
  · rw [List.getElem?_append_right (by omega)] at h1
    rw [List.getElem?_append_right (by rw [← h.len]; omega)] at h2
    have hi0 : i - vs.length = 0 := by
      have := (List.getElem?_eq_some_iff.1 h1).1
      simp at this
      omega
    rw [hi0] at h1
    rw [← h.len, hi0] at h2
    obtain rfl : s = s' := by simpa using h1
    obtain rfl : t = t' := by simpa using h2
    exact ⟨ht.grown h.row hg, ho⟩
theorem StkW.take {base : Nat} {w : World} {A : Option Addr} {n c : Nat} {vs : List ShV} {ss : List Sh} (h : StkW base w (.slice A n c) vs ss) (hn : n = vs.length) {m : Nat} (hm : m ≤ n) : StkW base w (.slice A m c) (vs.take m) (ss.take m) := by
  subst hn
  refine ⟨by rw [List.length_take, Nat.min_eq_left hm]; exact own_takeL encSh_len h.row hm, by rw [List.length_take, List.length_take, h.len], fun i s t h1 h2 => ?_⟩
  have hi : i < m := by
    have := (List.getElem?_eq_some_iff.1 h1).1
    rw [List.length_take] at this
    omega
  rw [List.getElem?_take_of_lt hi] at h1 h2
  exact h.tok i s t h1 h2
set_option maxHeartbeats 1000000 in
theorem clone_sh (xs : List ShV) (v : Value) (w : World) (hs : Sl encSh 2 w v xs) (hn : xs.length ≤ 1048576) :
    Calls Tryz.prog 20 #[v] w fun e w' => ∃ v', e = .returned v' ∧ Sl encSh 2 w' v' xs ∧ Below w.heap.size w w' := by
  have HS := Lib.hid hs
  obtain ⟨A, c, rfl, hl, hm, hc⟩ := hs
  go_enter Tryz.func20, Tryz.ntmps20
  cases A with
  | none =>
    have hx0 : xs = [] := by
      match xs, hc with
      | [], _ => rfl
      | x :: r, hc =>
        obtain ⟨b, off, he, _⟩ := hc 0 x rfl
        cases he
    subst hx0
    clear hc
    have hnil := fun (W : World) => Lib.run_eql_slice_nil (P := Tryz.prog) W 59 63 none 0 c 0 0 Tryz.underlying59
    simp only [Option.isNone_none] at hnil
    go_wp2
    go_ret
    exact ⟨_, rfl, Sl.nil _ _ _, Below.refl _ _⟩
  | some a =>
    clear hc
    have hnil := fun (W : World) => Lib.run_eql_slice_nil (P := Tryz.prog) W 59 63 (some a) xs.length c 0 0 Tryz.underlying59
    simp only [Option.isNone_some] at hnil
    go_wp2_with (at_builtin; refine wpList_app _ rfl _ _ 59 rfl w.heap.size 63 _ 2 32 Tryz.underlying59 info_sh rfl (by decide) encSh encSh_len one_Sh (.slice (some ⟨w.heap.size, 0, none⟩) 0 0) 0 [] rfl (World.ownsRow_lit w #[] 0 (Nat.le_refl _) (by decide) (by rfl)) _ xs rfl (HS.out.below (below_alloc (Below.refl _ _))) (by unfold maxLen; omega) (by omega) (by simp) ?_; intro v2 w2 ho2 hg2)
    go_ret
    exact ⟨_, rfl, Sl.own encSh_len (by simpa using ho2) rfl, below_grown (below_alloc (Below.refl _ _)) hg2 (fun g hg => by simp [Value.ownBlock] at hg; omega)⟩
set_option maxHeartbeats 2000000 in
theorem inner_c (s : ShV) (t : Sh) (base : Nat) (w : World) (hl : TR base w s.v t.1) (ho : s.op = t.2) (hbase : base ≤ w.heap.size) (hG : G w) (hlen : t.1.length ≤ 1048576) :
    Calls Tryz.prog 22 #[.agg #[.slice s.a s.n s.c, .bool s.op]] w fun e w' => ∃ v, e = .returned v ∧ TR base w' v (innerT t) ∧ Below w.heap.size w w' := by
  obtain ⟨a, n, c, op⟩ := s
  obtain ⟨l, op'⟩ := t
  simp only at ho hlen
  subst ho
  have HL := Lib.hid (show TR base w (.slice a n c) l from hl)
  have HTK := Lib.hid (fun W (hW : Below w.heap.size w W) vb vh (hb : Sl encS 1 W vb [⟨#[40]⟩]) (hh : Sl encS 1 W vh [⟨#[41]⟩]) => tokens_c' [⟨#[40]⟩] [⟨#[41]⟩] l vb (.slice a n c) vh W hb (HL.out.below hW).sl hh (hG.below hW) (by decide) (by decide) (by decide) hlen (by decide))
  clear hl hG hlen
  simp only
  cases op with
  | false =>
    clear HTK
    go_enter Tryz.func22, Tryz.ntmps22
    go_wp2
    go_ret
    exact ⟨_, rfl, HL.out.below (by (repeat' (first | (with_reducible exact Below.refl _ _) | (with_reducible refine below_alloc ?_) | (with_reducible refine below_drew ?_) | (with_reducible refine below_drewN ?_) | (with_reducible refine below_set (by first | (simp; done) | (simp; omega)) ?_) | (with_reducible refine below_call (by with_reducible assumption) ?_)))), by (repeat' (first | (with_reducible exact Below.refl _ _) | (with_reducible refine below_alloc ?_) | (with_reducible refine below_drew ?_) | (with_reducible refine below_drewN ?_) | (with_reducible refine below_set (by first | (simp; done) | (simp; omega)) ?_) | (with_reducible refine below_call (by with_reducible assumption) ?_)))⟩
  | true =>
    go_enter Tryz.func22, Tryz.ntmps22
    go_wp2_with (first | (go_at_call 21; refine (HTK.out _ (by (repeat' (first | (with_reducible exact Below.refl _ _) | (with_reducible refine below_alloc ?_) | (with_reducible refine below_drew ?_) | (with_reducible refine below_drewN ?_) | (with_reducible refine below_set (by first | (simp; done) | (simp; omega)) ?_) | (with_reducible refine below_call (by with_reducible assumption) ?_)))) _ _ (Sl.below (by refine Sl.lit' ?_ _ _ _ _ _ _ ?_ ?_ ?_ ?_ <;> first | (intro _; rfl) | rfl | decide | (simp; done)) (below_alloc (Below.refl _ _))) (by refine Sl.lit' ?_ _ _ _ _ _ _ ?_ ?_ ?_ ?_ <;> first | (intro _; rfl) | rfl | decide | (simp; done))).mono ?_; rintro e w2 ⟨v2, rfl, ho2, hb2⟩))
    go_ret
    refine ⟨_, rfl, ?_, by (repeat' (first | (with_reducible exact Below.refl _ _) | (with_reducible refine below_alloc ?_) | (with_reducible refine below_drew ?_) | (with_reducible refine below_drewN ?_) | (with_reducible refine below_set (by first | (simp; done) | (simp; omega)) ?_) | (with_reducible refine below_call (by with_reducible assumption) ?_)))⟩
    show w2.ownsRow base 38 5 v2 _ _
    rw [show innerT (l, true) = [⟨#[40]⟩].map tokOf ++ l ++ [⟨#[41]⟩].map tokOf from rfl]
    exact own_base ho2 (by simp; omega)
end Go.Proofs.YtbnelgniekcjdaaGreatDoor
