/- The lexer's words and numbers, plainly: one. -/
import Derived.Test.YtbnelgniekcjdaaGreatDoorCLexE
set_option linter.unusedSimpArgs false
set_option linter.unusedVariables false
namespace Go.Proofs.YtbnelgniekcjdaaGreatDoor
open Go.RowKit Cap
set_option maxRecDepth 1000000

def tokV (t : Tok) : Value := .agg #[.int .i64 t.k, .string t.s, .int .i64 t.n, .int .i64 t.ty, .int .i64 t.pos]
def isLD (c : UInt8) : Bool := isLet c || isDig c
theorem Ch.set_new {xb : Nat} {w w' : World} (h : Ch xb w w') {B : Nat} (hB : w.heap.size ≤ B) (j : Nat) (v : Value) : Ch xb w (w'.setCell ⟨B, j, none⟩ v) :=
  ⟨h.os, h.tape, h.output, by have := h.size; simpa using this, fun i hi hx => (heap_setCell_other w' ⟨B, j, none⟩ i v (by show i ≠ B; omega)).trans (h.keeps i hi hx)⟩
theorem Sc.set_other {xb : Nat} {s : ByteArray} {a : Nat} {w : World} (h : Sc xb s a w) {B : Nat} (hB : xb ≠ B) (j : Nat) (v : Value) : Sc xb s a (w.setCell ⟨B, j, none⟩ v) := (heap_setCell_other w ⟨B, j, none⟩ xb v hB).trans h
theorem tok_res (tmps : Array Value) (W : World) (B : Nat) {v0 v1 v2 v3 v4 : Value} {ok : Bool} (h : W.heap[B]? = some (.cells #[v0, v1, v2, v3, v4] 38 (0, 0))) (h2 : tmps.getD 2 undef = .pointer (some ⟨B, 0, none⟩)) (h3 : tmps.getD 3 undef = .bool ok) :
    (results Tryz.f30 tmps).run Tryz.prog W = .ok (.tuple #[.agg #[v0, v1, v2, v3, v4], .bool ok]) W := by
  rw [results_cell_tmp (p := 2) (u := 3) (ty := 38) rfl, h2, h3]
  have c0 := cell_of_row _ _ 0 _ _ _ h
  have c1 := cell_of_row _ _ 1 _ _ _ h
  have c2 := cell_of_row _ _ 2 _ _ _ h
  have c3 := cell_of_row _ _ 3 _ _ _ h
  have c4 := cell_of_row _ _ 4 _ _ _ h
  simp at c0 c1 c2 c3 c4
  go_simp
theorem row5 {W : World} {B : Nat} {T : TypeId} {u0 u1 u2 u3 u4 : Value} (h : W.heap[B]? = some (.cells #[u0, u1, u2, u3, u4] T (0, 0))) :
    W.cell? ⟨B, 0, none⟩ = some u0 ∧ W.cell? ⟨B, 1, none⟩ = some u1 ∧ W.cell? ⟨B, 2, none⟩ = some u2 ∧ W.cell? ⟨B, 3, none⟩ = some u3 ∧ W.cell? ⟨B, 4, none⟩ = some u4 ∧
    W.frozen? ⟨B, 0, none⟩ = false ∧ W.frozen? ⟨B, 1, none⟩ = false ∧ W.frozen? ⟨B, 2, none⟩ = false ∧ W.frozen? ⟨B, 3, none⟩ = false ∧ W.frozen? ⟨B, 4, none⟩ = false := by
  have z0 := cell_of_row _ _ 0 _ _ _ h
  have z1 := cell_of_row _ _ 1 _ _ _ h
  have z2 := cell_of_row _ _ 2 _ _ _ h
  have z3 := cell_of_row _ _ 3 _ _ _ h
  have z4 := cell_of_row _ _ 4 _ _ _ h
  simp at z0 z1 z2 z3 z4
  exact ⟨z0, z1, z2, z3, z4, frozen_of_row _ _ 0 _ _ h, frozen_of_row _ _ 1 _ _ h, frozen_of_row _ _ 2 _ _ h, frozen_of_row _ _ 3 _ _ h, frozen_of_row _ _ 4 _ _ h⟩
set_option maxHeartbeats 16000000 in
theorem one_word (xb : Nat) (s : ByteArray) (a : Nat) (w : World) (h : Sc xb s a w) (hs : s.size ≤ 70000) (c : UInt8) (hc : s.data.toList[a]? = some c) (hl : isLet c = true)
    (wd : List UInt8) (hwd : wd = (s.data.toList.drop a).takeWhile isLD) (h24 : wd.length ≤ 24) (hsh : s.data.toList[a + wd.length]? ≠ some 35) :
    Calls Tryz.prog 30 #[.pointer (some ⟨xb, 0, none⟩)] w fun e w' => e = .returned (.tuple #[tokV ⟨1, ⟨(wd.map upC).toArray⟩, 0, 0, 0⟩, .bool true]) ∧ Ch xb w w' ∧ Sc xb s (a + wd.length) w' := by
  have hxlt := (Array.getElem?_eq_some_iff.1 h).1
  have halt : a < s.size := by simpa using (List.getElem?_eq_some_iff.1 hc).1
  obtain ⟨m, hm⟩ : ∃ m, wd.length = m := ⟨_, rfl⟩
  have hle : a + m ≤ s.size := by
    have h1 := take_while_le isLD (s.data.toList.drop a)
    rw [← hwd, hm, List.length_drop] at h1
    have : s.data.toList.length = s.size := by simp
    omega
  have HT := Lib.hid (show ∀ k, k < m → ∃ b, s.data.toList[a + k]? = some b ∧ isLD b = true from fun k hk => by
    obtain ⟨b, h1, h2, h3⟩ := take_while_at (p := isLD) (s.data.toList.drop a) k (by rw [← hwd, hm]; exact hk)
    rw [List.getElem?_drop] at h1
    exact ⟨b, h1, h2⟩)
  have HE := Lib.hid (show ∀ b, s.data.toList[a + m]? = some b → isLet b = false ∧ isDig b = false from fun b hb => by
    have h := take_while_end (p := isLD) (s.data.toList.drop a) b (by rw [← hwd, hm, List.getElem?_drop]; exact hb)
    unfold isLD at h
    simpa using h)
  have HX := Lib.hid (show (s.extract a (a + m)).data.toList = wd by
    rw [ByteArray.data_extract, Array.toList_extract, List.extract_eq_take_drop, Nat.add_sub_cancel_left]
    rw [hwd, ← hm, hwd]
    have := List.takeWhile_prefix isLD (l := s.data.toList.drop a)
    exact (List.prefix_iff_eq_take.1 this).symm)
  have HUP := Lib.hid (show ∀ W : World, Calls Tryz.prog 51 #[.string (s.extract a (a + m))] W fun e w' => e = .returned (.string ⟨(wd.map upC).toArray⟩) ∧ Below W.heap.size W w' from fun W => by
    have h := upper_c (s.extract a (a + m)) W (by rw [ByteArray.size_extract]; omega)
    rw [HX.out] at h
    exact h)
  have HPX := Lib.hid (show ∀ W : World, Calls Tryz.prog 47 #[.string (s.extract (a + m) s.size), .string ⟨#[35]⟩] W fun e w' => e = .returned (.bool false) ∧ w' = W from fun W => by
    have h := hasp_c (s.extract (a + m) s.size) ⟨#[35]⟩ W
    rw [extract_all, show (([35] : List UInt8).isPrefixOf (s.data.toList.drop (a + m))) = false from ?_] at h
    · exact h
    · rw [hm] at hsh
      cases hd : s.data.toList.drop (a + m) with
      | nil => rfl
      | cons x r =>
        have : s.data.toList[a + m]? = some x := by rw [← List.head?_drop, hd]; rfl
        rw [this] at hsh
        rw [List.isPrefixOf_cons_cons, Bool.and_eq_false_iff]
        left
        rw [beq_eq_false_iff_ne]
        rintro rfl
        exact hsh rfl)
  have HLN := Lib.hid (show (⟨(wd.map upC).toArray⟩ : ByteArray).size ≤ 24 from by simp [ByteArray.size]; omega)
  generalize (⟨(wd.map upC).toArray⟩ : ByteArray) = u at HUP HLN ⊢
  have hxx := index_run hc
  have HLC := Lib.hid (fun W => hl ▸ letter_c c W)
  obtain ⟨k0, k1, g1⟩ := h.cells
  have HH := Lib.hid h
  rw [hm]
  have hw0 : Below w.heap.size w (w.alloc (.cells #[.int .i64 0, .string ⟨#[]⟩, .int .i64 0, .int .i64 0, .int .i64 0] 38)) := by (repeat' (first | (with_reducible exact Below.refl _ _) | (with_reducible refine below_alloc ?_) | (with_reducible refine below_drew ?_) | (with_reducible refine below_drewN ?_) | (with_reducible refine below_set (by first | (simp; done) | (simp; omega)) ?_) | (with_reducible refine below_call (by with_reducible assumption) ?_)))
  have hr0 : (w.alloc (.cells #[.int .i64 0, .string ⟨#[]⟩, .int .i64 0, .int .i64 0, .int .i64 0] 38)).heap[w.heap.size]? = some (.cells #[.int .i64 0, .string ⟨#[]⟩, .int .i64 0, .int .i64 0, .int .i64 0] 38 (0, 0)) := heap_alloc_new _ _
  have haz : (a : Int) < (s.size : Int) := by omega
  have ha0 : (0 : Int) ≤ (a : Int) := Int.natCast_nonneg _
  clear hwd h24 hsh hm hl hc h HX
  go_enter Tryz.func30, Tryz.ntmps30
  go_upto_region 2 with fail
  go_quiet (fail)
  go_upto_region 4 with (first | (go_at_call 49; refine (HLC.out _).mono ?_; rintro e w1 ⟨rfl, rfl⟩))
  go_loopg [60] (m + 1) (fun gg s60 wr => ∃ k : Nat, s60 = s60 ∧ k ≤ m ∧ m - k < gg ∧ Aside (Sc xb s (a + k) wr) ∧ Aside (Ch xb (w.alloc (.cells #[.int .i64 0, .string ⟨#[]⟩, .int .i64 0, .int .i64 0, .int .i64 0] 38)) wr))
  case atStart => exact ⟨0, rfl, Nat.zero_le _, by omega, (show Sc _ _ _ _ from HH.out.below (by (repeat' (first | (with_reducible exact Below.refl _ _) | (with_reducible refine below_alloc ?_) | (with_reducible refine below_drew ?_) | (with_reducible refine below_drewN ?_) | (with_reducible refine below_set (by first | (simp; done) | (simp; omega)) ?_) | (with_reducible refine below_call (by with_reducible assumption) ?_))))), (show Ch _ _ _ from .of (by (repeat' (first | (with_reducible exact Below.refl _ _) | (with_reducible refine below_alloc ?_) | (with_reducible refine below_drew ?_) | (with_reducible refine below_drewN ?_) | (with_reducible refine below_set (by first | (simp; done) | (simp; omega)) ?_) | (with_reducible refine below_call (by with_reducible assumption) ?_)))))⟩
  case round =>
    obtain ⟨k, -, hk, hg, HSR, HC⟩ := hrel
    obtain ⟨p, hp⟩ : ∃ p, a + k = p := ⟨_, rfl⟩
    have HS := Lib.hid (show Sc xb s p wr from hp ▸ HSR.out)
    have HP := Lib.hid hp
    have HSR' := Lib.hid HSR
    obtain ⟨k0, k1, g1⟩ := HS.out.cells
    have hp0 : (0 : Int) ≤ (p : Int) := Int.natCast_nonneg _
    clear hxx HSR
    by_cases hlt : k < m
    · obtain ⟨b, hb, hld⟩ := HT.out k hlt
      rw [hp] at hb
      have hpz : (p : Int) < (s.size : Int) := by omega
      have hxx := index_run hb
      have hfin : ∀ (W : World), Below wr.heap.size wr W → ∃ k', k' = k + 1 ∧ Aside (Sc xb s (a + k') (W.setCell ⟨xb, 1, none⟩ (.int .i64 ((p : Int) + 1)))) ∧ Aside (Ch xb (w.alloc (.cells #[.int .i64 0, .string ⟨#[]⟩, .int .i64 0, .int .i64 0, .int .i64 0] 38)) (W.setCell ⟨xb, 1, none⟩ (.int .i64 ((p : Int) + 1)))) := fun W hW =>
        ⟨_, rfl, (show Sc _ _ _ _ from by rw [show a + (k + 1) = p + 1 by omega]; exact (HS.out.below hW).set (p + 1)), (show Ch _ _ _ from .set (.call hW HC.out) _ _)⟩
      have HF := Lib.hid hfin
      clear hb hp hfin
      cases hl : isLet b with
      | true =>
        have HLB := Lib.hid (fun W => hl ▸ letter_c b W)
        clear hl hld
        go_upto_region 4 with fail
        go_quiet (first | (go_at_call 49; exact Calls.quiet_of_same (HLB.out _)))
        go_wp2
        go_roundg (m - k)
        case measure => omega
        case rel =>
          obtain ⟨k', hk', h1, h2⟩ := HF.out (wr.drewN nq) (by (repeat' (first | (with_reducible exact Below.refl _ _) | (with_reducible refine below_alloc ?_) | (with_reducible refine below_drew ?_) | (with_reducible refine below_drewN ?_) | (with_reducible refine below_set (by first | (simp; done) | (simp; omega)) ?_) | (with_reducible refine below_call (by with_reducible assumption) ?_))))
          exact ⟨k', trivial, by omega, by omega, h1, h2⟩
      | false =>
        have hd : isDig b = true := by
          unfold isLD at hld
          rw [hl] at hld
          simpa using hld
        have HLB := Lib.hid (fun W => hl ▸ letter_c b W)
        have HDB := Lib.hid (fun W => hd ▸ digit_c b W)
        clear hl hld hd
        go_upto_region 4 with fail
        go_quiet (first | (go_at_call 49; exact Calls.quiet_of_same (HLB.out _)) | (go_at_call 50; exact Calls.quiet_of_same (HDB.out _)))
        go_wp2
        go_roundg (m - k)
        case measure => omega
        case rel =>
          obtain ⟨k', hk', h1, h2⟩ := HF.out (wr.drewN nq) (by (repeat' (first | (with_reducible exact Below.refl _ _) | (with_reducible refine below_alloc ?_) | (with_reducible refine below_drew ?_) | (with_reducible refine below_drewN ?_) | (with_reducible refine below_set (by first | (simp; done) | (simp; omega)) ?_) | (with_reducible refine below_call (by with_reducible assumption) ?_))))
          exact ⟨k', trivial, by omega, by omega, h1, h2⟩
    · obtain rfl : k = m := by omega
      have HUP' := Lib.hid (show ∀ W : World, Calls Tryz.prog 51 #[.string (s.extract a p)] W fun e w' => e = .returned (.string u) ∧ Below W.heap.size W w' from hp ▸ HUP.out)
      have HPX' := Lib.hid (show ∀ W : World, Calls Tryz.prog 47 #[.string (s.extract p s.size), .string ⟨#[35]⟩] W fun e w' => e = .returned (.bool false) ∧ w' = W from hp ▸ HPX.out)
      have HRE := Lib.hid (fun (W : World) (hW : Below wr.heap.size wr W) => rest_c xb s p W (HS.out.below hW) (by omega))
      have hap : (a : Int) ≤ (p : Int) := by omega
      have hps : (p : Int) ≤ (s.size : Int) := by omega
      have hu24 : (u.size : Int) ≤ 24 := by have := HLN.out; omega
      have hr1 := HC.out.block hr0 (by omega)
      have HR1 := Lib.hid hr1
      have HKS := Lib.hid (show ∀ W, Below wr.heap.size wr W → W.cell? ⟨xb, 0, none⟩ = some (.string s) ∧ W.cell? ⟨xb, 1, none⟩ = some (.int .i64 p) from fun W hW => ⟨(HS.out.below hW).cells.1, (HS.out.below hW).cells.2.1⟩)
      cases hb : s.data.toList[p]? with
      | none =>
        have hge : s.size ≤ p := by
          rw [List.getElem?_eq_none_iff] at hb
          simpa using hb
        have hpz : ¬ (p : Int) < (s.size : Int) := by omega
        clear hb hp hr1
        go_upto_region 4 with fail
        go_quiet (fail)
        go_upto_region 6 with fail
        go_region_held3 (fun W => W.cell? ⟨xb, 0, none⟩ = some (.string s) ∧ W.cell? ⟨xb, 1, none⟩ = some (.int .i64 p)) (exact HKS.out _ (by (repeat' (first | (with_reducible exact Below.refl _ _) | (with_reducible refine below_alloc ?_) | (with_reducible refine below_drew ?_) | (with_reducible refine below_drewN ?_) | (with_reducible refine below_set (by first | (simp; done) | (simp; omega)) ?_) | (with_reducible refine below_call (by with_reducible assumption) ?_))))) (first | (go_at_call 51; refine (HUP'.out _).mono ?_; rintro e w5 ⟨rfl, hb5⟩))
        have hb5' : Below wr.heap.size wr w5 := by (repeat' (first | (with_reducible exact Below.refl _ _) | (with_reducible refine below_alloc ?_) | (with_reducible refine below_drew ?_) | (with_reducible refine below_drewN ?_) | (with_reducible refine below_set (by first | (simp; done) | (simp; omega)) ?_) | (with_reducible refine below_call (by with_reducible assumption) ?_)))
        have HC5 := Lib.hid (show Ch xb _ w5 from .call hb5' HC.out)
        have HS5 := Lib.hid (HS.out.below hb5')
        have hr5 := HC5.out.block hr0 (by omega)
        have HR5 := Lib.hid hr5
        clear hr5
        go_wp2_with (first
          | (go_at_call 46; refine (HRE.out _ (by (repeat' (first | (with_reducible exact Below.refl _ _) | (with_reducible refine below_alloc ?_) | (with_reducible refine below_drew ?_) | (with_reducible refine below_drewN ?_) | (with_reducible refine below_set (by first | (simp; done) | (simp; omega)) ?_) | (with_reducible refine below_call (by with_reducible assumption) ?_))))).mono ?_; rintro e w6 ⟨rfl, hb6⟩; obtain ⟨z0, z1, z2, z3, z4, y0, y1, y2, y3, y4⟩ := row5 ((hb6.block _ (Array.getElem?_eq_some_iff.1 HR5.out).1).trans HR5.out))
          | (go_at_call 47; refine (HPX'.out _).mono ?_; rintro e w7 ⟨rfl, rfl⟩))
        refine bodyPost_ret (tok_res _ _ w.heap.size (sets5 ((hb6.block _ (Array.getElem?_eq_some_iff.1 HR5.out).1).trans HR5.out)) rfl rfl) rfl ⟨rfl, ?_, ?_⟩
        · exact (((((((Ch.of hw0).trans HC5.out).trans (.of hb6)).set_new (Nat.le_refl _) _ _).set_new (Nat.le_refl _) _ _).set_new (Nat.le_refl _) _ _).set_new (Nat.le_refl _) _ _).set_new (Nat.le_refl _) _ _
        · have hx : xb ≠ w.heap.size := by omega
          rw [HP.out]
          exact (((((HS5.out.below hb6).set_other hx _ _).set_other hx _ _).set_other hx _ _).set_other hx _ _).set_other hx _ _
      | some b =>
        obtain ⟨hbl, hbd⟩ := HE.out b (by rw [hp]; exact hb)
        have hpz : (p : Int) < (s.size : Int) := by
          have := (List.getElem?_eq_some_iff.1 hb).1
          have h2 : s.data.toList.length = s.size := by simp
          omega
        have hxx := index_run hb
        have HLB := Lib.hid (fun W => hbl ▸ letter_c b W)
        have HDB := Lib.hid (fun W => hbd ▸ digit_c b W)
        clear hb hp hr1 hbl hbd
        go_upto_region 4 with fail
        go_quiet (first | (go_at_call 49; exact Calls.quiet_of_same (HLB.out _)) | (go_at_call 50; exact Calls.quiet_of_same (HDB.out _)))
        clear hxx
        go_upto_region 6 with fail
        go_region_held3 (fun W => W.cell? ⟨xb, 0, none⟩ = some (.string s) ∧ W.cell? ⟨xb, 1, none⟩ = some (.int .i64 p)) (exact HKS.out _ (by (repeat' (first | (with_reducible exact Below.refl _ _) | (with_reducible refine below_alloc ?_) | (with_reducible refine below_drew ?_) | (with_reducible refine below_drewN ?_) | (with_reducible refine below_set (by first | (simp; done) | (simp; omega)) ?_) | (with_reducible refine below_call (by with_reducible assumption) ?_))))) (first | (go_at_call 51; refine (HUP'.out _).mono ?_; rintro e w5 ⟨rfl, hb5⟩))
        have hb5' : Below wr.heap.size wr w5 := by (repeat' (first | (with_reducible exact Below.refl _ _) | (with_reducible refine below_alloc ?_) | (with_reducible refine below_drew ?_) | (with_reducible refine below_drewN ?_) | (with_reducible refine below_set (by first | (simp; done) | (simp; omega)) ?_) | (with_reducible refine below_call (by with_reducible assumption) ?_)))
        have HC5 := Lib.hid (show Ch xb _ w5 from .call hb5' HC.out)
        have HS5 := Lib.hid (HS.out.below hb5')
        have hr5 := HC5.out.block hr0 (by omega)
        have HR5 := Lib.hid hr5
        clear hr5
        go_wp2_with (first
          | (go_at_call 46; refine (HRE.out _ (by (repeat' (first | (with_reducible exact Below.refl _ _) | (with_reducible refine below_alloc ?_) | (with_reducible refine below_drew ?_) | (with_reducible refine below_drewN ?_) | (with_reducible refine below_set (by first | (simp; done) | (simp; omega)) ?_) | (with_reducible refine below_call (by with_reducible assumption) ?_))))).mono ?_; rintro e w6 ⟨rfl, hb6⟩; obtain ⟨z0, z1, z2, z3, z4, y0, y1, y2, y3, y4⟩ := row5 ((hb6.block _ (Array.getElem?_eq_some_iff.1 HR5.out).1).trans HR5.out))
          | (go_at_call 47; refine (HPX'.out _).mono ?_; rintro e w7 ⟨rfl, rfl⟩))
        refine bodyPost_ret (tok_res _ _ w.heap.size (sets5 ((hb6.block _ (Array.getElem?_eq_some_iff.1 HR5.out).1).trans HR5.out)) rfl rfl) rfl ⟨rfl, ?_, ?_⟩
        · exact (((((((Ch.of hw0).trans HC5.out).trans (.of hb6)).set_new (Nat.le_refl _) _ _).set_new (Nat.le_refl _) _ _).set_new (Nat.le_refl _) _ _).set_new (Nat.le_refl _) _ _).set_new (Nat.le_refl _) _ _
        · have hx : xb ≠ w.heap.size := by omega
          rw [HP.out]
          exact (((((HS5.out.below hb6).set_other hx _ _).set_other hx _ _).set_other hx _ _).set_other hx _ _).set_other hx _ _
end Go.Proofs.YtbnelgniekcjdaaGreatDoor
