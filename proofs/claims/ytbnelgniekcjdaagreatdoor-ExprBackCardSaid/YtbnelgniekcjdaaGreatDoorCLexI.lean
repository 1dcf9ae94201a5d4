/- The lexer's signs, plainly: one. -/
import Derived.Test.YtbnelgniekcjdaaGreatDoorCLexG
set_option linter.unusedSimpArgs false
set_option linter.unusedVariables false
namespace Go.Proofs.YtbnelgniekcjdaaGreatDoor
open Go.RowKit Cap
set_option maxRecDepth 1000000

/-- The library's table of blanks, as it is laid. -/
def GL (w : World) : Prop := ∀ c : Nat, c < 256 → w.cell? ⟨2, c, none⟩ = some (.int .u8 (if Lib.isSp (UInt8.ofNat c) then 1 else 0))
theorem GL.below {w w' : World} (h : GL w) (hb : Below w.heap.size w w') : GL w' := fun c hc => (hb.cell (World.block_lt_of_cell? _ _ (h c hc))).trans (h c hc)
def toB (l : List UInt8) : ByteArray := ⟨l.toArray⟩
def SlR (xs : List ByteArray) (w : World) (e : Ending) (w' : World) : Prop := ∃ v, e = .returned v ∧ Sl encS 1 w' v xs ∧ Below w.heap.size w w'
theorem fields_c (W : World) (hG : GL W) : Calls Tryz.prog 55 #[.string ⟨#[58, 61, 32, 60, 61, 32, 62, 61, 32, 60, 62, 32, 42, 42, 32, 46, 46]⟩] W (SlR (signs2.map toB) W) := by
  have h := Any.strings_Fields_core Tryz.fields (by kernel_rfl) ⟨#[58, 61, 32, 60, 61, 32, 62, 61, 32, 60, 62, 32, 42, 42, 32, 46, 46]⟩ W (by decide) (Go.Proofs.ascii_of_all (by decide)) hG
  refine h.mono ?_
  rintro e w' ⟨rfl, rfl⟩
  refine ⟨_, rfl, ?_, by (repeat' (first | (with_reducible exact Below.refl _ _) | (with_reducible refine below_alloc ?_) | (with_reducible refine below_drew ?_) | (with_reducible refine below_drewN ?_) | (with_reducible refine below_set (by first | (simp; done) | (simp; omega)) ?_) | (with_reducible refine below_call (by with_reducible assumption) ?_)))⟩
  exact Sl.lit encS_lenR W _ _ _ (signs2.map toB) rfl rfl (by decide)
theorem split_c (W : World) : Calls Tryz.prog 56 #[.string ⟨#[40, 41, 91, 93, 44, 59, 58, 46, 43, 45, 42, 47, 61, 60, 62, 38]⟩, .string ⟨#[]⟩] W (SlR (signs1.map toB) W) := by
  have h := Any.strings_Split_chars Tryz.split (by kernel_rfl) ⟨#[40, 41, 91, 93, 44, 59, 58, 46, 43, 45, 42, 47, 61, 60, 62, 38]⟩ ⟨#[]⟩ W rfl (by decide) (Go.Proofs.ascii_of_all (by decide))
  refine h.mono ?_
  rintro e w' ⟨rfl, rfl⟩
  have hi : Below W.heap.size W (W.iter ⟨#[40, 41, 91, 93, 44, 59, 58, 46, 43, 45, 42, 47, 61, 60, 62, 38]⟩ (⟨#[40, 41, 91, 93, 44, 59, 58, 46, 43, 45, 42, 47, 61, 60, 62, 38]⟩ : ByteArray).size) := by
    unfold World.iter
    (repeat' (first | (with_reducible exact Below.refl _ _) | (with_reducible refine below_alloc ?_) | (with_reducible refine below_drew ?_) | (with_reducible refine below_drewN ?_) | (with_reducible refine below_set (by first | (simp; done) | (simp; omega)) ?_) | (with_reducible refine below_call (by with_reducible assumption) ?_)))
  refine ⟨_, rfl, ?_, below_alloc hi⟩
  exact Sl.lit encS_lenR _ _ _ _ (signs1.map toB) (by kernel_rfl) rfl (by decide)
def signsB : List ByteArray := (signs2 ++ signs1).map toB
theorem signsB_len : signsB.length = 22 := rfl
theorem signsB_flat : [signs2.map toB, signs1.map toB].flatten = signsB := rfl
theorem find_sign {q s0 : List UInt8} (h : signL q = some s0) : signsB.find? (fun x => x.data.toList.isPrefixOf q) = some (toB s0) := by
  unfold signsB signL at *
  rw [List.find?_map]
  have e : ((fun x : ByteArray => x.data.toList.isPrefixOf q) ∘ toB) = fun s => s.isPrefixOf q := by
    funext s
    rfl
  rw [e, h]
  rfl
theorem sign_size : ∀ u ∈ signsB, u.size ≤ 2 := by decide
set_option maxHeartbeats 16000000 in
theorem one_sign (xb : Nat) (s : ByteArray) (a : Nat) (w : World) (h : Sc xb s a w) (hs : s.size ≤ 70000) (hG : GL w) (c : UInt8) (hc : s.data.toList[a]? = some c) (hl : isLet c = false) (hd : isDig c = false)
    (s0 : List UInt8) (hsg : signL (s.data.toList.drop a) = some s0) :
    Calls Tryz.prog 30 #[.pointer (some ⟨xb, 0, none⟩)] w fun e w' => e = .returned (.tuple #[tokV ⟨3, toB s0, 0, 0, 0⟩, .bool true]) ∧ Ch xb w w' ∧ Sc xb s (a + s0.length) w' := by
  have hxlt := (Array.getElem?_eq_some_iff.1 h).1
  have halt : a < s.size := by simpa using (List.getElem?_eq_some_iff.1 hc).1
  have hxx := index_run hc
  have HLC := Lib.hid (fun W => hl ▸ letter_c c W)
  have HDC := Lib.hid (fun W => hd ▸ digit_c c W)
  obtain ⟨k0, k1, g1⟩ := h.cells
  have HH := Lib.hid h
  have HF := Lib.hid (find_sign hsg)
  have HG := Lib.hid hG
  have HRE := Lib.hid (fun (W : World) (hW : Below w.heap.size w W) => rest_c xb s a W (h.below hW) (by omega))
  have HPX := Lib.hid (fun (W : World) (u : ByteArray) => extract_all s a ▸ hasp_c (s.extract a s.size) u W)
  have HCC := Lib.hid (fun v vs W hs hl => concat_S v vs [signs2.map toB, signs1.map toB] W hs hl (by decide))
  have HN := Lib.hid (show ∀ k, k < 22 → ∃ u, signsB[k]? = some u ∧ u.size ≤ 2 from fun k hk => ⟨signsB[k]'hk, List.getElem?_eq_getElem hk, sign_size _ (List.getElem_mem _)⟩)
  have hr0 : (w.alloc (.cells #[.int .i64 0, .string ⟨#[]⟩, .int .i64 0, .int .i64 0, .int .i64 0] 38)).heap[w.heap.size]? = some (.cells #[.int .i64 0, .string ⟨#[]⟩, .int .i64 0, .int .i64 0, .int .i64 0] 38 (0, 0)) := heap_alloc_new _ _
  have haz : (a : Int) < (s.size : Int) := by omega
  have ha0 : (0 : Int) ≤ (a : Int) := Int.natCast_nonneg _
  have ham : (a : Int) ≤ 70000 := by omega
  generalize s.data.toList.drop a = q at HF HPX
  clear hl hd hc h hsg hG
  go_enter Tryz.func30, Tryz.ntmps30
  go_upto_region 2 with fail
  go_quiet (fail)
  go_upto_region 14 with (first | (go_at_call 49; refine (HLC.out _).mono ?_; rintro e w1 ⟨rfl, rfl⟩) | (go_at_call 50; refine (HDC.out _).mono ?_; rintro e w2 ⟨rfl, rfl⟩))
  go_wp2_with (first
    | (go_at_call 55; refine (fields_c _ (HG.out.below (by (repeat' (first | (with_reducible exact Below.refl _ _) | (with_reducible refine below_alloc ?_) | (with_reducible refine below_drew ?_) | (with_reducible refine below_drewN ?_) | (with_reducible refine below_set (by first | (simp; done) | (simp; omega)) ?_) | (with_reducible refine below_call (by with_reducible assumption) ?_)))))).mono ?_; rintro e w3 ⟨v3, rfl, hv3, hb3⟩; obtain ⟨A3, c3, rfl, p31, p32, p33⟩ := hv3; have H3 := Lib.hid (show Sl encS 1 w3 (.slice A3 (signs2.map toB).length c3) (signs2.map toB) from ⟨A3, c3, rfl, p31, p32, p33⟩); clear p31 p32 p33; generalize (signs2.map toB).length = n3 at H3 ⊢)
    | (go_at_call 56; refine (split_c _).mono ?_; rintro e w4 ⟨v4, rfl, hv4, hb4⟩; obtain ⟨A4, c4, rfl, p41, p42, p43⟩ := hv4; have H4 := Lib.hid (show Sl encS 1 w4 (.slice A4 (signs1.map toB).length c4) (signs1.map toB) from ⟨A4, c4, rfl, p41, p42, p43⟩); clear p41 p42 p43; generalize (signs1.map toB).length = n4 at H4 ⊢))
  have H3' := H3.out.below hb4
  have HCX := Lib.hid (HCC.out (Value.slice (some ⟨w4.heap.size, 0, none⟩) 2 2) [Value.slice A3 n3 c3, Value.slice A4 n4 c4] (w4.alloc (.cells #[Value.slice A3 n3 c3, Value.slice A4 n4 c4] 23)) (Sl.lit (enc := fun u : Value => [u]) (k := 1) (fun _ => rfl) w4 #[Value.slice A3 n3 c3, Value.slice A4 n4 c4] 23 2 [Value.slice A3 n3 c3, Value.slice A4 n4 c4] rfl rfl (by show 2 ≤ 9223372036854775807; decide))
    ⟨rfl, fun j u xs hu hx => by
      have ha : Below w4.heap.size w4 (w4.alloc (.cells #[Value.slice A3 n3 c3, Value.slice A4 n4 c4] 23)) := by (repeat' (first | (with_reducible exact Below.refl _ _) | (with_reducible refine below_alloc ?_) | (with_reducible refine below_drew ?_) | (with_reducible refine below_drewN ?_) | (with_reducible refine below_set (by first | (simp; done) | (simp; omega)) ?_) | (with_reducible refine below_call (by with_reducible assumption) ?_)))
      rcases j with _ | _ | j
      · cases hu; cases hx; exact H3'.below ha
      · cases hu; cases hx; exact H4.out.below ha
      · simp at hu⟩)
  rw [signsB_flat] at HCX
  refine HCX.out.mono ?_
  rintro e w5 ⟨v5, rfl, ho5, hb5⟩
  obtain ⟨A5, c5, rfl⟩ := own_slice ho5
  have H5 := Lib.hid (Sl.own encS_lenR ho5 rfl)
  rw [signsB_len] at H5 ⊢
  clear ho5 H3'
  have hr5 : w5.heap[w.heap.size]? = some (.cells #[.int .i64 0, .string ⟨#[]⟩, .int .i64 0, .int .i64 0, .int .i64 0] 38 (0, 0)) := by
    have hbx : Below (w.alloc (.cells #[.int .i64 0, .string ⟨#[]⟩, .int .i64 0, .int .i64 0, .int .i64 0] 38)).heap.size (w.alloc (.cells #[.int .i64 0, .string ⟨#[]⟩, .int .i64 0, .int .i64 0, .int .i64 0] 38)) w5 := by (repeat' (first | (with_reducible exact Below.refl _ _) | (with_reducible refine below_alloc ?_) | (with_reducible refine below_drew ?_) | (with_reducible refine below_drewN ?_) | (with_reducible refine below_set (by first | (simp; done) | (simp; omega)) ?_) | (with_reducible refine below_call (by with_reducible assumption) ?_)))
    exact (hbx.block _ (by simp)).trans hr0
  have hb5' : Below w.heap.size w w5 := by (repeat' (first | (with_reducible exact Below.refl _ _) | (with_reducible refine below_alloc ?_) | (with_reducible refine below_drew ?_) | (with_reducible refine below_drewN ?_) | (with_reducible refine below_set (by first | (simp; done) | (simp; omega)) ?_) | (with_reducible refine below_call (by with_reducible assumption) ?_)))
  have HB5 := Lib.hid hb5'
  have HR5 := Lib.hid hr5
  clear hb5' hr5 hb5 hb4 hb3 HCX HCC
  go_upto_region 15 with fail
  go_loopg [115] 22 (fun gg s115 wr => ∃ k : Nat, s115 = .int .i64 k ∧ k ≤ 22 ∧ 22 - k ≤ gg ∧ Aside (Below w.heap.size w wr) ∧ Aside (Sl encS 1 wr (.slice A5 22 c5) signsB) ∧ Aside (wr.heap[w.heap.size]? = some (.cells #[.int .i64 0, .string ⟨#[]⟩, .int .i64 0, .int .i64 0, .int .i64 0] 38 (0, 0))) ∧ Aside ((signsB.drop k).find? (fun x => x.data.toList.isPrefixOf q) = some (toB s0)))
  case atStart => exact ⟨0, rfl, Nat.zero_le _, by omega, HB5.out, H5.out, HR5.out, HF.out⟩
  case round =>
    obtain ⟨k, rfl, hk, hg, HBE, HSL, HRO, HFD⟩ := hrel
    have hbe := HBE.out
    have hk0 : (0 : Int) ≤ (k : Int) := Int.natCast_nonneg _
    by_cases hlt : k < 22
    · obtain ⟨u, hu, hu2⟩ := HN.out k hlt
      have hdr := drop_cons hu
      obtain ⟨A, c', he, _, _, hsl⟩ := HSL.out
      injection he with hA h3 h4
      subst hA
      clear h3 h4
      obtain ⟨b, off, rfl, hb, hx⟩ := hsl k u hu
      have e0 : wr.cell? ⟨b, off + k, none⟩ = some (.string u) := by simpa using hx 0 _ rfl
      have hltz : (k : Int) < 22 := by omega
      have HSL2 := Lib.hid HSL.out
      have HRO2 := Lib.hid HRO.out
      have HPU := Lib.hid (fun W => HPX.out W u)
      have huz : (u.size : Int) ≤ 2 := by omega
      have hu0 : (0 : Int) ≤ (u.size : Int) := Int.natCast_nonneg _
      have HFD2 := Lib.hid (show (u :: signsB.drop (k + 1)).find? (fun x => x.data.toList.isPrefixOf q) = some (toB s0) from hdr ▸ HFD.out)
      clear hx hu hsl hdr
      cases hp : u.data.toList.isPrefixOf q with
      | true =>
        rw [hp] at HPU
        have hus : u = toB s0 := by
          have h := HFD2.out
          rw [List.find?_cons, hp] at h
          exact Option.some.inj h
        have HUS := Lib.hid hus
        clear hus hp
        go_upto_region 18 with (first
          | (go_at_call 46; refine (HRE.out _ (by (repeat' (first | (with_reducible exact Below.refl _ _) | (with_reducible refine below_alloc ?_) | (with_reducible refine below_drew ?_) | (with_reducible refine below_drewN ?_) | (with_reducible refine below_set (by first | (simp; done) | (simp; omega)) ?_) | (with_reducible refine below_call (by with_reducible assumption) ?_))))).mono ?_; rintro e w6 ⟨rfl, hb6⟩)
          | (go_at_call 47; refine (HPU.out _).mono ?_; rintro e w7 ⟨rfl, rfl⟩))
        have hb6' : Below w.heap.size w w7 := by (repeat' (first | (with_reducible exact Below.refl _ _) | (with_reducible refine below_alloc ?_) | (with_reducible refine below_drew ?_) | (with_reducible refine below_drewN ?_) | (with_reducible refine below_set (by first | (simp; done) | (simp; omega)) ?_) | (with_reducible refine below_call (by with_reducible assumption) ?_)))
        have HS7 := Lib.hid (HH.out.below hb6')
        have hr7 := (hb6.block _ (Array.getElem?_eq_some_iff.1 HRO2.out).1).trans HRO2.out
        have HR7 := Lib.hid hr7
        obtain ⟨x0, x1, x2⟩ := HS7.out.cells
        have hr8 : (w7.setCell ⟨xb, 1, none⟩ (.int .i64 ((a : Int) + (u.size : Int)))).heap[w.heap.size]? = some (.cells #[.int .i64 0, .string ⟨#[]⟩, .int .i64 0, .int .i64 0, .int .i64 0] 38 (0, 0)) := (heap_setCell_other w7 ⟨xb, 1, none⟩ w.heap.size _ (by show w.heap.size ≠ xb; omega)).trans hr7
        have HR8 := Lib.hid hr8
        obtain ⟨z0, z1, z2, z3, z4, y0, y1, y2, y3, y4⟩ := row5 hr8
        have HC8 := Lib.hid (show Ch xb w (w7.setCell ⟨xb, 1, none⟩ (.int .i64 ((a : Int) + (u.size : Int)))) from .set (.of hb6') _ _)
        have HS8 := Lib.hid (show Sc xb s (a + u.size) (w7.setCell ⟨xb, 1, none⟩ (.int .i64 ((a : Int) + (u.size : Int)))) from HS7.out.set (a + u.size))
        clear hr7 hr8
        go_wp2
        refine bodyPost_ret (tok_res _ _ w.heap.size (sets5 HR8.out) rfl rfl) rfl ⟨by rw [HUS.out]; rfl, ?_, ?_⟩
        · exact (((((HC8.out.set_new (Nat.le_refl _) _ _).set_new (Nat.le_refl _) _ _).set_new (Nat.le_refl _) _ _).set_new (Nat.le_refl _) _ _).set_new (Nat.le_refl _) _ _)
        · have hx : xb ≠ w.heap.size := by omega
          rw [show s0.length = u.size from by rw [HUS.out]; simp [toB, ByteArray.size]]
          exact ((((HS8.out.set_other hx _ _).set_other hx _ _).set_other hx _ _).set_other hx _ _).set_other hx _ _
      | false =>
        rw [hp] at HPU
        have HFD3 := Lib.hid (show (signsB.drop (k + 1)).find? (fun x => x.data.toList.isPrefixOf q) = some (toB s0) from by
          have h := HFD2.out
          rw [List.find?_cons, hp] at h
          exact h)
        clear hp
        go_wp2_with (first
          | (go_at_call 46; refine (HRE.out _ (by (repeat' (first | (with_reducible exact Below.refl _ _) | (with_reducible refine below_alloc ?_) | (with_reducible refine below_drew ?_) | (with_reducible refine below_drewN ?_) | (with_reducible refine below_set (by first | (simp; done) | (simp; omega)) ?_) | (with_reducible refine below_call (by with_reducible assumption) ?_))))).mono ?_; rintro e w6 ⟨rfl, hb6⟩)
          | (go_at_call 47; refine (HPU.out _).mono ?_; rintro e w7 ⟨rfl, rfl⟩))
        go_roundg (22 - (k + 1))
        case measure => omega
        case rel => exact ⟨k + 1, by go_num, by omega, by omega, (show Below w.heap.size w _ from below_call hb6 hbe), (show Sl _ _ _ _ _ from HSL2.out.below hb6), (show _ = _ from (hb6.block _ (Array.getElem?_eq_some_iff.1 HRO2.out).1).trans HRO2.out), HFD3.out⟩
    · obtain rfl : k = 22 := by omega
      have h := HFD.out
      rw [List.drop_eq_nil_of_le (by decide)] at h
      cases h
end Go.Proofs.YtbnelgniekcjdaaGreatDoor

/- The lexer's one token, plainly. -/
namespace Go.Proofs.YtbnelgniekcjdaaGreatDoor
open Go.RowKit Cap
set_option maxRecDepth 1000000

theorem signL_len {q s0 : List UInt8} (h : signL q = some s0) : 1 ≤ s0.length ∧ s0.length ≤ q.length := by
  unfold signL at h
  have h1 := List.mem_of_find?_eq_some h
  have h2 := List.find?_some h
  have h3 : ∀ x ∈ signs2 ++ signs1, 1 ≤ x.length := by decide
  exact ⟨h3 _ h1, (List.isPrefixOf_iff_prefix.1 h2).length_le⟩
theorem oneS_len {q : List UInt8} {t : Tok} {n : Nat} (h : oneS q = some (t, n)) : 1 ≤ n ∧ n ≤ q.length ∧ t.pos = 0 := by
  unfold oneS at h
  split at h
  · cases h
  · rename_i c q'
    split at h
    · rename_i hl
      simp only at h
      split at h
      · cases h
      · cases h
        refine ⟨?_, take_while_le _ _, rfl⟩
        rw [List.takeWhile_cons_of_pos (by rw [hl]; rfl)]
        simp
    · split at h
      · rename_i hd
        simp only at h
        split at h
        · cases h
        · cases h
          refine ⟨?_, take_while_le _ _, rfl⟩
          rw [List.takeWhile_cons_of_pos hd]
          simp
      · split at h
        · cases h
        · rename_i s0 hs
          cases h
          exact ⟨(signL_len hs).1, (signL_len hs).2, rfl⟩
theorem one_c (xb : Nat) (s : ByteArray) (a : Nat) (w : World) (h : Sc xb s a w) (hs : s.size ≤ 70000) (hG : GL w) (t : Tok) (n : Nat) (ho : oneS (s.data.toList.drop a) = some (t, n)) :
    Calls Tryz.prog 30 #[.pointer (some ⟨xb, 0, none⟩)] w fun e w' => e = .returned (.tuple #[tokV t, .bool true]) ∧ Ch xb w w' ∧ Sc xb s (a + n) w' := by
  obtain ⟨q, hq⟩ : ∃ q, s.data.toList.drop a = q := ⟨_, rfl⟩
  rw [hq] at ho
  have hat : ∀ m, (q.drop m).head? = s.data.toList[a + m]? := fun m => by rw [← hq, List.head?_drop, List.getElem?_drop]
  unfold oneS at ho
  split at ho
  · cases ho
  · rename_i c q'
    have hc : s.data.toList[a]? = some c := by
      have := hat 0
      simpa using this.symm
    split at ho
    · rename_i hl
      simp only at ho
      split at ho
      · cases ho
      · rename_i hno
        cases ho
        simp only [not_or] at hno
        refine one_word xb s a w h hs c hc hl _ (by rw [hq]; rfl) (by have := hno.1; omega) ?_
        rw [← hat]
        exact hno.2
    · rename_i hl
      split at ho
      · rename_i hd
        simp only at ho
        split at ho
        · cases ho
        · rename_i hno
          cases ho
          simp only [not_or] at hno
          refine one_num xb s a w h hs c hc (by simpa using hl) hd _ (by rw [hq]) (by have := hno.1; omega) ?_ ?_
          · rw [← hat]; exact hno.2.2
          · rw [← hat]; exact hno.2.1
      · rename_i hd
        split at ho
        · cases ho
        · rename_i s0 hs0
          cases ho
          exact one_sign xb s a w h hs hG c hc (by simpa using hl) (by simpa using hd) s0 (by rw [hq]; exact hs0)
theorem info_tok : InfoIs Tryz.prog 38 (.agg #[.int .i64 0, .string ⟨#[]⟩, .int .i64 0, .int .i64 0, .int .i64 0]) 5 48 := by unfold InfoIs; kernel_rfl
theorem one_Tok (t : Tok) : ∀ u ∈ encTok t, u.oneCell' = true := fun u hu => by
  simp [encTok] at hu
  rcases hu with rfl | rfl | rfl | rfl | rfl <;> rfl
end Go.Proofs.YtbnelgniekcjdaaGreatDoor
