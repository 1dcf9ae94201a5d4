/- The lexer's numbers and blanks, plainly: based, skip. -/
import Derived.Test.YtbnelgniekcjdaaGreatDoorCLexC
set_option linter.unusedSimpArgs false
set_option linter.unusedVariables false
namespace Go.Proofs.YtbnelgniekcjdaaGreatDoor
open Go.RowKit Cap
set_option maxRecDepth 1000000

def bases3 : List Nat := [2, 8, 16]
theorem extract_all (s : ByteArray) (a : Nat) : (s.extract a s.size).data.toList = s.data.toList.drop a := by
  rw [ByteArray.data_extract, Array.toList_extract]
  simp [List.extract, List.take_of_length_le]
theorem no_base {l : List UInt8} {ds : List UInt8} (hd : ∀ d ∈ ds, isDig d = true) (h : (l.drop (l.takeWhile isDig).length).head? ≠ some 35) : Lib.hasPrefix l (ds ++ [35]) = false := by
  cases hp : Lib.hasPrefix l (ds ++ [35]) with
  | false => rfl
  | true =>
    exfalso
    unfold Lib.hasPrefix at hp
    obtain ⟨t, ht⟩ := List.isPrefixOf_iff_prefix.1 hp
    apply h
    rw [← ht]
    have : (ds ++ [35] ++ t).takeWhile isDig = ds := by
      rw [List.append_assoc, List.takeWhile_append_of_pos hd]
      rw [List.singleton_append, List.takeWhile_cons_of_neg (by decide), List.append_nil]
    rw [this, List.append_assoc, List.drop_left]
    rfl
theorem dec_dig (n : Nat) : ∀ d ∈ Lib.decDigits n, isDig d = true := by
  have h9 : ∀ u, u < 10 → isDig (UInt8.ofNat (48 + u)) = true := by decide
  induction n using Nat.strongRecOn with
  | ind n ih =>
    rw [Lib.decDigits]
    intro d hd
    split at hd
    · rename_i h
      rw [List.mem_singleton] at hd
      rw [hd]
      exact h9 n h
    · rename_i h
      rcases List.mem_append.1 hd with h1 | h1
      · exact ih (n / 10) (by omega) d h1
      · rw [List.mem_singleton] at h1
        rw [h1]
        exact h9 (n % 10) (by omega)
theorem dec_len (n : Nat) (h : n < 100) : (Lib.decDigits n).length ≤ 2 := by
  rw [Lib.decDigits]
  split
  · simp
  · rw [Lib.decDigits]
    split
    · simp
    · omega
set_option maxHeartbeats 8000000 in
theorem based_c (xb : Nat) (s : ByteArray) (a : Nat) (w : World) (h : Sc xb s a w) (hs : s.size ≤ 70000) (ha : a ≤ s.size) (dl : List UInt8) (hdl : dl = (s.data.toList.drop a).takeWhile isDig) (hne : dl ≠ []) (hmax : decL dl ≤ 2147483648)
    (hus : s.data.toList[a + dl.length]? ≠ some 95) (hsh : s.data.toList[a + dl.length]? ≠ some 35) :
    Calls Tryz.prog 53 #[.pointer (some ⟨xb, 0, none⟩)] w fun e w' => e = .returned (.tuple #[.int .i64 (decL dl : Nat), .bool true]) ∧ Ch xb w w' ∧ Sc xb s (a + dl.length) w' := by
  have hxlt := (Array.getElem?_eq_some_iff.1 h).1
  have HRE := Lib.hid (fun (W : World) (hW : Below w.heap.size w W) => rest_c xb s a W (h.below hW) ha)
  have HDG := Lib.hid (fun (W : World) (hW : Below w.heap.size w W) => digits_c xb s a W (h.below hW) hs dl hdl hne hmax hus)
  have HCP := Lib.hid (show ∀ (W : World) (i : Nat), i < 100 → Calls Tryz.prog 77 #[.string (s.extract a s.size), .string (⟨(Lib.decDigits i).toArray⟩ ++ ⟨#[35]⟩)] W fun e w' => e = .returned (.tuple #[.string ⟨(Lib.trimPrefix (s.data.toList.drop a) (Lib.decDigits i ++ [35])).toArray⟩, .bool false]) ∧ w' = W from fun W i hi => by
    have hc := Any.strings_CutPrefix Tryz.cutprefix (s.extract a s.size) (⟨(Lib.decDigits i).toArray⟩ ++ ⟨#[35]⟩) W
    rw [extract_all] at hc
    have e : (⟨(Lib.decDigits i).toArray⟩ ++ ⟨#[35]⟩ : ByteArray).data.toList = Lib.decDigits i ++ [35] := by simp [ByteArray.data_append]
    rw [e] at hc
    rw [no_base (l := s.data.toList.drop a) (ds := Lib.decDigits i) (dec_dig i) (by
      rw [← hdl, List.head?_drop, List.getElem?_drop]
      exact hsh)] at hc
    exact hc)
  have HIT := Lib.hid (show ∀ (W : World) (i : Nat), i < 100 → Calls Tryz.prog 78 #[.int .i64 i] W fun e w' => e = .returned (.string ⟨(Lib.decDigits i).toArray⟩) ∧ w' = W from fun W i hi => Any.strconv_Itoa_small Tryz.itoa i hi W)
  have HB := Lib.hid (show ∀ k, k < 3 → ∃ i : Nat, bases3[k]? = some i ∧ i < 100 from by decide)
  clear hdl hne hmax hus hsh h
  have hlit : ∀ W : World, Sl encI 1 (W.alloc (.cells #[.int .i64 2, .int .i64 8, .int .i64 16] 3)) (.slice (some ⟨W.heap.size, 0, none⟩) 3 3) (bases3.map Int.ofNat) := fun W => by
    have h := sl_ints (w := W.alloc (.cells #[.int .i64 2, .int .i64 8, .int .i64 16] 3)) (bk := W.heap.size) (row := bases3.map Int.ofNat) (T := 3) (fr := (0, 0)) (heap_alloc_new _ _) (by decide)
    exact h
  go_enter Tryz.func53, Tryz.ntmps53
  go_upto_region 2 with fail
  go_loopg [12] 3 (fun gg s12 wr => ∃ k : Nat, s12 = .int .i64 k ∧ k ≤ 3 ∧ 3 - k ≤ gg ∧ Aside (Below w.heap.size w wr) ∧ Aside (Sl encI 1 wr (.slice (some ⟨w.heap.size, 0, none⟩) 3 3) (bases3.map Int.ofNat)))
  case atStart => exact ⟨0, rfl, Nat.zero_le _, by omega, (show Below w.heap.size w _ from by (repeat' (first | (with_reducible exact Below.refl _ _) | (with_reducible refine below_alloc ?_) | (with_reducible refine below_drew ?_) | (with_reducible refine below_drewN ?_) | (with_reducible refine below_set (by first | (simp; done) | (simp; omega)) ?_) | (with_reducible refine below_call (by with_reducible assumption) ?_)))), hlit w⟩
  case round =>
    obtain ⟨k, rfl, hk, hg, HBE, HSL⟩ := hrel
    have hbe := HBE.out
    have hk0 : (0 : Int) ≤ (k : Int) := Int.natCast_nonneg _
    by_cases hlt : k < 3
    · obtain ⟨i, hi, hi100⟩ := HB.out k hlt
      obtain ⟨A, c, he, _, _, hsl⟩ := HSL.out
      injection he with hA h3 h4
      clear h3 h4
      subst hA
      obtain ⟨b, off, hbo, hb, hx⟩ := hsl k (Int.ofNat i) (by rw [List.getElem?_map, hi]; rfl)
      injection hbo with hbo
      injection hbo with hb1 ho1 _
      subst hb1 ho1
      have e0 : wr.cell? ⟨w.heap.size, k, none⟩ = some (.int .i64 (i : Int)) := by simpa using hx 0 _ rfl
      have hltz : (k : Int) < 3 := by omega
      have hi0 : (0 : Int) ≤ (i : Int) := Int.natCast_nonneg _
      have HCPi := Lib.hid (fun W => HCP.out W i hi100)
      have HITi := Lib.hid (fun W => HIT.out W i hi100)
      have HSL2 := HSL
      have hdd := dec_len i hi100
      generalize Lib.decDigits i = dd at HCPi HITi hdd
      have hddz : ((⟨dd.toArray⟩ : ByteArray).size : Int) ≤ 2 := by simp [ByteArray.size]; omega
      clear hx hi hsl
      go_wp2_with (first
        | (go_at_call 46; refine (HRE.out _ (by (repeat' (first | (with_reducible exact Below.refl _ _) | (with_reducible refine below_alloc ?_) | (with_reducible refine below_drew ?_) | (with_reducible refine below_drewN ?_) | (with_reducible refine below_set (by first | (simp; done) | (simp; omega)) ?_) | (with_reducible refine below_call (by with_reducible assumption) ?_))))).mono ?_; rintro e w1 ⟨rfl, hb1⟩)
        | (go_at_call 78; refine (HITi.out _).mono ?_; rintro e w2 ⟨rfl, rfl⟩)
        | (go_at_call 77; refine (HCPi.out _).mono ?_; rintro e w3 ⟨rfl, rfl⟩))
      go_roundg (3 - (k + 1))
      case measure => omega
      case rel => exact ⟨k + 1, by go_num, by omega, by omega, (show Below w.heap.size w _ from below_call hb1 hbe), (show Sl _ _ _ _ _ from HSL2.out.below hb1)⟩
    · obtain rfl : k = 3 := by omega
      go_wp2_with (first | (go_at_call 76; refine (HDG.out _ (by (repeat' (first | (with_reducible exact Below.refl _ _) | (with_reducible refine below_alloc ?_) | (with_reducible refine below_drew ?_) | (with_reducible refine below_drewN ?_) | (with_reducible refine below_set (by first | (simp; done) | (simp; omega)) ?_) | (with_reducible refine below_call (by with_reducible assumption) ?_))))).mono ?_; rintro e w1 ⟨rfl, hc1, hs1⟩))
      go_ret2
      exact ⟨rfl, (Ch.of hbe).trans hc1, hs1⟩
end Go.Proofs.YtbnelgniekcjdaaGreatDoor

/- The lexer's blanks, plainly: skip. -/
namespace Go.Proofs.YtbnelgniekcjdaaGreatDoor
open Go.RowKit Cap
set_option maxRecDepth 1000000

theorem trim_bl (l : List UInt8) : Lib.trimLeftS l [32, 9, 10, 13] = l.dropWhile isBl := by
  unfold Lib.trimLeftS
  congr 1
  funext c
  have h : ∀ n, n < 256 → ([32, 9, 10, 13] : List UInt8).contains (UInt8.ofNat n) = isBl (UInt8.ofNat n) := by decide
  have := h c.toNat c.toNat_lt
  rwa [UInt8.ofNat_toNat] at this
theorem drop_back {q : List UInt8} : ∀ (L P : List UInt8), L = P ++ q → L.drop (L.length - q.length) = q := by
  rintro L P rfl
  simp
theorem trim_c (s : ByteArray) (W : World) : Calls Tryz.prog 45 #[.string s, .string ⟨#[32, 9, 10, 13]⟩] W fun e w' => e = .returned (.string ⟨(s.data.toList.dropWhile isBl).toArray⟩) ∧ Below W.heap.size W w' := by
  have h := Any.strings_TrimLeft_laid Tryz.trimleft (by kernel_rfl) s ⟨#[32, 9, 10, 13]⟩ W (by decide) (Go.Proofs.ascii_of_all (by decide))
  rw [trim_bl] at h
  exact h
theorem hasp_c (s p : ByteArray) (W : World) : Calls Tryz.prog 47 #[.string s, .string p] W fun e w' => e = .returned (.bool (p.data.toList.isPrefixOf s.data.toList)) ∧ w' = W := Any.strings_HasPrefix Tryz.hasprefix s p W
set_option maxHeartbeats 8000000 in
theorem skip_c (xb : Nat) (s : ByteArray) (a : Nat) (w : World) (h : Sc xb s a w) (hs : s.size ≤ 70000) (ha : a ≤ s.size) (q : List UInt8) (hq : q = (s.data.toList.drop a).dropWhile isBl) (hn : isNote q = false) :
    Calls Tryz.prog 29 #[.pointer (some ⟨xb, 0, none⟩)] w fun e w' => e = .returned (.bool true) ∧ Ch xb w w' ∧ Sc xb s (s.size - q.length) w' := by
  have hxlt := (Array.getElem?_eq_some_iff.1 h).1
  have hql : q.length ≤ s.size - a := by
    rw [hq]
    have h1 := (List.dropWhile_suffix isBl (l := s.data.toList.drop a)).length_le
    rw [List.length_drop] at h1
    simpa using h1
  have HQ := Lib.hid (show s.data.toList.drop (s.size - q.length) = q by
    obtain ⟨t, ht⟩ := List.dropWhile_suffix isBl (l := s.data.toList.drop a)
    rw [← hq] at ht
    have h2 : s.data.toList = (s.data.toList.take a ++ t) ++ q := by rw [List.append_assoc, ht, List.take_append_drop]
    have h3 := drop_back _ _ h2
    rwa [show s.data.toList.length = s.size by simp] at h3)
  have HRE := Lib.hid (fun (W : World) (hW : Below w.heap.size w W) => rest_c xb s a W (h.below hW) ha)
  have HTR := Lib.hid (show ∀ W : World, Calls Tryz.prog 45 #[.string (s.extract a s.size), .string ⟨#[32, 9, 10, 13]⟩] W fun e w' => e = .returned (.string ⟨q.toArray⟩) ∧ Below W.heap.size W w' from fun W => by
    have h := trim_c (s.extract a s.size) W
    rw [extract_all, ← hq] at h
    exact h)
  have HK := Lib.hid (show ∀ W, Below w.heap.size w W → W.cell? ⟨xb, 0, none⟩ = some (.string s) from fun W hW => (h.below hW).cells.1)
  have HH := Lib.hid h
  have hnz : ((⟨q.toArray⟩ : ByteArray).size : Int) = (q.length : Int) := by simp [ByteArray.size]
  have hqz : (q.length : Int) ≤ (s.size : Int) := by omega
  obtain ⟨n, hn'⟩ : ∃ n, s.size - q.length = n := ⟨_, rfl⟩
  have hnn : (s.size : Int) - (q.length : Int) = (n : Int) := by omega
  rw [hn'] at HQ ⊢
  have h1 : ([40, 42] : List UInt8).isPrefixOf q = false ∧ ([47, 47] : List UInt8).isPrefixOf q = false ∧ ([123] : List UInt8).isPrefixOf q = false := by
    unfold isNote at hn
    simp only [Bool.or_eq_false_iff] at hn
    exact ⟨hn.1.1, hn.1.2, hn.2⟩
  have HP := Lib.hid (show ∀ (W : World) (p : ByteArray), Calls Tryz.prog 47 #[.string (s.extract n s.size), .string p] W fun e w' => e = .returned (.bool (p.data.toList.isPrefixOf q)) ∧ w' = W from fun W p => by
    have h := hasp_c (s.extract n s.size) p W
    rw [extract_all, HQ.out] at h
    exact h)
  have HP1 := Lib.hid (fun W => h1.1 ▸ HP.out W ⟨#[40, 42]⟩)
  have HP2 := Lib.hid (fun W => h1.2.1 ▸ HP.out W ⟨#[47, 47]⟩)
  have HP3 := Lib.hid (fun W => h1.2.2 ▸ HP.out W ⟨#[123]⟩)
  have hns : n ≤ s.size := by omega
  have hwn : IntKind.i64.wrap (n : Int) = (n : Int) := IntWalk.i64_in _ (by omega)
  clear hn' hn h1 hq hql h HQ
  go_enter Tryz.func29, Tryz.ntmps29
  go_wp2
  go_step3
  go_wp2
  go_step3
  go_upto_region 1 with fail
  go_region_held3 (fun W => W.cell? ⟨xb, 0, none⟩ = some (.string s)) (first | exact (World.cell?_setCell_other _ _ _ _ (by simp)).trans (HK.out _ (by (repeat' (first | (with_reducible exact Below.refl _ _) | (with_reducible refine below_alloc ?_) | (with_reducible refine below_drew ?_) | (with_reducible refine below_drewN ?_) | (with_reducible refine below_set (by first | (simp; done) | (simp; omega)) ?_) | (with_reducible refine below_call (by with_reducible assumption) ?_))))) | exact HK.out _ (by (repeat' (first | (with_reducible exact Below.refl _ _) | (with_reducible refine below_alloc ?_) | (with_reducible refine below_drew ?_) | (with_reducible refine below_drewN ?_) | (with_reducible refine below_set (by first | (simp; done) | (simp; omega)) ?_) | (with_reducible refine below_call (by with_reducible assumption) ?_))))) (first | (go_at_call 46; refine (HRE.out _ (by (repeat' (first | (with_reducible exact Below.refl _ _) | (with_reducible refine below_alloc ?_) | (with_reducible refine below_drew ?_) | (with_reducible refine below_drewN ?_) | (with_reducible refine below_set (by first | (simp; done) | (simp; omega)) ?_) | (with_reducible refine below_call (by with_reducible assumption) ?_))))).mono ?_; rintro e w1 ⟨rfl, hb1⟩) | (go_at_call 45; refine (HTR.out _).mono ?_; rintro e w2 ⟨rfl, hb2⟩; obtain ⟨z0, z1, z2⟩ := (HH.out.below (show Below w.heap.size w w2 by (repeat' (first | (with_reducible exact Below.refl _ _) | (with_reducible refine below_alloc ?_) | (with_reducible refine below_drew ?_) | (with_reducible refine below_drewN ?_) | (with_reducible refine below_set (by first | (simp; done) | (simp; omega)) ?_) | (with_reducible refine below_call (by with_reducible assumption) ?_))))).cells))
  all_goals
    have hb2' : Below w.heap.size w w2 := by (repeat' (first | (with_reducible exact Below.refl _ _) | (with_reducible refine below_alloc ?_) | (with_reducible refine below_drew ?_) | (with_reducible refine below_drewN ?_) | (with_reducible refine below_set (by first | (simp; done) | (simp; omega)) ?_) | (with_reducible refine below_call (by with_reducible assumption) ?_)))
    have HS3 := Lib.hid ((HH.out.below hb2').set n)
    have HC3 := Lib.hid (show Ch xb w _ from .set (.of hb2') 1 (.int .i64 n))
    generalize w2.setCell ⟨xb, 1, none⟩ (.int .i64 n) = w3 at HS3 HC3 ⊢
    have HR3 := Lib.hid (fun (W : World) (hW : Below w3.heap.size w3 W) => rest_c xb s n W (HS3.out.below hW) hns)
    go_wp2_with (first
      | (go_at_call 46; refine (HR3.out _ (by (repeat' (first | (with_reducible exact Below.refl _ _) | (with_reducible refine below_alloc ?_) | (with_reducible refine below_drew ?_) | (with_reducible refine below_drewN ?_) | (with_reducible refine below_set (by first | (simp; done) | (simp; omega)) ?_) | (with_reducible refine below_call (by with_reducible assumption) ?_))))).mono ?_; rintro e w4 ⟨rfl, hb4⟩)
      | (go_at_call 47; first | (refine (HP1.out _).mono ?_; clear HP1; rintro e w5 ⟨rfl, rfl⟩) | (refine (HP2.out _).mono ?_; clear HP2; rintro e w6 ⟨rfl, rfl⟩) | (refine (HP3.out _).mono ?_; rintro e w7 ⟨rfl, rfl⟩)))
    rw [Exit.noGoto_ret]
    go_ret
    exact ⟨rfl, HC3.out.trans (.of (by (repeat' (first | (with_reducible exact Below.refl _ _) | (with_reducible refine below_alloc ?_) | (with_reducible refine below_drew ?_) | (with_reducible refine below_drewN ?_) | (with_reducible refine below_set (by first | (simp; done) | (simp; omega)) ?_) | (with_reducible refine below_call (by with_reducible assumption) ?_))))), HS3.out.below (by (repeat' (first | (with_reducible exact Below.refl _ _) | (with_reducible refine below_alloc ?_) | (with_reducible refine below_drew ?_) | (with_reducible refine below_drewN ?_) | (with_reducible refine below_set (by first | (simp; done) | (simp; omega)) ?_) | (with_reducible refine below_call (by with_reducible assumption) ?_))))⟩
end Go.Proofs.YtbnelgniekcjdaaGreatDoor
