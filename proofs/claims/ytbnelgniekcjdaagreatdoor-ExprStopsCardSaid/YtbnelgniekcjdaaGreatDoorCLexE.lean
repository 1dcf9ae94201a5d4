/- The lexer's blanks, plainly: skip. -/
import Derived.Test.YtbnelgniekcjdaaGreatDoorCLexD
set_option linter.unusedSimpArgs false
set_option linter.unusedVariables false
namespace Go.Proofs.YtbnelgniekcjdaaGreatDoor
open Go.RowKit Cap
set_option maxRecDepth 1000000

theorem trim_bl (l : List UInt8) : Lib.trimLeftS l [32, 9, 10, 13] = l.dropWhile isBl := by
  unfold Lib.trimLeftS
  congr 1
  funext c
  have h : ∀ n, n < 256 → ([32, 9, 10, 13] : List UInt8).contains (UInt8.ofNat n) = isBl (UInt8.ofNat n) := by decide
  have := h c.toNat c.toNat_lt
  rwa [UInt8.ofNat_toNat] at this
theorem drop_back {q : List UInt8} : ∀ (L P : List UInt8), L = P ++ q → L.drop (L.length - q.length) = q := by
  rintro L P rfl
  simp
theorem trim_c (s : ByteArray) (W : World) : Calls Tryz.prog 45 #[.string s, .string ⟨#[32, 9, 10, 13]⟩] W fun e w' => e = .returned (.string ⟨(s.data.toList.dropWhile isBl).toArray⟩) ∧ Below W.heap.size W w' := by
  have h := Any.strings_TrimLeft_laid Tryz.trimleft (by kernel_rfl) s ⟨#[32, 9, 10, 13]⟩ W (by decide) (Go.Proofs.ascii_of_all (by decide))
  rw [trim_bl] at h
  exact h
theorem hasp_c (s p : ByteArray) (W : World) : Calls Tryz.prog 47 #[.string s, .string p] W fun e w' => e = .returned (.bool (p.data.toList.isPrefixOf s.data.toList)) ∧ w' = W := Any.strings_HasPrefix Tryz.hasprefix s p W
set_option maxHeartbeats 8000000 in
theorem skip_c (xb : Nat) (s : ByteArray) (a : Nat) (w : World) (h : Sc xb s a w) (hs : s.size ≤ 70000) (ha : a ≤ s.size) (q : List UInt8) (hq : q = (s.data.toList.drop a).dropWhile isBl) (hn : isNote q = false) :
    Calls Tryz.prog 29 #[.pointer (some ⟨xb, 0, none⟩)] w fun e w' => e = .returned (.bool true) ∧ Ch xb w w' ∧ Sc xb s (s.size - q.length) w' := by
  have hxlt := (Array.getElem?_eq_some_iff.1 h).1
  have hql : q.length ≤ s.size - a := by
    rw [hq]
    have h1 := (List.dropWhile_suffix isBl (l := s.data.toList.drop a)).length_le
    rw [List.length_drop] at h1
    simpa using h1
  have HQ := Lib.hid (show s.data.toList.drop (s.size - q.length) = q by
    obtain ⟨t, ht⟩ := List.dropWhile_suffix isBl (l := s.data.toList.drop a)
    rw [← hq] at ht
    have h2 : s.data.toList = (s.data.toList.take a ++ t) ++ q := by rw [List.append_assoc, ht, List.take_append_drop]
    have h3 := drop_back _ _ h2
    rwa [show s.data.toList.length = s.size by simp] at h3)
  have HRE := Lib.hid (fun (W : World) (hW : Below w.heap.size w W) => rest_c xb s a W (h.below hW) ha)
  have HTR := Lib.hid (show ∀ W : World, Calls Tryz.prog 45 #[.string (s.extract a s.size), .string ⟨#[32, 9, 10, 13]⟩] W fun e w' => e = .returned (.string ⟨q.toArray⟩) ∧ Below W.heap.size W w' from fun W => by
    have h := trim_c (s.extract a s.size) W
    rw [extract_all, ← hq] at h
    exact h)
  have HK := Lib.hid (show ∀ W, Below w.heap.size w W → W.cell? ⟨xb, 0, none⟩ = some (.string s) from fun W hW => (h.below hW).cells.1)
  have HH := Lib.hid h
  have hnz : ((⟨q.toArray⟩ : ByteArray).size : Int) = (q.length : Int) := by simp [ByteArray.size]
  have hqz : (q.length : Int) ≤ (s.size : Int) := by omega
  obtain ⟨n, hn'⟩ : ∃ n, s.size - q.length = n := ⟨_, rfl⟩
  have hnn : (s.size : Int) - (q.length : Int) = (n : Int) := by omega
  rw [hn'] at HQ ⊢
  have h1 : ([40, 42] : List UInt8).isPrefixOf q = false ∧ ([47, 47] : List UInt8).isPrefixOf q = false ∧ ([123] : List UInt8).isPrefixOf q = false := by
    unfold isNote at hn
    simp only [Bool.or_eq_false_iff] at hn
    exact ⟨hn.1.1, hn.1.2, hn.2⟩
  have HP := Lib.hid (show ∀ (W : World) (p : ByteArray), Calls Tryz.prog 47 #[.string (s.extract n s.size), .string p] W fun e w' => e = .returned (.bool (p.data.toList.isPrefixOf q)) ∧ w' = W from fun W p => by
    have h := hasp_c (s.extract n s.size) p W
    rw [extract_all, HQ.out] at h
    exact h)
  have HP1 := Lib.hid (fun W => h1.1 ▸ HP.out W ⟨#[40, 42]⟩)
  have HP2 := Lib.hid (fun W => h1.2.1 ▸ HP.out W ⟨#[47, 47]⟩)
  have HP3 := Lib.hid (fun W => h1.2.2 ▸ HP.out W ⟨#[123]⟩)
  have hns : n ≤ s.size := by omega
  have hwn : IntKind.i64.wrap (n : Int) = (n : Int) := IntWalk.i64_in _ (by omega)
  clear hn' hn h1 hq hql h HQ
  go_enter Tryz.func29, Tryz.ntmps29
  go_wp2
  go_step3
  go_wp2
  go_step3
  go_upto_region 1 with fail
  go_region_held3 (fun W => W.cell? ⟨xb, 0, none⟩ = some (.string s)) (first | exact (World.cell?_setCell_other _ _ _ _ (by simp)).trans (HK.out _ (by (repeat' (first | (with_reducible exact Below.refl _ _) | (with_reducible refine below_alloc ?_) | (with_reducible refine below_drew ?_) | (with_reducible refine below_drewN ?_) | (with_reducible refine below_set (by first | (simp; done) | (simp; omega)) ?_) | (with_reducible refine below_call (by with_reducible assumption) ?_))))) | exact HK.out _ (by (repeat' (first | (with_reducible exact Below.refl _ _) | (with_reducible refine below_alloc ?_) | (with_reducible refine below_drew ?_) | (with_reducible refine below_drewN ?_) | (with_reducible refine below_set (by first | (simp; done) | (simp; omega)) ?_) | (with_reducible refine below_call (by with_reducible assumption) ?_))))) (first | (go_at_call 46; refine (HRE.out _ (by (repeat' (first | (with_reducible exact Below.refl _ _) | (with_reducible refine below_alloc ?_) | (with_reducible refine below_drew ?_) | (with_reducible refine below_drewN ?_) | (with_reducible refine below_set (by first | (simp; done) | (simp; omega)) ?_) | (with_reducible refine below_call (by with_reducible assumption) ?_))))).mono ?_; rintro e w1 ⟨rfl, hb1⟩) | (go_at_call 45; refine (HTR.out _).mono ?_; rintro e w2 ⟨rfl, hb2⟩; obtain ⟨z0, z1, z2⟩ := (HH.out.below (show Below w.heap.size w w2 by (repeat' (first | (with_reducible exact Below.refl _ _) | (with_reducible refine below_alloc ?_) | (with_reducible refine below_drew ?_) | (with_reducible refine below_drewN ?_) | (with_reducible refine below_set (by first | (simp; done) | (simp; omega)) ?_) | (with_reducible refine below_call (by with_reducible assumption) ?_))))).cells))
  all_goals
    have hb2' : Below w.heap.size w w2 := by (repeat' (first | (with_reducible exact Below.refl _ _) | (with_reducible refine below_alloc ?_) | (with_reducible refine below_drew ?_) | (with_reducible refine below_drewN ?_) | (with_reducible refine below_set (by first | (simp; done) | (simp; omega)) ?_) | (with_reducible refine below_call (by with_reducible assumption) ?_)))
    have HS3 := Lib.hid ((HH.out.below hb2').set n)
    have HC3 := Lib.hid (show Ch xb w _ from .set (.of hb2') 1 (.int .i64 n))
    generalize w2.setCell ⟨xb, 1, none⟩ (.int .i64 n) = w3 at HS3 HC3 ⊢
    have HR3 := Lib.hid (fun (W : World) (hW : Below w3.heap.size w3 W) => rest_c xb s n W (HS3.out.below hW) hns)
    go_wp2_with (first
      | (go_at_call 46; refine (HR3.out _ (by (repeat' (first | (with_reducible exact Below.refl _ _) | (with_reducible refine below_alloc ?_) | (with_reducible refine below_drew ?_) | (with_reducible refine below_drewN ?_) | (with_reducible refine below_set (by first | (simp; done) | (simp; omega)) ?_) | (with_reducible refine below_call (by with_reducible assumption) ?_))))).mono ?_; rintro e w4 ⟨rfl, hb4⟩)
      | (go_at_call 47; first | (refine (HP1.out _).mono ?_; clear HP1; rintro e w5 ⟨rfl, rfl⟩) | (refine (HP2.out _).mono ?_; clear HP2; rintro e w6 ⟨rfl, rfl⟩) | (refine (HP3.out _).mono ?_; rintro e w7 ⟨rfl, rfl⟩)))
    rw [Exit.noGoto_ret]
    go_ret
    exact ⟨rfl, HC3.out.trans (.of (by (repeat' (first | (with_reducible exact Below.refl _ _) | (with_reducible refine below_alloc ?_) | (with_reducible refine below_drew ?_) | (with_reducible refine below_drewN ?_) | (with_reducible refine below_set (by first | (simp; done) | (simp; omega)) ?_) | (with_reducible refine below_call (by with_reducible assumption) ?_))))), HS3.out.below (by (repeat' (first | (with_reducible exact Below.refl _ _) | (with_reducible refine below_alloc ?_) | (with_reducible refine below_drew ?_) | (with_reducible refine below_drewN ?_) | (with_reducible refine below_set (by first | (simp; done) | (simp; omega)) ?_) | (with_reducible refine below_call (by with_reducible assumption) ?_))))⟩
end Go.Proofs.YtbnelgniekcjdaaGreatDoor
