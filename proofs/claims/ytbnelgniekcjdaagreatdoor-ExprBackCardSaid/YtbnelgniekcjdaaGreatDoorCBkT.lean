/- What is shown is short; what is read has texts that tokens have; plainly. -/
import Derived.Test.YtbnelgniekcjdaaGreatDoorCBkS
import Derived.Test.YtbnelgniekcjdaaGreatDoorCEPLaw2
import Derived.Test.YtbnelgniekcjdaaGreatDoorCFCheck
set_option linter.unusedSimpArgs false
set_option linter.unusedVariables false
namespace Go.Proofs.YtbnelgniekcjdaaGreatDoor
open Go.RowKit Cap
theorem prt0 {p : Prt} (h1 : p.s.size ≤ 140737488351232) (h2 : p.f.size ≤ 140737488351232) : PrtOk p := ⟨h1, h2⟩
theorem e0 : (⟨#[]⟩ : ByteArray).size ≤ 140737488351232 := by decide
/-- The parts' texts are in reach. -/
def TxtP (f : Nat → PR) : Prop := ∀ a b y, f a = .ok b y → ∀ p ∈ y, PrtOk p
def SmallT (l : List Tok) : Prop := ∀ t ∈ l, t.s.size ≤ 140737488351232
theorem txt_snoc {z : List Prt} {q : Prt} (h : ∀ p ∈ z, PrtOk p) (hq : PrtOk q) : ∀ p ∈ z ++ [q], PrtOk p := fun p hp => by
  rcases List.mem_append.1 hp with hp | hp
  · exact h p hp
  · rw [List.mem_singleton.1 hp]
    exact hq
theorem txt_app {x y : List Prt} (h : ∀ p ∈ x, PrtOk p) (h' : ∀ p ∈ y, PrtOk p) : ∀ p ∈ x ++ y, PrtOk p := fun p hp => by
  rcases List.mem_append.1 hp with hp | hp
  · exact h p hp
  · exact h' p hp
theorem rowGo_txt {l : List Tok} {inner : Nat → PR} {row : List Nat} (hi : TxtP inner) : ∀ f, TxtP (rowGo l inner row f)
  | 0, a, b, y, h => by cases h; intro p hp; cases hp
  | f + 1, a, b, y, h => by
    rw [rowGo] at h
    split at h
    · cases h
      intro p hp
      cases hp
    · obtain ⟨d, y1, y2, h1, h2, rfl⟩ := Cap.then_ok h
      obtain ⟨z, h3, rfl⟩ := put_ok h1
      exact txt_app (txt_snoc (hi _ _ _ h3) (prt0 e0 e0)) (rowGo_txt hi f _ _ _ h2)
theorem rowP_txt {l : List Tok} {inner : Nat → PR} (row : List Nat) (hi : TxtP inner) : TxtP (rowP l inner row) := by
  intro a b y h
  obtain ⟨d, y1, y2, h1, h2, rfl⟩ := Cap.then_ok h
  exact txt_app (hi _ _ _ h1) (rowGo_txt hi _ _ _ _ h2)
theorem foldl_txt {l : List Tok} : ∀ (rs : List (List Nat)) {un : Nat → PR}, TxtP un → TxtP (rs.foldl (rowP l) un)
  | [], _, h => h
  | r :: rs, _, h => foldl_txt rs (rowP_txt r h)
theorem within_txt {l : List Tok} {or : Option (Nat → PR)} (ho : ∀ f, or = some f → TxtP f) (s t : ByteArray) : TxtP (withinP l or s t) := by
  intro a b y h
  unfold withinP at h
  split at h
  · cases h
  · cases or with
    | none => cases h
    | some f =>
      obtain ⟨d, y1, y2, h1, h2, rfl⟩ := Cap.then_ok h
      obtain ⟨rfl, rfl, _⟩ := need_ok h2
      rw [List.append_nil]
      exact ho f rfl _ _ _ h1
theorem named_txt {l : List Tok} (hl : SmallT l) {or : Option (Nat → PR)} (ho : ∀ f, or = some f → TxtP f) (s : ByteArray) (hs : s.size ≤ 140737488351232) : TxtP (nmdP l or s) := by
  intro a b y h
  unfold nmdP at h
  split at h
  · obtain ⟨z, h1, rfl⟩ := put_ok h
    exact txt_snoc (within_txt ho _ _ _ _ _ h1) (prt0 hs e0)
  · split at h
    · split at h
      · rename_i t ht
        split at h
        · cases h
          intro p hp
          rw [List.mem_singleton.1 hp]
          exact prt0 hs (hl t (List.mem_of_getElem? ht))
        · cases h
      · cases h
    · cases h
      intro p hp
      rw [List.mem_singleton.1 hp]
      exact prt0 hs e0
theorem prim_txt {l : List Tok} (hl : SmallT l) {or : Option (Nat → PR)} (ho : ∀ f, or = some f → TxtP f) : TxtP (primP l or) := by
  intro a b y h
  unfold primP at h
  split at h
  · exact within_txt ho _ _ _ _ _ h
  · rename_i t ht
    have hts := hl t (List.mem_of_getElem? ht)
    split at h
    · cases h
      intro p hp
      rw [List.mem_singleton.1 hp]
      exact prt0 e0 e0
    · split at h
      · cases h
        intro p hp
        rw [List.mem_singleton.1 hp]
        exact prt0 e0 e0
      · split at h
        · cases h
          intro p hp
          rw [List.mem_singleton.1 hp]
          exact prt0 e0 e0
        · split at h
          · obtain ⟨z, h1, rfl⟩ := put_ok h
            exact txt_snoc (within_txt ho _ _ _ _ _ h1) (prt0 e0 e0)
          · split at h
            · exact named_txt hl ho _ hts _ _ _ h
            · exact within_txt ho _ _ _ _ _ h
theorem unary_txt {l : List Tok} (hl : SmallT l) {un or : Option (Nat → PR)} (hu : ∀ f, un = some f → TxtP f) (ho : ∀ f, or = some f → TxtP f) : TxtP (unaryP l un or) := by
  intro a b y h
  have key : ∀ (n : Int), (match un with | none => PR.no a 2 | some f => (f (a + 1)).put (opP n)) = .ok b y → ∀ p ∈ y, PrtOk p := by
    intro n hp
    cases un with
    | none => cases hp
    | some f =>
      obtain ⟨z, h1, rfl⟩ := put_ok hp
      exact txt_snoc (hu f rfl _ _ _ h1) (prt0 e0 e0)
  unfold unaryP at h
  split at h
  · exact key _ h
  · split at h
    · exact key _ h
    · exact prim_txt hl ho _ _ _ h
theorem un_txt {l : List Tok} (hl : SmallT l) : ∀ d, TxtP (unP l d)
  | 0 => unary_txt hl (fun _ h => by cases h) (fun _ h => by cases h)
  | d + 1 => unary_txt hl (fun f h => by cases h; exact un_txt hl d) (fun f h => by cases h; exact foldl_txt rows7 (un_txt hl d))
theorem parse_txt {l : List Tok} (hl : SmallT l) {a : Int} {y : List Prt} {n : Int} (h : parseP l a = .ok y n) : ∀ p ∈ y, PrtOk p := by
  unfold parseP at h
  split at h
  · cases h
  · split at h
    · cases h
    · rename_i b' y' h1
      split at h
      · cases h
      · cases h
        exact foldl_txt rows7 (un_txt hl 200) _ _ _ h1
end Go.Proofs.YtbnelgniekcjdaaGreatDoor
namespace Cap
open Go Go.RowKit
theorem check_60 {y : List Prt} (hl : y.length ≤ 500) (h : checkX y ≠ 0) : checkX y = 60 := by
  unfold checkX at *
  rw [if_neg (by omega)] at *
  split at h
  · rename_i h2
    rw [if_pos h2]
  · exact absurd rfl h
theorem showE_len : ∀ T : Ex, T.Ok → (∀ p ∈ T.flat, mayP p = true) → (showE T).1.length + 2 ≤ 5 * T.flat.length
  | .leaf p, hT, hm => by
    have hmp := hm p (by simp [Ex.flat])
    have h0 : takesE p = 0 := by rw [← Go.Proofs.YtbnelgniekcjdaaGreatDoor.takesT_E hmp]; exact hT
    have := showP_len p hmp [] (by rw [h0]; rfl)
    show (showP p []).1.length + 2 ≤ 5 * 1
    have e : totS [] = 0 := rfl
    omega
  | .un p a, hT, hm => by
    have hmp := hm p (by simp [Ex.flat])
    have h0 : takesE p = 1 := by rw [← Go.Proofs.YtbnelgniekcjdaaGreatDoor.takesT_E hmp]; exact hT.1
    have := showP_len p hmp [showE a] (by rw [h0]; rfl)
    have ih := showE_len a hT.2 (fun q hq => hm q (by simp [Ex.flat, hq]))
    have e : totS [showE a] = (showE a).1.length + 2 + 0 := rfl
    show (showP p [showE a]).1.length + 2 ≤ 5 * (a.flat ++ [p]).length
    rw [List.length_append, List.length_singleton]
    omega
  | .bin p a b, hT, hm => by
    have hmp := hm p (by simp [Ex.flat])
    have h0 : takesE p = 2 := by rw [← Go.Proofs.YtbnelgniekcjdaaGreatDoor.takesT_E hmp]; exact hT.1
    have := showP_len p hmp [showE a, showE b] (by rw [h0]; rfl)
    have iha := showE_len a hT.2.1 (fun q hq => hm q (by simp [Ex.flat, hq]))
    have ihb := showE_len b hT.2.2 (fun q hq => hm q (by simp [Ex.flat, hq]))
    have e : totS [showE a, showE b] = (showE a).1.length + 2 + ((showE b).1.length + 2 + 0) := rfl
    show (showP p [showE a, showE b]).1.length + 2 ≤ 5 * (a.flat ++ b.flat ++ [p]).length
    rw [List.length_append, List.length_append, List.length_singleton]
    omega
def Sm (l : List Tok) : Prop := ∀ t ∈ l, t.s.size ≤ 140737488351232
theorem Sm.app {x y : List Tok} (h : Sm x) (h' : Sm y) : Sm (x ++ y) := fun t ht => by
  rcases List.mem_append.1 ht with ht | ht
  · exact h t ht
  · exact h' t ht
theorem Sm.tok {s : ByteArray} (h : s.size ≤ 140737488351232) {l : List Tok} (hl : Sm l) : Sm (tokOf s :: l) := fun t ht => by
  rcases List.mem_cons.1 ht with rfl | ht
  · exact h
  · exact hl t ht
theorem Sm.nil : Sm [] := fun t ht => by cases ht
theorem Sm.inner {s : Sh} (h : Sm s.1) : Sm (innerT s) := by
  unfold innerT
  split
  · exact Sm.tok (by decide) (h.app (Sm.tok (by decide) Sm.nil))
  · exact h
theorem sz_sign (n : Nat) : (signAt n).size ≤ 140737488351232 := by
  by_cases h : n < 17
  · have hk : (List.range 17).all (fun i => decide ((signAt i).size ≤ 140737488351232)) = true := by decide
    have := List.all_eq_true.1 hk n (List.mem_range.2 h)
    simpa using this
  · have : signAt n = ⟨#[]⟩ := by
      unfold signAt
      rw [List.getD_eq_getElem?_getD, List.getElem?_eq_none (show signTxt.length ≤ n from by show 17 ≤ n; omega)]
      rfl
    rw [this]
    decide
theorem showP_small (p : Prt) (hp : p.s.size ≤ 140737488351232 ∧ p.f.size ≤ 140737488351232) (top : List Sh) (ht : ∀ s ∈ top, Sm s.1) : Sm (showP p top).1 := by
  have hg : ∀ i, Sm (top.getD i ([], false)).1 := fun i => by
    rw [List.getD_eq_getElem?_getD]
    cases h : top[i]? with
    | none => exact Sm.nil
    | some s => exact ht s (List.mem_of_getElem? h)
  unfold showP
  split
  · exact Sm.tok (by unfold boolTxt; split <;> decide) Sm.nil
  split
  · intro t h
    rw [List.mem_singleton.1 h]
    exact Go.Proofs.YtbnelgniekcjdaaGreatDoor.e0
  split
  · exact Sm.tok hp.1 Sm.nil
  split
  · exact Sm.tok hp.1 (Sm.tok (by decide) (Sm.tok hp.2 Sm.nil))
  split
  · exact Sm.tok hp.1 (Sm.tok (by decide) ((hg 0).app (Sm.tok (by decide) Sm.nil)))
  split
  · exact Sm.tok (by unfold convB; repeat' split
                     all_goals decide) (Sm.tok (by decide) ((hg 0).app (Sm.tok (by decide) Sm.nil)))
  split
  · exact Sm.tok (sz_sign _) (hg 0).inner
  · exact (hg 0).inner.app (Sm.tok (sz_sign _) (hg 1).inner)
theorem showE_small : ∀ T : Ex, (∀ p ∈ T.flat, p.s.size ≤ 140737488351232 ∧ p.f.size ≤ 140737488351232) → Sm (showE T).1
  | .leaf p, hm => showP_small p (hm p (by simp [Ex.flat])) [] (fun s hs => by cases hs)
  | .un p a, hm => showP_small p (hm p (by simp [Ex.flat])) [showE a] (fun s hs => by
    rw [List.mem_singleton.1 hs]
    exact showE_small a (fun q hq => hm q (by simp [Ex.flat, hq])))
  | .bin p a b, hm => showP_small p (hm p (by simp [Ex.flat])) [showE a, showE b] (fun s hs => by
    simp only [List.mem_cons, List.not_mem_nil, or_false] at hs
    rcases hs with rfl | rfl
    · exact showE_small a (fun q hq => hm q (by simp [Ex.flat, hq]))
    · exact showE_small b (fun q hq => hm q (by simp [Ex.flat, hq])))
/-- What parts are shown as: short, its texts in reach. -/
theorem showL_ok {x : List Prt} (h : checkX x = 0) : (showL x).length ≤ 2500 ∧ Sm (showL x) := by
  obtain ⟨hT, hx⟩ := tree_in h
  obtain ⟨T, hTe⟩ : ∃ T, treeL x = T := ⟨_, rfl⟩
  rw [hTe] at hT hx
  subst hx
  obtain ⟨g1, g2, g3⟩ := (checkX_tree hT).1 h
  have hs : showL T.flat = (showE T).1 := by
    have e := showGo_flat T [] [] hT (fun p hp => Go.Proofs.YtbnelgniekcjdaaGreatDoor.takesT_E (g3 p hp))
    rw [List.append_nil] at e
    unfold showL
    rw [e]
    rfl
  rw [hs]
  have := showE_len T hT g3
  exact ⟨by omega, showE_small T (fun p hp => by have h := Go.Proofs.YtbnelgniekcjdaaGreatDoor.may_ok (g3 p hp); exact ⟨h.1, h.2⟩)⟩
end Cap
