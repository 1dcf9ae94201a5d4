/- An expression is read as far as it goes, plainly: tokens behind it do not matter. -/
import Derived.Test.YtbnelgniekcjdaaGreatDoorCEPLaw
set_option linter.unusedSimpArgs false
set_option linter.unusedVariables false
namespace Cap
open Go Go.RowKit

/-- No expression goes on with what stands at a place. -/
structure StopAt (l : List Tok) (b : Nat) : Prop where
  row : ∀ row, row ∈ rows7 → opsAt l b row = 0
  open_ : isTok l b 3 ⟨#[91]⟩ = false
  dot : isTok l b 3 ⟨#[46]⟩ = false
/-- Two lists agree ahead of a place; at it too, or nothing goes on there. -/
def Agr (l l' : List Tok) (b : Nat) : Prop := (∀ i, i < b → l'[i]? = l[i]?) ∧ (l'[b]? = l[b]? ∨ StopAt l' b)
theorem Agr.lower {l l' : List Tok} {b c : Nat} (h : Agr l l' b) (hc : c ≤ b) : Agr l l' c := by
  rcases Nat.lt_or_ge c b with hlt | hge
  · exact ⟨fun i hi => h.1 i (by omega), .inl (h.1 c hlt)⟩
  · obtain rfl : c = b := by omega
    exact h
theorem isTok_eq {l l' : List Tok} {i : Nat} (h : l'[i]? = l[i]?) (k : Int) (s : ByteArray) : isTok l' i k s = isTok l i k s := by
  unfold isTok
  rw [h]
theorem opsAt_eq {l l' : List Tok} {i : Nat} (h : l'[i]? = l[i]?) : ∀ row, opsAt l' i row = opsAt l i row
  | [] => rfl
  | n :: r => by
    unfold opsAt isOpAt
    rw [isTok_eq h, isTok_eq h, isTok_eq h, isTok_eq h, opsAt_eq h r]
/-- What is read of one list is read of the other. -/
def Same (l l' : List Tok) (f f' : Nat → PR) : Prop := ∀ a b y, f a = .ok b y → Agr l l' b → f' a = .ok b y
theorem put_eq {r : PR} {p : Prt} {b : Nat} {y : List Prt} (h : r = .ok b y) : r.put p = .ok b (y ++ [p]) := by rw [h]; rfl
theorem then_eq {r : PR} {f : Nat → PR} {a b : Nat} {y z : List Prt} (h : r = .ok a y) (hf : f a = .ok b z) : r.then f = .ok b (y ++ z) := by
  rw [h]
  unfold PR.then
  simp only [hf]
theorem rowGo_same {l l' : List Tok} {inner inner' : Nat → PR} {row : List Nat} (hrow : row ∈ rows7) (hg : GoodP l inner) (hs : Same l l' inner inner') :
    ∀ f a b y, a ≤ l.length → l.length - a ≤ f → rowGo l inner row f a = .ok b y → Agr l l' b → ∀ f', l'.length - a ≤ f' → rowGo l' inner' row f' a = .ok b y := by
  have none_ : ∀ a b y, opsAt l a row = 0 → .ok a [] = PR.ok b y → Agr l l' b → ∀ f', rowGo l' inner' row f' a = .ok b y := by
    intro a b y h0 h hA f'
    injection h with h1 h2
    subst h1 h2
    refine rowGo_none ?_ f'
    rcases hA.2 with e | e
    · rw [opsAt_eq e, h0]
    · exact e.row row hrow
  intro f
  induction f with
  | zero =>
    intro a b y ha hf h hA f' _
    exact none_ a b y (opsAt_end (by omega)) h hA f'
  | succ f ih =>
    intro a b y ha hf h hA f' hf'
    rw [rowGo] at h
    by_cases h0 : opsAt l a row = 0
    · rw [if_pos h0] at h
      exact none_ a b y h0 h hA f'
    · rw [if_neg h0] at h
      obtain ⟨c, y1, y2, h1, h2, rfl⟩ := then_ok h
      obtain ⟨z, h3, rfl⟩ := put_ok h1
      obtain ⟨g1, g2, g3⟩ := hg _ _ _ h3
      obtain ⟨k1, k2, k3⟩ := rowGo_good hg f c b y2 g2 h2
      have ea : l'[a]? = l[a]? := hA.1 a (by omega)
      have h0' : opsAt l' a row ≠ 0 := by rw [opsAt_eq ea]; exact h0
      have hlt := opsAt_lt h0'
      obtain ⟨f', rfl⟩ : ∃ k, f' = k + 1 := ⟨f' - 1, by omega⟩
      rw [rowGo, if_neg h0', opsAt_eq ea]
      exact then_eq (put_eq (hs _ _ _ h3 (hA.lower k1))) (ih c b y2 g2 (by omega) h2 hA f' (by omega))
theorem rowP_same {l l' : List Tok} {inner inner' : Nat → PR} {row : List Nat} (hrow : row ∈ rows7) (hg : GoodP l inner) (hs : Same l l' inner inner') : Same l l' (rowP l inner row) (rowP l' inner' row) := by
  intro a b y h hA
  obtain ⟨c, y1, y2, h1, h2, rfl⟩ := then_ok h
  obtain ⟨g1, g2, g3⟩ := hg _ _ _ h1
  obtain ⟨k1, k2, k3⟩ := rowGo_good hg _ c b y2 g2 h2
  exact then_eq (hs _ _ _ h1 (hA.lower k1)) (rowGo_same hrow hg hs _ c b y2 g2 (Nat.le_refl _) h2 hA _ (Nat.le_refl _))
theorem foldl_same {l l' : List Tok} : ∀ (rs : List (List Nat)) {un un' : Nat → PR}, (∀ r, r ∈ rs → r ∈ rows7) → GoodP l un → Same l l' un un' → Same l l' (rs.foldl (rowP l) un) (rs.foldl (rowP l') un')
  | [], _, _, _, _, h => h
  | r :: rs, _, _, hr, hg, h => foldl_same rs (fun x hx => hr x (List.mem_cons_of_mem _ hx)) (rowP_good r hg) (rowP_same (hr r (List.mem_cons_self ..)) hg h)
theorem orP_same {l l' : List Tok} {un un' : Nat → PR} (hg : GoodP l un) (h : Same l l' un un') : Same l l' (orP l un) (orP l' un') := foldl_same rows7 (fun _ h => h) hg h
theorem within_same {l l' : List Tok} {or or' : Option (Nat → PR)} (hn : or = none → or' = none) (hg : ∀ f, or = some f → GoodP l f ∧ ∃ f', or' = some f' ∧ Same l l' f f') (from_ to : ByteArray) : Same l l' (withinP l or from_ to) (withinP l' or' from_ to) := by
  intro a b y h hA
  have hb := within_good (fun f hf => (hg f hf).1) _ _ h
  unfold withinP at h ⊢
  have ea := isTok_eq (hA.1 a (by omega)) 3 from_
  rw [ea]
  split at h
  · cases h
  · rename_i hf
    rw [if_neg hf]
    cases or with
    | none => cases h
    | some f =>
      obtain ⟨hgf, f', rfl, hs⟩ := hg f rfl
      simp only at h ⊢
      obtain ⟨c, y1, y2, h1, h2, rfl⟩ := then_ok h
      obtain ⟨rfl, rfl, h4⟩ := need_ok h2
      refine then_eq (hs _ _ _ h1 (hA.lower (by omega))) ?_
      unfold needP
      rw [isTok_eq (hA.1 c (by omega)), h4]
      rfl
theorem named_same {l l' : List Tok} {or or' : Option (Nat → PR)} (hn : or = none → or' = none) (hg : ∀ f, or = some f → GoodP l f ∧ ∃ f', or' = some f' ∧ Same l l' f f') (s : ByteArray) : Same l l' (nmdP l or s) (nmdP l' or' s) := by
  intro a b y h hA
  unfold nmdP at h
  split at h
  · rename_i h1
    obtain ⟨z, h2, rfl⟩ := put_ok h
    have hb := within_good (fun f hf => (hg f hf).1) _ _ h2
    unfold nmdP
    rw [isTok_eq (hA.1 a (by omega)), if_pos h1]
    exact put_eq (within_same hn hg _ _ a b z h2 hA)
  · rename_i h1
    split at h
    · rename_i h2
      split at h
      · rename_i t ht
        split at h
        · rename_i hk
          injection h with e1 e2
          subst e1 e2
          unfold nmdP
          rw [isTok_eq (hA.1 a (by omega)), if_neg h1, isTok_eq (hA.1 a (by omega)), if_pos h2, hA.1 (a + 1) (by omega), ht]
          simp only [hk, if_true]
        · cases h
      · cases h
    · rename_i h2
      injection h with e1 e2
      subst e1 e2
      unfold nmdP
      rcases hA.2 with e | e
      · rw [isTok_eq e, if_neg h1, isTok_eq e, if_neg h2]
      · rw [e.open_, e.dot, if_neg (by decide), if_neg (by decide)]
theorem prim_same {l l' : List Tok} {or or' : Option (Nat → PR)} (hn : or = none → or' = none) (hg : ∀ f, or = some f → GoodP l f ∧ ∃ f', or' = some f' ∧ Same l l' f f') : Same l l' (primP l or) (primP l' or') := by
  intro a b y h hA
  have hb := prim_good (fun f hf => (hg f hf).1) a b y h
  have ea := hA.1 a (by omega)
  unfold primP at h ⊢
  rw [ea]
  split at h
  · exact within_same hn hg _ _ a b y h hA
  · rename_i t ht
    split at h
    · rename_i h1; rw [if_pos h1]; exact h
    · rename_i h1
      rw [if_neg h1]
      split at h
      · rename_i h2; rw [if_pos h2]; exact h
      · rename_i h2
        rw [if_neg h2]
        split at h
        · rename_i h3; rw [if_pos h3]; exact h
        · rename_i h3
          rw [if_neg h3]
          split at h
          · rename_i h4
            rw [if_pos h4]
            obtain ⟨z, h5, rfl⟩ := put_ok h
            exact put_eq (within_same hn hg _ _ _ _ _ h5 hA)
          · rename_i h4
            rw [if_neg h4]
            split at h
            · rename_i h5
              rw [if_pos h5]
              exact named_same hn hg _ _ _ _ h hA
            · rename_i h5
              rw [if_neg h5]
              exact within_same hn hg _ _ _ _ _ h hA
theorem unary_same {l l' : List Tok} {un un' or or' : Option (Nat → PR)} (hun : un = none → un' = none) (hu : ∀ f, un = some f → GoodP l f ∧ ∃ f', un' = some f' ∧ Same l l' f f')
    (hn : or = none → or' = none) (hg : ∀ f, or = some f → GoodP l f ∧ ∃ f', or' = some f' ∧ Same l l' f f') : Same l l' (unaryP l un or) (unaryP l' un' or') := by
  intro a b y h hA
  have hb := unary_good (fun f hf => (hu f hf).1) (fun f hf => (hg f hf).1) a b y h
  have ea := hA.1 a (by omega)
  have key : ∀ (p : Prt), (match un with | none => PR.no a 2 | some f => (f (a + 1)).put p) = .ok b y → (match un' with | none => PR.no a 2 | some f => (f (a + 1)).put p) = .ok b y := by
    intro p hp
    cases un with
    | none => cases hp
    | some f =>
      obtain ⟨_, f', rfl, hs⟩ := hu f rfl
      simp only at hp ⊢
      obtain ⟨z, h1, rfl⟩ := put_ok hp
      exact put_eq (hs _ _ _ h1 hA)
  unfold unaryP at h ⊢
  rw [isTok_eq ea, isTok_eq ea]
  split at h
  · rename_i h1; rw [if_pos h1]; exact key _ h
  · rename_i h1
    rw [if_neg h1]
    split at h
    · rename_i h2; rw [if_pos h2]; exact key _ h
    · rename_i h2
      rw [if_neg h2]
      exact prim_same hn hg a b y h hA
theorem un_same (l l' : List Tok) : ∀ d, Same l l' (unP l d) (unP l' d)
  | 0 => unary_same (fun _ => rfl) (fun _ h => by cases h) (fun _ => rfl) (fun _ h => by cases h)
  | d + 1 => unary_same (fun h => by cases h) (fun f h => by cases h; exact ⟨un_good l d, _, rfl, un_same l l' d⟩) (fun h => by cases h)
      (fun f h => by cases h; exact ⟨orP_good (un_good l d), _, rfl, orP_same (un_good l d) (un_same l l' d)⟩)
/-- What was read, with something behind it that it can't go on with, is read again. -/
theorem parse_stops {l : List Tok} {x : List Prt} {n : Nat} (h : parseP l 0 = .ok x n) (t : Tok) (ht : StopAt (l.take n ++ [t]) n) : parseP (l.take n ++ [t]) 0 = .ok x n := by
  unfold parseP at h
  rw [if_neg (by omega)] at h
  cases ho : orP l (unP l 200) (0 : Int).toNat with
  | no b e => rw [ho] at h; cases h
  | ok b y =>
    rw [ho] at h
    simp only at h
    split at h
    · cases h
    · rename_i hd
      injection h with h1 h2
      subst h1
      obtain rfl : b = n := by omega
      obtain ⟨g1, g2, g3⟩ := orP_good (un_good l 200) _ _ _ ho
      have hlen : (l.take b).length = b := by rw [List.length_take]; omega
      have hA : Agr l (l.take b ++ [t]) b := ⟨fun i hi => by rw [List.getElem?_append_left (by omega), List.getElem?_take_of_lt hi], .inr ht⟩
      unfold parseP
      rw [if_neg (by omega), orP_same (un_good l 200) (un_same l _ 200) _ _ _ ho hA]
      simp only
      rw [if_neg hd]
end Cap
