/- What parts that pass have for texts; names of the same keys. -/
import Derived.Test.YtbnelgniekcjdaaGreatDoorCE06H
import Derived.ChangeMaps
set_option linter.unusedSimpArgs false
set_option linter.unusedVariables false
namespace Cap
open Go Go.RowKit
theorem namesL_of {x y : List Prt} (h : keysOf x = keysOf y) : namesL x = namesL y := by
  unfold namesL namesD
  rw [h]
end Cap
namespace Go.Proofs.YtbnelgniekcjdaaGreatDoor
open Go.RowKit Cap
theorem noS_size {s : ByteArray} (h : noS s = true) : s.size ≤ 24 := by
  unfold noS at h
  rw [ByteArray.toList_eq, List.isEmpty_iff] at h
  have h2 : s.size = s.data.toList.length := by simp
  rw [h2, h]
  decide
theorem word_size {s : ByteArray} (h : isWord s = true) : s.size ≤ 24 := by
  unfold isWord at h
  simp only [Bool.and_eq_true, decide_eq_true_eq] at h
  exact h.1.1.2
theorem name_size {s : ByteArray} (h : isName s = true) : s.size ≤ 24 := by
  unfold isName at h
  rw [Bool.and_eq_true] at h
  exact word_size h.1
theorem may_ok {p : Prt} (h : mayP p = true) : PrtOk p := by
  have key : p.s.size ≤ 24 ∧ p.f.size ≤ 24 := by
    unfold mayP at h
    by_cases h1 : p.k = 1
    · rw [if_pos h1] at h
      simp only [Bool.and_eq_true] at h
      exact ⟨noS_size h.2.1, noS_size h.2.2⟩
    rw [if_neg h1] at h
    by_cases h2 : p.k = 2 ∨ p.k = 3
    · rw [if_pos h2] at h
      simp only [Bool.and_eq_true] at h
      exact ⟨name_size h.1, noS_size h.2.2⟩
    rw [if_neg h2] at h
    by_cases h4 : p.k = 4
    · rw [if_pos h4] at h
      simp only [Bool.and_eq_true] at h
      exact ⟨name_size h.1.1, word_size h.1.2⟩
    rw [if_neg h4] at h
    by_cases h5 : p.k = 5
    · rw [if_pos h5] at h
      simp only [Bool.and_eq_true] at h
      exact ⟨noS_size h.2.1.2, noS_size h.2.2⟩
    · rw [if_neg h5] at h
      simp only [Bool.and_eq_true] at h
      exact ⟨noS_size h.2.1.2, noS_size h.2.2⟩
  exact ⟨by omega, by omega⟩
theorem encSt_len : ∀ s, (encSt s).length = 1 := fun _ => rfl
end Go.Proofs.YtbnelgniekcjdaaGreatDoor

/- The names of parts: each once, rising; whose they are. -/
namespace Cap
open Go Go.RowKit Go.Maps Go.Sort
/-- Whose names they are. -/
def nameOf (x : List Prt) (s : List UInt8) : Prop := ∃ p ∈ x, namedP p = true ∧ p.s.data.toList = s
theorem mem_keys {x : List Prt} {s : List UInt8} : (keysOf x).any (fun y => y.sameKey (.string s)) = true ↔ nameOf x s := by
  unfold keysOf nameOf
  simp only [List.any_map, List.any_filter, List.any_eq_true, Function.comp, Bool.and_eq_true]
  constructor
  · rintro ⟨p, hp, h1, h2⟩
    exact ⟨p, hp, h1, by simpa [Lit.sameKey] using h2⟩
  · rintro ⟨p, hp, h1, h2⟩
    exact ⟨p, hp, h1, by simpa [Lit.sameKey] using h2⟩
theorem put_strs {H : Type} (u : DataW H) : ∀ (acc : List Lit) (es : List (Lit × DataW H)), (∀ k ∈ acc, ∃ s, k = .string s) → (∀ p ∈ es, ∃ s, p.1 = .string s) → ∃ es', acc.foldl (fun m x => DataW.put m x u) (.map es) = .map es' ∧ ∀ p ∈ es', ∃ s, p.1 = .string s
  | [], es, _, h => ⟨es, rfl, h⟩
  | k :: r, es, hk, h => by
    refine put_strs u r _ (fun k' hk' => hk k' (List.mem_cons_of_mem _ hk')) (fun p hp => ?_)
    rcases Go.ChangeMaps.mem_insert_iff.1 hp with rfl | hp
    · exact hk k List.mem_cons_self
    · exact h p (List.mem_filter.1 hp).1
theorem namesD_parts (x : List Prt) : ∃ es, namesD x = .map es ∧ es.Pairwise (fun p q => p.1 ≠ q.1) ∧ ∀ p ∈ es, ∃ s, p.1 = .string s := by
  obtain ⟨es, h1, h2⟩ := tidy_setOf (.lit (.bool true) : DataW Unit) (keysOf x) (keysOf_lit x)
  obtain ⟨es', h3, h4⟩ := put_strs (.lit (.bool true) : DataW Unit) (keysOf x) [] (fun k hk => by
    unfold keysOf at hk
    obtain ⟨p, _, rfl⟩ := List.mem_map.1 hk
    exact ⟨_, rfl⟩) (fun p hp => by cases hp)
  obtain rfl : es = es' := by
    have h5 := h1.symm.trans h3
    injection h5
  exact ⟨es, h1, h2, h4⟩
theorem namesL_spec (x : List Prt) : (namesL x).Nodup ∧ (namesL x).Pairwise (fun a b => a ≤ b) ∧ ∀ s, s ∈ namesL x ↔ nameOf x s := by
  obtain ⟨es, h1, h2, h3⟩ := namesD_parts x
  have hk : strKeys (namesD x) = es.map fun p => strOf p.1 := by rw [h1]; rfl
  have hnd : (strKeys (namesD x)).Nodup := by
    rw [hk]
    refine List.pairwise_map.2 (h2.imp_of_mem fun {p q} hp hq hne e => hne ?_)
    obtain ⟨a, ha⟩ := h3 p hp
    obtain ⟨b, hb⟩ := h3 q hq
    rw [ha, hb] at e ⊢
    exact congrArg _ e
  have hm : ∀ s, s ∈ strKeys (namesD x) ↔ nameOf x s := fun s => by
    rw [← mem_keys, ← has_setOf (.lit (.bool true) : DataW Unit) (.string s) (keysOf x) (keysOf_lit x)]
    show _ ↔ has (namesD x) _ = true
    rw [hk, h1, has_eq, List.any_eq_true, List.mem_map]
    constructor
    · rintro ⟨p, hp, rfl⟩
      obtain ⟨a, ha⟩ := h3 p hp
      exact ⟨p, hp, by rw [ha]; simp [Lit.sameKey, strOf]⟩
    · rintro ⟨p, hp, hs⟩
      obtain ⟨a, ha⟩ := h3 p hp
      rw [ha] at hs
      exact ⟨p, hp, by rw [ha]; simpa [Lit.sameKey, strOf] using hs⟩
  have tr : ∀ a b c : List UInt8, leB a b = true → leB b c = true → leB a c = true := fun a b c h1 h2 => by simp only [leB, decide_eq_true_eq] at *; exact List.le_trans h1 h2
  have tt : ∀ a b : List UInt8, (leB a b || leB b a) = true := fun a b => by simp only [leB, Bool.or_eq_true, decide_eq_true_eq]; exact List.le_total a b
  unfold namesL
  refine ⟨(List.mergeSort_perm _ _).nodup_iff.2 hnd, (List.pairwise_mergeSort tr tt _).imp (fun h => by simpa [leB] using h), fun s => ?_⟩
  rw [List.mem_mergeSort]
  exact hm s
end Cap
