/- What comes next in the look of package capstanref15, plainly; and the look as it is made. -/
import Derived.Test.YtefpgjocfgeenaaGreatDoorRef15d
import Derived.Test.YtefpgjocfgeenaaGreatDoorRunA
namespace Go.Proofs.YtefpgjocfgeenaaGreatDoor
open Go.RowKit Cap
set_option maxRecDepth 100000

theorem idxP_spec {α : Type} {p : α → Bool} : ∀ (l : List α) (i : Int), (idxP p l i = -1 ∧ ∀ x ∈ l, p x = false) ∨ ∃ (k : Nat) (x : α), idxP p l i = i + k ∧ l[k]? = some x ∧ p x = true ∧ ∀ j y, j < k → l[j]? = some y → p y = false
  | [], i => .inl ⟨rfl, by simp⟩
  | y :: l, i => by
    rw [idxP]
    cases hp : p y with
    | true => exact .inr ⟨0, y, by simp, by simp, hp, fun j _ hj => by omega⟩
    | false =>
      rw [if_neg (by simp)]
      rcases idxP_spec l (i + 1) with ⟨h1, h2⟩ | ⟨k, x, h1, h2, h3, h4⟩
      · refine .inl ⟨h1, fun x hx => ?_⟩
        rcases List.mem_cons.1 hx with rfl | hx
        · exact hp
        · exact h2 x hx
      · refine .inr ⟨k + 1, x, by omega, by simpa using h2, h3, fun j y' hj hy => ?_⟩
        cases j with
        | zero =>
          simp at hy
          subst hy
          exact hp
        | succ j => exact h4 j y' (by omega) (by simpa using hy)
theorem stV_one (r d : Bool) : (stV r d == 1) = (r && !d) := by cases r <;> cases d <;> rfl
theorem stsV_at {rs ds : List Bool} {n k : Nat} (h1 : rs.length = n) (h2 : ds.length = n) (hk : k < n) : (stsV rs ds)[k]? = some (stV (rs.getD k false) (ds.getD k false)) := by
  unfold stsV
  rw [List.getElem?_zipWith, List.getElem?_eq_getElem (by omega), List.getElem?_eq_getElem (by omega)]
  simp only [List.getD_eq_getElem?_getD, List.getElem?_eq_getElem (show k < rs.length by omega), List.getElem?_eq_getElem (show k < ds.length by omega)]
  rfl
theorem least_spec {rs ds : List Bool} {n : Nat} (h1 : rs.length = n) (h2 : ds.length = n) : (idxP (fun s => s == 1) (stsV rs ds) 0 = -1 ∧ Clear rs ds n) ∨ ∃ k : Nat, idxP (fun s => s == 1) (stsV rs ds) 0 = k ∧ k < n ∧ rs.getD k false = true ∧ ds.getD k false = false ∧ Clear rs ds k := by
  have hno : ∀ j, j < n → (stV (rs.getD j false) (ds.getD j false) == 1) = false → (ds.getD j false || !rs.getD j false) = true := by
    intro j _ h
    rw [stV_one] at h
    cases hr : rs.getD j false <;> cases hd : ds.getD j false <;> rw [hr, hd] at h <;> first | rfl | cases h
  rcases idxP_spec (p := fun s => s == 1) (stsV rs ds) 0 with ⟨h3, h4⟩ | ⟨k, v, h3, h4, h5, h6⟩
  · exact .inl ⟨h3, fun j hj => hno j hj (h4 _ (List.mem_of_getElem? (stsV_at h1 h2 hj)))⟩
  · have hk : k < n := by
      have h7 := (List.getElem?_eq_some_iff.1 h4).1
      rw [stsV_len h1 h2] at h7
      exact h7
    rw [stsV_at h1 h2 hk] at h4
    injection h4 with h4
    subst h4
    rw [stV_one] at h5
    simp only [Bool.and_eq_true, Bool.not_eq_true'] at h5
    exact .inr ⟨k, by omega, hk, h5.1, h5.2, fun j hj => hno j (by omega) (h6 j _ hj (stsV_at h1 h2 (by omega)))⟩
theorem tosL_keeps {n : Nat} {at_ : Int} {ds : List Bool} {st : List Int} (hst : st.length ≤ 64) : ∀ {l : List Int} {rs rs' : List Bool} {ss ss' : List (List Int)} {back back' : Int}, tosL n at_ ds st l rs ss back = .ok (rs', ss', back') → (∀ s ∈ ss, s.length ≤ 64) →
    (∀ s ∈ ss', s.length ≤ 64) ∧ ∀ j, rs.getD j false = true → rs'.getD j false = true
  | [], _, _, _, _, _, _, h, h64 => by
    simp only [tosL] at h
    injection h with h; injection h with h1 h2; injection h2 with h2 h3
    subst h1 h2 h3
    exact ⟨h64, fun _ h => h⟩
  | t :: l, rs, rs', ss, ss', back, back', h, h64 => by
    rw [tosL] at h
    split at h
    · cases h
    · split at h
      · cases h
      · rename_i rs1 ss1 hr
        have h3 : (∀ s ∈ ss1, s.length ≤ 64) ∧ ∀ j, rs.getD j false = true → rs1.getD j false = true := by
          unfold reachS at hr
          split at hr
          · split at hr
            · injection hr with hr; injection hr with hr1 hr2; subst hr1 hr2; exact ⟨h64, fun _ h => h⟩
            · cases hr
          · injection hr with hr; injection hr with hr1 hr2; subst hr1 hr2
            refine ⟨fun s hs => ?_, hdr_set fun _ h => h⟩
            rcases List.mem_or_eq_of_mem_set hs with hs | rfl
            · exact h64 s hs
            · exact hst
        obtain ⟨h1, h2⟩ := tosL_keeps hst h h3.1
        exact ⟨h1, fun j hj => h2 j (h3.2 j hj)⟩
/-- What is to come, behind a place that is next (-1: nothing is left). -/
def NextR (x : Img) (rs ds : List Bool) (ss : List (List Int)) (deep : Int) (z : Int) : Prop :=
  (z = -1 ∧ verifyL x = .ok (rs, ss, deep) ∧ Clear rs ds x.code.length) ∨ ∃ k g : Nat, z = k ∧ k < x.code.length ∧ rs.getD k false = true ∧ ds.getD k false = false ∧ Clear rs ds k ∧ left x.code.length ds k ≤ g ∧ runL x g rs ss deep ds k = verifyL x
/-- One round of the look. -/
theorem round_eq {x : Img} (hs : isSound x = true) (hmay : ∀ i ∈ x.code, mayIns x i = true) {rs ds : List Bool} {ss : List (List Int)} {deep : Int} {k g : Nat} (hk : k < x.code.length) (hrk : rs.getD k false = true) (hdk : ds.getD k false = false) (hc : Clear rs ds k)
    (hg : left x.code.length ds k ≤ g) (hf : runL x g rs ss deep ds k = verifyL x) (h64 : ∀ s ∈ ss, s.length ≤ 64) (hld : ds.length = x.code.length) (hls : ss.length = x.code.length) (hdr : ∀ j, ds.getD j false = true → rs.getD j false = true) :
    (∀ e, atL x k rs (ds.set k true) ss deep ((k : Int) + 1) = .error e → verifyL x = .error e) ∧
    ∀ rs' ss' deep' back', atL x k rs (ds.set k true) ss deep ((k : Int) + 1) = .ok (rs', ss', deep', back') → rs'.length = x.code.length →
      NextR x rs' (ds.set k true) ss' deep' (idxP (fun s => s == 1) (stsV rs' (ds.set k true)) 0) ∧ (∀ s ∈ ss', s.length ≤ 64) ∧ ∀ j, (ds.set k true).getD j false = true → rs'.getD j false = true := by
  obtain ⟨g1, rfl⟩ : ∃ g1, g = g1 + 1 := ⟨g - 1, by unfold left at hg; omega⟩
  have hcode : x.code[k]? = some (x.code.getD k ⟨0, 0, 0, 0⟩) := by
    rw [List.getD_eq_getElem?_getD, List.getElem?_eq_getElem hk]
    rfl
  have hmi := hmay _ (List.mem_of_getElem? hcode)
  have hs0 : ss[k]? = some (ss.getD k []) := by
    rw [List.getD_eq_getElem?_getD, List.getElem?_eq_getElem (by omega)]
    rfl
  have h0 := h64 _ (List.mem_of_getElem? hs0)
  have hstep := step_eq (st := ss.getD k []) hs hmi h0
  rw [runL, if_neg (by omega), if_neg (by rw [hdk, hrk]; simp)] at hf
  have hdk' : ds[k]? = some false := by
    rw [List.getElem?_eq_getElem (by omega)]
    rw [List.getD_eq_getElem?_getD, List.getElem?_eq_getElem (by omega)] at hdk
    simpa using hdk
  have hdr' : ∀ j, (ds.set k true).getD j false = true → rs.getD j false = true := by
    intro j hj
    by_cases e : k = j
    · subst e; exact hrk
    · rw [List.getD_eq_getElem?_getD, List.getElem?_set_ne e, ← List.getD_eq_getElem?_getD] at hj
      exact hdr j hj
  unfold atL
  rw [← hstep]
  cases hst : stepS x (x.code.getD k ⟨0, 0, 0, 0⟩) (ss.getD k []) with
  | none =>
    rw [hst] at hf
    refine ⟨fun e he => ?_, fun rs' ss' deep' back' he => ?_⟩
    · rw [← hf]
      injection he with he
      exact congrArg Except.error he
    · cases he
  | some st =>
    rw [hst] at hf
    have hst64 := stepS_len h0 hst
    cases ht : tosL x.code.length k (ds.set k true) st (goesL k (x.code.getD k ⟨0, 0, 0, 0⟩)) rs ss ((k : Int) + 1) with
    | error e =>
      simp only [ht] at hf ⊢
      refine ⟨fun e' he => ?_, fun rs' ss' deep' back' he => ?_⟩
      · rw [← hf]
        injection he with he
        exact congrArg Except.error he
      · cases he
    | ok r =>
      obtain ⟨rs', ss', back'⟩ := r
      simp only [ht] at hf ⊢
      refine ⟨fun e' he => (by cases he), fun rs2 ss2 deep2 back2 he hlr => ?_⟩
      injection he with he
      injection he with he1 he
      injection he with he2 he
      injection he with he3 he4
      subst he1 he2 he3 he4
      have hcl := clear_next hc (by omega) (goesL_ge (Int.natCast_nonneg k) hmi) ht
      obtain ⟨k64, kmono⟩ := tosL_keeps hst64 ht h64
      refine ⟨?_, k64, fun j hj => kmono j (hdr' j hj)⟩
      have hld' : (ds.set k true).length = x.code.length := by simp [hld]
      rcases least_spec hlr hld' with ⟨h1, h2⟩ | ⟨k2, h1, h2, h3, h4, h5⟩
      · refine .inl ⟨h1, ?_, h2⟩
        rw [← hf, runL_end h2]
      · have hle : back'.toNat ≤ k2 := by
          rcases Nat.lt_or_ge k2 back'.toNat with h6 | h6
          · have := hcl k2 h6
            rw [h3, h4] at this
            cases this
          · exact h6
        have hlf := leftL_set ds k hdk'
        have hm : leftL (ds.set k true) * (x.code.length + 1) + (x.code.length + 1) = leftL ds * (x.code.length + 1) := by rw [← hlf, Nat.succ_mul]
        obtain ⟨g', h6, h7⟩ := runL_skip (ss := ss') (deep := max deep (st.length : Int)) h5 (Nat.le_of_lt h2) (k2 - back'.toNat) g1 back'.toNat rfl hle (by unfold left at *; omega)
        exact .inr ⟨k2, g', h1, h2, h3, h4, h5, h6, by rw [← h7]; exact hf⟩
/-- A place is looked at. -/
theorem RLook.done_ {base bl bs bt n : Nat} {v0 v1 v2 v3 v4 v5 : Value} {rs ds : List Bool} {ss : List (List Int)} {deep : Int} {w : World} (h : RLook base bl bs bt n v0 v1 v2 v3 v4 v5 rs ds ss deep w) {k : Nat} (hk : k < n) : RLook base bl bs bt n v0 v1 v2 v3 v4 v5 rs (ds.set k true) ss deep (w.setCell ⟨bt, k, none⟩ (.int .i64 2)) := by
  have hg := grown_cell w bt k (.int .i64 2)
  have hlt : ∀ {b : Nat} {o : Obj}, b ≠ bt → w.heap[b]? = some o → (w.setCell ⟨bt, k, none⟩ (.int .i64 2)).heap[b]? = some o := fun {b o} hne e => (hg.block b (Array.getElem?_eq_some_iff.1 e).1 (fun e' => hne (by injection e'))).trans e
  obtain ⟨us, h1, h2, h3⟩ := h.stk
  refine ⟨hlt h.n2 h.look, ?_, ⟨us, hlt h.n3 h1, h2, fun k u st e1 e2 => (h3 k u st e1 e2).grown hg h.gt⟩, h.lr, by simp [h.ld], h.ls, h.gl, h.gs, h.gt, h.n1, h.n2, h.n3⟩
  have h9 := heap_setCell_same w bt k _ 3 (.int .i64 2) h.sts
  have e : ((stsV rs ds).flatMap encI).toArray.setIfInBounds k (.int .i64 2) = ((stsV rs (ds.set k true)).flatMap encI).toArray := by
    apply Array.toList_inj.1
    have hm : ∀ l : List Int, l.flatMap encI = l.map (Value.int .i64) := by
      intro l
      induction l with
      | nil => rfl
      | cons x l ih => rw [List.flatMap_cons, ih]; rfl
    simp only [hm, List.setIfInBounds_toArray, ← List.map_set]
    congr 1
    apply List.ext_getElem?
    intro j
    unfold stsV
    by_cases hj : j = k
    · subst hj
      rw [List.getElem?_set_self (by rw [List.length_zipWith, h.lr, h.ld]; omega), List.getElem?_zipWith, List.getElem?_set_self (by rw [h.ld]; exact hk), List.getElem?_eq_getElem (by rw [h.lr]; exact hk)]
      rfl
    · rw [List.getElem?_set_ne (fun e => hj e.symm), List.getElem?_zipWith, List.getElem?_zipWith, List.getElem?_set_ne (fun e => hj e.symm)]
  rw [e] at h9
  exact h9

/-! ### Made -/
theorem info_sl : InfoIs Tryz.prog 22 (.slice none 0 0) 1 24 := by unfold InfoIs; kernel_rfl
theorem make_ints (n : Nat) (hn : n ≤ 4096) (W : World) : (Instr.makeSlice 22 (.int .i64 n) (.int .i64 n)).run Tryz.prog W = .ok (.slice (some ⟨W.heap.size, 0, none⟩) n n) (W.alloc (.cells ((stsV (List.replicate n false) (List.replicate n false)).flatMap encI).toArray 3)) := by
  obtain ⟨i, h1, h2, h3, h4⟩ := info_int.parts
  have h := run_make (P := Tryz.prog) W 22 3 i (.int .i64 0) Tryz.underlying22 h1 h2 .i64 .i64 n n (by omega) (Int.le_refl _) (by rw [h4]; omega) (by omega)
  rw [h, Int.toNat_natCast, h3]
  have e0 : stsV (List.replicate n false) (List.replicate n false) = List.replicate n 0 := by
    unfold stsV
    rw [List.zipWith_replicate]
    simp [stV]
  have e : madeCells (Value.int .i64 0).cells (n * 1) = ((stsV (List.replicate n false) (List.replicate n false)).flatMap encI).toArray := by
    apply Array.toList_inj.1
    rw [e0, madeCells_rows _ 1 n rfl (by decide), ← flat_unit n encI 0]
    rfl
  rw [e]
theorem make_sls (n : Nat) (hn : n ≤ 4096) (W : World) : (Instr.makeSlice 74 (.int .i64 n) (.int .i64 n)).run Tryz.prog W = .ok (.slice (some ⟨W.heap.size, 0, none⟩) n n) (W.alloc (.cells (List.replicate n (Value.slice none 0 0)).toArray 22)) := by
  obtain ⟨i, h1, h2, h3, h4⟩ := info_sl.parts
  have h := run_make (P := Tryz.prog) W 74 22 i (.slice none 0 0) Tryz.underlying74 h1 h2 .i64 .i64 n n (by omega) (Int.le_refl _) (by rw [h4]; omega) (by omega)
  rw [h, Int.toNat_natCast, h3]
  have e : madeCells (Value.slice none 0 0).cells (n * 1) = (List.replicate n (Value.slice none 0 0)).toArray := by
    apply Array.toList_inj.1
    rw [madeCells_rows _ 1 n rfl (by decide)]
    have := flat_unit n (fun v : Value => [v]) (Value.slice none 0 0)
    have h2 : ∀ m, (List.replicate m (Value.slice none 0 0)).flatMap (fun v : Value => [v]) = List.replicate m (Value.slice none 0 0) := by intro m; simp
    rw [h2] at this
    rw [← this]
    rfl
  rw [e]
theorem SlB.none (base : Nat) (w : World) : SlB base w (.slice none 0 0) [] := ⟨Sl.nil _ _ _, .inl rfl⟩
theorem none_stk {base n : Nat} {w : World} : ∀ (k : Nat) u st, (List.replicate n (Value.slice none 0 0))[k]? = some u → (List.replicate n ([] : List Int))[k]? = some st → SlB base w u st := by
  intro k u st h1 h2
  have h1 := (List.mem_replicate.1 (List.mem_of_getElem? h1)).2
  have h2 := (List.mem_replicate.1 (List.mem_of_getElem? h2)).2
  subst h1 h2
  exact SlB.none _ _
/-- The look as it is made: its two rows first, in one order or the other. -/
theorem rlook_made (W : World) (n : Nat) (v0 v1 v2 v3 v4 v5 : Value) :
    RLook (W.heap.size + 3) (W.heap.size + 1 + 1) W.heap.size (W.heap.size + 1) n v0 v1 v2 v3 v4 v5 (List.replicate n false) (List.replicate n false) (List.replicate n []) 0
      (((W.alloc (.cells (List.replicate n (Value.slice none 0 0)).toArray 22)).alloc (.cells ((stsV (List.replicate n false) (List.replicate n false)).flatMap encI).toArray 3)).alloc
        (.cells #[v0, v1, v2, v3, v4, v5, .slice (some ⟨W.heap.size, 0, none⟩) n n, .slice (some ⟨W.heap.size + 1, 0, none⟩) n n, .int .i64 0] 76)) := by
  refine ⟨?_, ?_, ⟨_, ?_, by simp, none_stk⟩, by simp, by simp, by simp, by omega, by omega, by omega, by omega, by omega, by omega⟩
  · have h := heap_alloc_new ((W.alloc (.cells (List.replicate n (Value.slice none 0 0)).toArray 22)).alloc (.cells ((stsV (List.replicate n false) (List.replicate n false)).flatMap encI).toArray 3)) (.cells #[v0, v1, v2, v3, v4, v5, .slice (some ⟨W.heap.size, 0, none⟩) n n, .slice (some ⟨W.heap.size + 1, 0, none⟩) n n, .int .i64 0] 76)
    simpa using h
  · rw [heap_alloc_old _ _ (by simp)]
    have h := heap_alloc_new (W.alloc (.cells (List.replicate n (Value.slice none 0 0)).toArray 22)) (.cells ((stsV (List.replicate n false) (List.replicate n false)).flatMap encI).toArray 3)
    simpa using h
  · rw [heap_alloc_old _ _ (by simp; omega), heap_alloc_old _ _ (by simp)]
    exact heap_alloc_new W _
theorem rlook_made2 (W : World) (n : Nat) (v0 v1 v2 v3 v4 v5 : Value) :
    RLook (W.heap.size + 3) (W.heap.size + 1 + 1) (W.heap.size + 1) W.heap.size n v0 v1 v2 v3 v4 v5 (List.replicate n false) (List.replicate n false) (List.replicate n []) 0
      (((W.alloc (.cells ((stsV (List.replicate n false) (List.replicate n false)).flatMap encI).toArray 3)).alloc (.cells (List.replicate n (Value.slice none 0 0)).toArray 22)).alloc
        (.cells #[v0, v1, v2, v3, v4, v5, .slice (some ⟨W.heap.size + 1, 0, none⟩) n n, .slice (some ⟨W.heap.size, 0, none⟩) n n, .int .i64 0] 76)) := by
  refine ⟨?_, ?_, ⟨_, ?_, by simp, none_stk⟩, by simp, by simp, by simp, by omega, by omega, by omega, by omega, by omega, by omega⟩
  · have h := heap_alloc_new ((W.alloc (.cells ((stsV (List.replicate n false) (List.replicate n false)).flatMap encI).toArray 3)).alloc (.cells (List.replicate n (Value.slice none 0 0)).toArray 22)) (.cells #[v0, v1, v2, v3, v4, v5, .slice (some ⟨W.heap.size + 1, 0, none⟩) n n, .slice (some ⟨W.heap.size, 0, none⟩) n n, .int .i64 0] 76)
    simpa using h
  · rw [heap_alloc_old _ _ (by simp; omega), heap_alloc_old _ _ (by simp)]
    exact heap_alloc_new W _
  · rw [heap_alloc_old _ _ (by simp)]
    have h := heap_alloc_new (W.alloc (.cells ((stsV (List.replicate n false) (List.replicate n false)).flatMap encI).toArray 3)) (.cells (List.replicate n (Value.slice none 0 0)).toArray 22)
    simpa using h
end Go.Proofs.YtefpgjocfgeenaaGreatDoor
