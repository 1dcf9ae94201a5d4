/- Plain: the look over code that goes straight on. No program in sight. -/
import Derived.Test.YtefpgjocfgeenaaGreatDoorSpec
import Derived.KernelRfl
namespace Cap
open Go Go.RowKit

structure LineInv (n k : Nat) (st : List Int) (rs : List Bool) (ss : List (List Int)) (ds : List Bool) : Prop where
  lr : rs.length = n
  ls : ss.length = n
  ld : ds.length = n
  r : rs.getD k false = true
  s : ss.getD k [] = st
  rn : ∀ j, k < j → rs.getD j false = false
  dn : ∀ j, k ≤ j → ds.getD j false = false
theorem getD_set_self {α : Type} (l : List α) (k : Nat) (a d : α) (h : k < l.length) : (l.set k a).getD k d = a := by
  rw [List.getD_eq_getElem?_getD, List.getElem?_set_self h]
  rfl
theorem getD_set_ne' {α : Type} (l : List α) (k j : Nat) (a d : α) (h : k ≠ j) : (l.set k a).getD j d = l.getD j d := by
  rw [List.getD_eq_getElem?_getD, List.getElem?_set_ne h, ← List.getD_eq_getElem?_getD]
theorem line_step {x : Img} {k : Nat} {st st' : List Int} {rs : List Bool} {ss : List (List Int)} {ds : List Bool} {deep : Int} (g : Nat) (h : LineInv x.code.length k st rs ss ds) (hk : k + 1 < x.code.length)
    (hs : stepS x (x.code.getD k ⟨0, 0, 0, 0⟩) st = some st') (hg : goesL k (x.code.getD k ⟨0, 0, 0, 0⟩) = [(k : Int) + 1]) :
    ∃ rs' ss' ds', LineInv x.code.length (k + 1) st' rs' ss' ds' ∧ runL x (g + 1) rs ss deep ds k = runL x g rs' ss' (max deep st'.length) ds' (k + 1) := by
  refine ⟨rs.set (k + 1) true, ss.set (k + 1) st', ds.set k true, ⟨by simp [h.lr], by simp [h.ls], by simp [h.ld], ?_, ?_, ?_, ?_⟩, ?_⟩
  · exact getD_set_self _ _ _ _ (by rw [h.lr]; exact hk)
  · exact getD_set_self _ _ _ _ (by rw [h.ls]; exact hk)
  · intro j hj
    rw [getD_set_ne' _ _ _ _ _ (by omega)]
    exact h.rn j (by omega)
  · intro j hj
    rw [getD_set_ne' _ _ _ _ _ (by omega)]
    exact h.dn j (by omega)
  · have hto : ((k : Int) + 1).toNat = k + 1 := by omega
    have hdd : (ds.set k true).getD (k + 1) false = false := by
      rw [getD_set_ne' _ _ _ _ _ (by omega)]
      exact h.dn _ (by omega)
    have ht : tosL x.code.length k (ds.set k true) st' [(k : Int) + 1] rs ss ((k : Int) + 1) = .ok (rs.set (k + 1) true, ss.set (k + 1) st', (k : Int) + 1) := by
      rw [tosL, if_neg (by omega), hto, reachS, h.rn (k + 1) (by omega), if_neg (by simp)]
      simp only [hdd, tosL]
      rw [if_neg (by simp), Int.min_self]
    rw [runL, if_neg (by omega), h.dn k (Nat.le_refl _), h.r, if_neg (by simp), h.s, hs]
    simp only [hg, ht, hto]
theorem line_err {x : Img} {k : Nat} {st : List Int} {rs : List Bool} {ss : List (List Int)} {ds : List Bool} {deep : Int} (g : Nat) (h : LineInv x.code.length k st rs ss ds) (hk : k < x.code.length)
    (hs : stepS x (x.code.getD k ⟨0, 0, 0, 0⟩) st = none) : runL x (g + 1) rs ss deep ds k = .error ((k : Int), 151) := by
  rw [runL, if_neg (by omega), h.dn k (Nat.le_refl _), h.r, if_neg (by simp), h.s, hs]
theorem line_end {x : Img} {k : Nat} {st : List Int} {rs : List Bool} {ss : List (List Int)} {ds : List Bool} {deep : Int} (g : Nat) (h : LineInv x.code.length k st rs ss ds) (hk : k + 1 = x.code.length)
    (hs : stepS x (x.code.getD k ⟨0, 0, 0, 0⟩) st = some st) (hg : goesL k (x.code.getD k ⟨0, 0, 0, 0⟩) = []) : runL x (g + 1 + 1) rs ss deep ds k = .ok (rs, ss, max deep st.length) := by
  have hto : ((k : Int) + 1).toNat = k + 1 := by omega
  rw [runL, if_neg (by omega), h.dn k (Nat.le_refl _), h.r, if_neg (by simp), h.s, hs]
  simp only [hg, tosL, hto]
  rw [runL, if_pos (by omega)]
theorem line_start (n : Nat) (hn : 1 ≤ n) : LineInv n 0 [] ((List.replicate n false).set 0 true) (List.replicate n []) (List.replicate n false) := by
  have hf : ∀ j, (List.replicate n false).getD j false = false := by
    intro j
    rw [List.getD_eq_getElem?_getD, List.getElem?_replicate]
    split <;> rfl
  refine ⟨by simp, by simp, by simp, getD_set_self _ _ _ _ (by rw [List.length_replicate]; omega), ?_, fun j hj => ?_, fun j _ => hf j⟩
  · rw [List.getD_eq_getElem?_getD, List.getElem?_replicate, if_pos (by omega)]
    rfl
  · rw [getD_set_ne' _ _ _ _ _ (by omega)]
    exact hf j
/-! ### Pushes, then stores -/
def ofI (l : List Ins) : Img := ⟨⟨#[80]⟩, [1, 2], [0, 0], [], [], l⟩
def iP : Ins := ⟨1, 2, 0, 1⟩
def iS : Ins := ⟨3, 1, 0, 0⟩
def iE : Ins := ⟨12, 0, 0, 0⟩
theorem idxP_none {α : Type} {p : α → Bool} : ∀ (l : List α) (i : Int), (∀ x ∈ l, p x = false) → idxP p l i = -1
  | [], _, _ => rfl
  | x :: l, i, h => by
    rw [idxP, h x (by simp), if_neg (by simp)]
    exact idxP_none l (i + 1) (fun y hy => h y (by simp [hy]))
theorem name_P : isName ⟨#[80]⟩ = true := by kernel_rfl
theorem check_ofI (l : List Ins) (h1 : 1 ≤ l.length) (h2 : l.length ≤ 4096) (hm : ∀ i ∈ l, mayIns (ofI l) i = true) : codeCheck (ofI l) = (0, 0) := by
  have hs : isSound (ofI l) = true := by
    show (isName ⟨#[80]⟩ && _ && _ && decide (1 ≤ l.length) && decide (l.length ≤ 4096) && _ && _ && _) = true
    rw [name_P, decide_eq_true h1, decide_eq_true h2]
    rfl
  have hi : idxP (fun i => !mayIns (ofI l) i) (ofI l).code 0 = -1 := idxP_none _ _ (fun i hi => by
    have : mayIns (ofI l) i = true := hm i hi
    simp [this])
  rw [codeCheck, hs, hi]
  rfl
theorem may_P (l : List Ins) : mayIns (ofI l) iP = true := by rfl
theorem may_S (l : List Ins) : mayIns (ofI l) iS = true := by rfl
theorem may_E (l : List Ins) : mayIns (ofI l) iE = true := by rfl
theorem push_phase (m : Nat) (rest : List Ins) (hr : rest ≠ []) (F : Nat) : ∀ k, k ≤ m → k ≤ 64 → k ≤ F → ∃ rs ss ds, LineInv (List.replicate m iP ++ rest).length k (List.replicate k 2) rs ss ds ∧
    runL (ofI (List.replicate m iP ++ rest)) F ((List.replicate (List.replicate m iP ++ rest).length false).set 0 true) (List.replicate (List.replicate m iP ++ rest).length []) 0 (List.replicate (List.replicate m iP ++ rest).length false) 0 = runL (ofI (List.replicate m iP ++ rest)) (F - k) rs ss k ds k := by
  have hlen : 1 ≤ rest.length := by cases rest with
    | nil => exact absurd rfl hr
    | cons _ _ => simp
  have hn : (List.replicate m iP ++ rest).length = m + rest.length := by simp
  intro k
  induction k with
  | zero => intro _ _ _; exact ⟨_, _, _, line_start _ (by omega), rfl⟩
  | succ k ih =>
    intro h1 h2 h3
    obtain ⟨rs, ss, ds, hi, he⟩ := ih (by omega) (by omega) (by omega)
    have hc : (ofI (List.replicate m iP ++ rest)).code.getD k ⟨0, 0, 0, 0⟩ = iP := by
      show (List.replicate m iP ++ rest).getD k _ = iP
      rw [List.getD_eq_getElem?_getD, List.getElem?_append_left (by simp; omega), List.getElem?_replicate, if_pos (by omega)]
      rfl
    have hst : stepS (ofI (List.replicate m iP ++ rest)) iP (List.replicate k 2) = some (List.replicate (k + 1) 2) := by
      show pushS (List.replicate k 2) 2 = _
      rw [pushS_yes (by simp; omega), List.replicate_succ']
    obtain ⟨rs', ss', ds', hi', he'⟩ := line_step (x := ofI (List.replicate m iP ++ rest)) (deep := k) (F - (k + 1)) hi (show k + 1 < (List.replicate m iP ++ rest).length by omega) (by rw [hc]; exact hst) (by rw [hc]; rfl)
    refine ⟨rs', ss', ds', hi', ?_⟩
    rw [he, show F - k = F - (k + 1) + 1 by omega, he']
    congr 1
    simp
    omega
theorem store_phase (m : Nat) (hm : m ≤ 64) (rest : List Ins) (hr : rest ≠ []) (F : Nat) (hF : 2 * m ≤ F) : ∀ j, j ≤ m → ∃ rs ss ds, LineInv (List.replicate m iP ++ (List.replicate m iS ++ rest)).length (m + j) (List.replicate (m - j) 2) rs ss ds ∧
    runL (ofI (List.replicate m iP ++ (List.replicate m iS ++ rest))) F ((List.replicate (List.replicate m iP ++ (List.replicate m iS ++ rest)).length false).set 0 true) (List.replicate (List.replicate m iP ++ (List.replicate m iS ++ rest)).length []) 0 (List.replicate (List.replicate m iP ++ (List.replicate m iS ++ rest)).length false) 0
      = runL (ofI (List.replicate m iP ++ (List.replicate m iS ++ rest))) (F - (m + j)) rs ss m ds (m + j) := by
  have hlen : 1 ≤ rest.length := by cases rest with
    | nil => exact absurd rfl hr
    | cons _ _ => simp
  have hn : (List.replicate m iP ++ (List.replicate m iS ++ rest)).length = m + (m + rest.length) := by simp
  intro j
  induction j with
  | zero =>
    intro _
    obtain ⟨rs, ss, ds, hi, he⟩ := push_phase m (List.replicate m iS ++ rest) (by simp [hr]) F m (Nat.le_refl _) hm (by omega)
    exact ⟨rs, ss, ds, hi, he⟩
  | succ j ih =>
    intro h1
    obtain ⟨rs, ss, ds, hi, he⟩ := ih (by omega)
    have hc : (ofI (List.replicate m iP ++ (List.replicate m iS ++ rest))).code.getD (m + j) ⟨0, 0, 0, 0⟩ = iS := by
      show (List.replicate m iP ++ (List.replicate m iS ++ rest)).getD (m + j) _ = iS
      rw [List.getD_eq_getElem?_getD, List.getElem?_append_right (by simp), List.getElem?_append_left (by simp; omega), List.getElem?_replicate, if_pos (by simp; omega)]
      rfl
    have hst : stepS (ofI (List.replicate m iP ++ (List.replicate m iS ++ rest))) iS (List.replicate (m - j) 2) = some (List.replicate (m - (j + 1)) 2) := by
      show popS (List.replicate (m - j) 2) [2] = _
      rw [show m - j = (m - (j + 1)) + 1 by omega, List.replicate_succ']
      exact popS_yes rfl
    obtain ⟨rs', ss', ds', hi', he'⟩ := line_step (x := ofI (List.replicate m iP ++ (List.replicate m iS ++ rest))) (deep := m) (F - (m + (j + 1))) hi (show m + j + 1 < (List.replicate m iP ++ (List.replicate m iS ++ rest)).length by omega) (by rw [hc]; exact hst) (by rw [hc]; simp [goesL, iS])
    refine ⟨rs', ss', ds', hi', ?_⟩
    rw [he, show F - (m + j) = F - (m + (j + 1)) + 1 by omega, he']
    congr 1
    simp
    omega
theorem verify_ofI (l : List Ins) (h1 : 1 ≤ l.length) (h2 : l.length ≤ 4096) (hm : ∀ i ∈ l, mayIns (ofI l) i = true) :
    verifyL (ofI l) = runL (ofI l) (fuelL l.length) ((List.replicate l.length false).set 0 true) (List.replicate l.length []) 0 (List.replicate l.length false) 0 := by
  rw [verifyL, check_ofI l h1 h2 hm, if_neg (by simp)]
  rfl
theorem fuelL_ge (n : Nat) : 2 * n + 1 ≤ fuelL n := by
  unfold fuelL
  have : n ≤ n * (n + 1) := Nat.le_mul_of_pos_right n (by omega)
  omega
theorem pushes_err (m : Nat) (h1 : 64 < m) (h2 : m < 70) : verifyNE (ofI (List.replicate m iP ++ [iE])) = (64, 151) := by
  have hn : (List.replicate m iP ++ [iE]).length = m + 1 := by simp
  have hF := fuelL_ge (List.replicate m iP ++ [iE]).length
  obtain ⟨rs, ss, ds, hi, he⟩ := push_phase m [iE] (by simp) (fuelL (List.replicate m iP ++ [iE]).length) 64 (by omega) (Nat.le_refl _) (by omega)
  have hc : (ofI (List.replicate m iP ++ [iE])).code.getD 64 ⟨0, 0, 0, 0⟩ = iP := by
    show (List.replicate m iP ++ [iE]).getD 64 _ = iP
    rw [List.getD_eq_getElem?_getD, List.getElem?_append_left (by simp; omega), List.getElem?_replicate, if_pos (by omega)]
    rfl
  have hl := line_err (x := ofI (List.replicate m iP ++ [iE])) (deep := (64 : Nat)) (fuelL (List.replicate m iP ++ [iE]).length - 64 - 1) hi (show 64 < (List.replicate m iP ++ [iE]).length by omega) (by rw [hc]; rfl)
  rw [show fuelL (List.replicate m iP ++ [iE]).length - 64 - 1 + 1 = fuelL (List.replicate m iP ++ [iE]).length - 64 by omega] at hl
  have hv : verifyL (ofI (List.replicate m iP ++ [iE])) = .error (64, 151) := by
    rw [verify_ofI _ (by omega) (by omega) (fun i hi => ?_), he, hl]
    · rfl
    · rcases List.mem_append.1 hi with h | h
      · rw [(List.mem_replicate.1 h).2]; exact may_P _
      · rw [List.mem_singleton.1 h]; exact may_E _
  rw [verifyNE, hv]
theorem pushes_ok (m : Nat) (h1 : m ≤ 64) : verifyNE (ofI (List.replicate m iP ++ [iE])) = (0, 0) := by
  have hn : (List.replicate m iP ++ [iE]).length = m + 1 := by simp
  have hF := fuelL_ge (List.replicate m iP ++ [iE]).length
  obtain ⟨rs, ss, ds, hi, he⟩ := push_phase m [iE] (by simp) (fuelL (List.replicate m iP ++ [iE]).length) m (Nat.le_refl _) h1 (by omega)
  have hc : (ofI (List.replicate m iP ++ [iE])).code.getD m ⟨0, 0, 0, 0⟩ = iE := by
    show (List.replicate m iP ++ [iE]).getD m _ = iE
    rw [List.getD_eq_getElem?_getD, List.getElem?_append_right (by simp)]
    simp
  have hl := line_end (x := ofI (List.replicate m iP ++ [iE])) (deep := m) (fuelL (List.replicate m iP ++ [iE]).length - m - 2) hi (show m + 1 = (List.replicate m iP ++ [iE]).length by omega) (by rw [hc]; rfl) (by rw [hc]; rfl)
  rw [show fuelL (List.replicate m iP ++ [iE]).length - m - 2 + 1 + 1 = fuelL (List.replicate m iP ++ [iE]).length - m by omega] at hl
  have hv : verifyL (ofI (List.replicate m iP ++ [iE])) = .ok (rs, ss, max (m : Int) (List.replicate m (2 : Int)).length) := by
    rw [verify_ofI _ (by omega) (by omega) (fun i hi => ?_), he, hl]
    rcases List.mem_append.1 hi with h | h
    · rw [(List.mem_replicate.1 h).2]; exact may_P _
    · rw [List.mem_singleton.1 h]; exact may_E _
  rw [verifyNE, hv]
theorem mem_all {l : List Ins} {m : Nat} {rest : List Ins} (hr : ∀ i ∈ rest, mayIns (ofI l) i = true) : ∀ i ∈ List.replicate m iP ++ (List.replicate m iS ++ rest), mayIns (ofI l) i = true := by
  intro i hi
  rcases List.mem_append.1 hi with h | h
  · rw [(List.mem_replicate.1 h).2]; exact may_P _
  · rcases List.mem_append.1 h with h | h
    · rw [(List.mem_replicate.1 h).2]; exact may_S _
    · exact hr i h
theorem pushes_deep (m : Nat) (h1 : m ≤ 64) : deepNE (ofI (List.replicate m iP ++ (List.replicate m iS ++ [iE]))) = ((m : Int), 0) := by
  have hn : (List.replicate m iP ++ (List.replicate m iS ++ [iE])).length = m + (m + 1) := by simp
  have hF := fuelL_ge (List.replicate m iP ++ (List.replicate m iS ++ [iE])).length
  obtain ⟨rs, ss, ds, hi, he⟩ := store_phase m h1 [iE] (by simp) (fuelL (List.replicate m iP ++ (List.replicate m iS ++ [iE])).length) (by omega) m (Nat.le_refl _)
  have hc : (ofI (List.replicate m iP ++ (List.replicate m iS ++ [iE]))).code.getD (m + m) ⟨0, 0, 0, 0⟩ = iE := by
    show (List.replicate m iP ++ (List.replicate m iS ++ [iE])).getD (m + m) _ = iE
    rw [List.getD_eq_getElem?_getD, List.getElem?_append_right (by simp), List.getElem?_append_right (by simp)]
    simp
  have hl := line_end (x := ofI (List.replicate m iP ++ (List.replicate m iS ++ [iE]))) (deep := m) (fuelL (List.replicate m iP ++ (List.replicate m iS ++ [iE])).length - (m + m) - 2) hi (show m + m + 1 = (List.replicate m iP ++ (List.replicate m iS ++ [iE])).length by omega) (by rw [hc]; rfl) (by rw [hc]; rfl)
  rw [show fuelL (List.replicate m iP ++ (List.replicate m iS ++ [iE])).length - (m + m) - 2 + 1 + 1 = fuelL (List.replicate m iP ++ (List.replicate m iS ++ [iE])).length - (m + m) by omega] at hl
  have hv : verifyL (ofI (List.replicate m iP ++ (List.replicate m iS ++ [iE]))) = .ok (rs, ss, max (m : Int) (List.replicate (m - m) (2 : Int)).length) := by
    rw [verify_ofI _ (by omega) (by omega) (mem_all (fun i hi => by rw [List.mem_singleton.1 hi]; exact may_E _)), he, hl]
  rw [deepNE, hv]
  simp
theorem pushes_last (m : Nat) (h1 : m ≤ 64) : verifyNE (ofI (List.replicate m iP ++ (List.replicate m iS ++ [iS, iE]))) = (2 * (m : Int), 151) := by
  have hn : (List.replicate m iP ++ (List.replicate m iS ++ [iS, iE])).length = m + (m + 2) := by simp
  have hF := fuelL_ge (List.replicate m iP ++ (List.replicate m iS ++ [iS, iE])).length
  obtain ⟨rs, ss, ds, hi, he⟩ := store_phase m h1 [iS, iE] (by simp) (fuelL (List.replicate m iP ++ (List.replicate m iS ++ [iS, iE])).length) (by omega) m (Nat.le_refl _)
  have hc : (ofI (List.replicate m iP ++ (List.replicate m iS ++ [iS, iE]))).code.getD (m + m) ⟨0, 0, 0, 0⟩ = iS := by
    show (List.replicate m iP ++ (List.replicate m iS ++ [iS, iE])).getD (m + m) _ = iS
    rw [List.getD_eq_getElem?_getD, List.getElem?_append_right (by simp), List.getElem?_append_right (by simp)]
    simp
  have hl := line_err (x := ofI (List.replicate m iP ++ (List.replicate m iS ++ [iS, iE]))) (deep := m) (fuelL (List.replicate m iP ++ (List.replicate m iS ++ [iS, iE])).length - (m + m) - 1) hi (show m + m < (List.replicate m iP ++ (List.replicate m iS ++ [iS, iE])).length by omega) (by rw [hc, Nat.sub_self]; rfl)
  rw [show fuelL (List.replicate m iP ++ (List.replicate m iS ++ [iS, iE])).length - (m + m) - 1 + 1 = fuelL (List.replicate m iP ++ (List.replicate m iS ++ [iS, iE])).length - (m + m) by omega] at hl
  have hv : verifyL (ofI (List.replicate m iP ++ (List.replicate m iS ++ [iS, iE]))) = .error (((m + m : Nat) : Int), 151) := by
    rw [verify_ofI _ (by omega) (by omega) (mem_all (fun i hi => ?_)), he, hl]
    simp at hi
    rcases hi with rfl | rfl
    · exact may_S _
    · exact may_E _
  rw [verifyNE, hv, show ((m + m : Nat) : Int) = 2 * (m : Int) by omega]
end Cap
