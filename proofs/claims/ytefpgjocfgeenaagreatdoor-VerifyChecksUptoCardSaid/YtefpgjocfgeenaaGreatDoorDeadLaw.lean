/- Code behind, that is not reached, changes nothing: the plain law of VerifyDead. No program in sight. -/
import Derived.Test.YtefpgjocfgeenaaGreatDoorSpec
namespace Cap

/-- An image with more code behind. -/
def ext (x : Img) (e : List Ins) : Img := { x with code := x.code ++ e }
theorem ext_nil (x : Img) : ext x [] = x := by simp [ext]
theorem ext_ext (x : Img) (e f : List Ins) : ext (ext x e) f = ext x (e ++ f) := by simp [ext]
theorem leftL_app : ∀ (ds es : List Bool), leftL (ds ++ es) = leftL ds + leftL es
  | [], es => by simp [leftL]
  | d :: ds, es => by rw [List.cons_append, leftL, leftL, leftL_app ds es]; omega
theorem getD_app {α : Type} {l m : List α} {k : Nat} {d : α} (h : k < l.length) : (l ++ m).getD k d = l.getD k d := by
  rw [List.getD_eq_getElem?_getD, List.getD_eq_getElem?_getD, List.getElem?_append_left h]
theorem getD_rep {α : Type} {l : List α} {k p : Nat} {d : α} (h : l.length ≤ k) : (l ++ List.replicate p d).getD k d = d := by
  rw [List.getD_eq_getElem?_getD, List.getElem?_append_right h, List.getElem?_replicate]
  split <;> rfl
theorem set_app {α : Type} {l m : List α} {k : Nat} {v : α} (h : k < l.length) : (l ++ m).set k v = l.set k v ++ m := by
  rw [List.set_append_left _ _ h]
/-- What tosL makes is as long as before. -/
theorem reachS_len {rs rs' : List Bool} {ss ss' : List (List Int)} {k : Nat} {st : List Int} (h : reachS rs ss k st = some (rs', ss')) : rs'.length = rs.length ∧ ss'.length = ss.length := by
  unfold reachS at h
  split at h
  · split at h
    · injection h with h; injection h with h1 h2; subst h1 h2; exact ⟨rfl, rfl⟩
    · cases h
  · injection h with h; injection h with h1 h2; subst h1 h2; simp
theorem tosL_len {n : Nat} {at_ : Int} {ds : List Bool} {st : List Int} : ∀ {l : List Int} {rs rs' : List Bool} {ss ss' : List (List Int)} {back back' : Int}, tosL n at_ ds st l rs ss back = .ok (rs', ss', back') → rs'.length = rs.length ∧ ss'.length = ss.length
  | [], _, _, _, _, _, _, h => by
    simp only [tosL] at h
    injection h with h; injection h with h1 h2; injection h2 with h2 h3; subst h1 h2; exact ⟨rfl, rfl⟩
  | to' :: r, rs, _, ss, _, back, _, h => by
    rw [tosL] at h
    split at h
    · cases h
    · split at h
      · cases h
      · rename_i rs1 ss1 hr
        have h1 := reachS_len hr
        have h2 := tosL_len h
        exact ⟨h2.1.trans h1.1, h2.2.trans h1.2⟩
theorem reachS_app {rs rs' : List Bool} {ss ss' : List (List Int)} {k : Nat} {st : List Int} (p : Nat) (hk : k < rs.length) (hk' : k < ss.length) (h : reachS rs ss k st = some (rs', ss')) :
    reachS (rs ++ List.replicate p false) (ss ++ List.replicate p []) k st = some (rs' ++ List.replicate p false, ss' ++ List.replicate p []) := by
  unfold reachS at *
  rw [getD_app hk, getD_app hk', set_app hk, set_app hk']
  split
  · rename_i h1
    rw [if_pos h1] at h
    split
    · rename_i h2
      rw [if_pos h2] at h
      injection h with h; injection h with h1 h2; subst h1 h2; rfl
    · rename_i h2
      rw [if_neg h2] at h
      cases h
  · rename_i h1
    rw [if_neg h1] at h
    injection h with h; injection h with h1 h2; subst h1 h2; rfl
theorem tosL_app {n p : Nat} {at_ : Int} {ds : List Bool} {st : List Int} (hn : 0 < n) (hds : ds.length = n) : ∀ {l : List Int} {rs rs' : List Bool} {ss ss' : List (List Int)} {back back' : Int}, rs.length = n → ss.length = n → tosL n at_ ds st l rs ss back = .ok (rs', ss', back') →
    tosL (n + p) at_ (ds ++ List.replicate p false) st l (rs ++ List.replicate p false) (ss ++ List.replicate p []) back = .ok (rs' ++ List.replicate p false, ss' ++ List.replicate p [], back')
  | [], _, _, _, _, _, _, _, _, h => by
    simp only [tosL] at h ⊢
    injection h with h; injection h with h1 h2; injection h2 with h2 h3; subst h1 h2 h3; rfl
  | to' :: r, rs, _, ss, _, back, _, hr, hs, h => by
    rw [tosL] at h ⊢
    split at h
    · cases h
    · rename_i hto
      rw [if_neg (by omega)]
      split at h
      · cases h
      · rename_i rs1 ss1 h1
        have hlen := reachS_len h1
        rw [reachS_app p (by omega) (by omega) h1]
        simp only []
        rw [getD_app (by omega)]
        exact tosL_app hn hds (hlen.1.trans hr) (hlen.2.trans hs) h
/-- What is behind is passed over. -/
theorem runL_behind (y : Img) (n p : Nat) (rs : List Bool) (ss : List (List Int)) (deep : Int) (ds : List Bool) (hr : rs.length = n) : ∀ (g k : Nat), n ≤ k →
    runL y g (rs ++ List.replicate p false) ss deep ds k = .ok (rs ++ List.replicate p false, ss, deep)
  | 0, _, _ => rfl
  | g + 1, k, hk => by
    rw [runL]
    split
    · rfl
    · rw [if_pos (by rw [getD_rep (by omega)]; simp)]
      exact runL_behind y n p rs ss deep ds hr g (k + 1) (by omega)
/-- How many rounds are left at most. -/
def left (n : Nat) (ds : List Bool) (k : Nat) : Nat := leftL ds * (n + 1) + (n - k) + 1
theorem runL_app (x : Img) (e : List Ins) (p : Nat) (hp : e.length = p) : ∀ (g G k : Nat) (rs rs' : List Bool) (ss ss' : List (List Int)) (deep deep' : Int) (ds : List Bool),
    rs.length = x.code.length → ss.length = x.code.length → ds.length = x.code.length → left x.code.length ds k ≤ g → left (x.code.length + p) (ds ++ List.replicate p false) k ≤ G →
    runL x g rs ss deep ds k = .ok (rs', ss', deep') →
    runL (ext x e) G (rs ++ List.replicate p false) (ss ++ List.replicate p []) deep (ds ++ List.replicate p false) k = .ok (rs' ++ List.replicate p false, ss' ++ List.replicate p [], deep')
  | 0, _, _, _, _, _, _, _, _, _, _, _, _, hg, _, _ => by unfold left at hg; omega
  | g + 1, 0, _, _, _, _, _, _, _, _, _, _, _, _, hG, _ => by unfold left at hG; omega
  | g + 1, G + 1, k, rs, rs', ss, ss', deep, deep', ds, hr, hs, hd, hg, hG, h => by
    rw [runL] at h
    by_cases hk : x.code.length ≤ k
    · rw [if_pos hk] at h
      injection h with h; injection h with h1 h; injection h with h2 h3
      subst h1 h2 h3
      exact runL_behind _ x.code.length p _ _ _ _ hr _ k hk
    · rw [if_neg hk] at h
      rw [runL, if_neg (by simp [ext, hp]; omega)]
      rw [getD_app (by omega), getD_app (by omega)]
      have hl := leftL_app ds (List.replicate p false)
      rw [leftL_none] at hl
      split at h
      · rename_i hq
        rw [if_pos hq]
        refine runL_app x e p hp g G (k + 1) _ _ _ _ _ _ _ hr hs hd ?_ ?_ h
        · unfold left at *; omega
        · unfold left at *; omega
      · rename_i hq
        rw [if_neg hq]
        have hc : (ext x e).code.getD k ⟨0, 0, 0, 0⟩ = x.code.getD k ⟨0, 0, 0, 0⟩ := getD_app (by omega)
        have hss : (ss ++ List.replicate p []).getD k [] = ss.getD k [] := getD_app (by omega)
        have hst : ∀ i st, stepS (ext x e) i st = stepS x i st := fun _ _ => rfl
        have hlen : (ext x e).code.length = x.code.length + p := by simp [ext, hp]
        rw [hc, hss, hst, hlen]
        split at h
        · cases h
        · rename_i st h1
          have hdk : ds[k]? = some false := by
            have h2 : ds.getD k false = false := by
              cases hb : ds.getD k false with
              | false => rfl
              | true => rw [hb] at hq; simp at hq
            rw [List.getD_eq_getElem?_getD, List.getElem?_eq_getElem (by omega)] at h2
            rw [List.getElem?_eq_getElem (by omega)]
            simpa using h2
          have hset := leftL_set ds k hdk
          split at h
          · cases h
          · rename_i rs1 ss1 back h2
            have hl2 := tosL_len h2
            rw [set_app (by omega), tosL_app (p := p) (by omega) (by simpa using hd) hr hs h2]
            simp only []
            have hl' := leftL_app (ds.set k true) (List.replicate p false)
            rw [leftL_none] at hl'
            refine runL_app x e p hp g G back.toNat _ _ _ _ _ _ _ (hl2.1.trans hr) (hl2.2.trans hs) (by simpa using hd) ?_ ?_ h
            · unfold left at *
              rw [← hset, Nat.succ_mul] at hg
              omega
            · unfold left at *
              rw [hl, ← hset, show leftL (ds.set k true) + 1 + p = (leftL (ds.set k true) + p) + 1 from by omega, Nat.succ_mul] at hG
              rw [hl']
              omega
/-- An image that is verified, with more code behind that may be. -/
theorem verifyL_ext {x : Img} {e : List Ins} {rs : List Bool} {ss : List (List Int)} {d : Int} (h : verifyL x = .ok (rs, ss, d)) (hc : (codeCheck (ext x e)).2 = 0) :
    verifyL (ext x e) = .ok (rs ++ List.replicate e.length false, ss ++ List.replicate e.length [], d) := by
  unfold verifyL at h ⊢
  rw [if_neg (by simp [hc])]
  split at h
  · cases h
  · rename_i h0
    obtain ⟨hs, _, _⟩ := codeCheck_ok (x := x) (by simpa using h0)
    obtain ⟨_, h1, _⟩ := sound_len hs
    have hlen : (ext x e).code.length = x.code.length + e.length := by simp [ext]
    have hF := leftL_none
    have := runL_app x e e.length rfl _ (fuelL (x.code.length + e.length)) 0 _ _ _ _ _ _ (List.replicate x.code.length false) (by simp) (by simp) (by simp) ?_ ?_ h
    · rw [hlen, ← List.replicate_append_replicate, ← List.replicate_append_replicate, set_app (by simp; omega)]
      exact this
    · unfold left fuelL; rw [hF]; omega
    · unfold left fuelL; rw [List.replicate_append_replicate, hF]; omega
theorem runL_len {x : Img} : ∀ {g : Nat} {rs rs' : List Bool} {ss ss' : List (List Int)} {deep d : Int} {ds : List Bool} {k : Nat}, runL x g rs ss deep ds k = .ok (rs', ss', d) → rs'.length = rs.length
  | 0, _, _, _, _, _, _, _, _, h => by simp only [runL] at h; injection h with h; injection h with h; subst h; rfl
  | g + 1, _, _, _, _, _, _, _, _, h => by
    rw [runL] at h
    split at h
    · injection h with h; injection h with h; subst h; rfl
    · split at h
      · exact runL_len h
      · split at h
        · cases h
        · split at h
          · cases h
          · rename_i h2
            exact (runL_len h).trans (tosL_len h2).1
theorem verifyL_len {x : Img} {rs : List Bool} {ss : List (List Int)} {d : Int} (h : verifyL x = .ok (rs, ss, d)) : rs.length = x.code.length := by
  unfold verifyL at h
  split at h
  · cases h
  · have := runL_len h
    simpa using this
theorem verifyL_code {x : Img} {r : List Bool × List (List Int) × Int} (h : verifyL x = .ok r) : (codeCheck x).2 = 0 := by
  unfold verifyL at h
  split at h
  · cases h
  · rename_i h0; simpa using h0
/-- What the loop of VerifyDead puts behind. -/
def addAll (x : Img) : List Ins → List Ins → List Ins
  | e, [] => e
  | e, i :: r => addAll x (if (codeCheck (ext x (e ++ [i]))).2 = 0 then e ++ [i] else e) r
end Cap
