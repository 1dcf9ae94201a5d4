/- Appending to a row of the call's own, from whatever slice. Over any program. -/
import Derived.Test.YtbnelgniekcjdaaGreatDoorCKit
import Derived.Deep.AppendSrc
import Derived.Deep.Upon
import Derived.WalkSmall
set_option linter.unusedSimpArgs false
set_option linter.unusedVariables false
namespace Go.Proofs.YtbnelgniekcjdaaGreatDoor
open Go.RowKit
variable {P : Program} {α : Type}

/-- A type's zero value, how many cells it has, how many bytes. -/
def InfoIs (P : Program) (e : TypeId) (z : Value) (k bytes : Nat) : Prop := (P.info? e).map (fun i => (i.zero, i.size, i.bytes)) = some (some z, k, bytes)
theorem InfoIs.parts {e : TypeId} {z : Value} {k bytes : Nat} (h : InfoIs P e z k bytes) : ∃ i, P.info? e = some i ∧ i.zero = some z ∧ i.size = k ∧ i.bytes = bytes := by
  unfold InfoIs at h
  cases hi : P.info? e with
  | none => rw [hi] at h; cases h
  | some i =>
    rw [hi] at h
    injection h with h
    injection h with h1 h
    injection h with h2 h3
    exact ⟨i, rfl, h1, h2, h3⟩
theorem flatMap_len {enc : α → List Value} {k : Nat} (hk : ∀ x, (enc x).length = k) (xs : List α) : (xs.flatMap enc).length = xs.length * k := by
  induction xs with
  | nil => simp
  | cons x r ih => rw [List.flatMap_cons, List.length_append, hk, ih, List.length_cons, Nat.succ_mul, Nat.add_comm]
theorem Sl.src {enc : α → List Value} {k : Nat} {w : World} {A : Option Addr} {n c : Nat} {xs : List α} (hk : ∀ x, (enc x).length = k) (h : Sl enc k w (.slice A n c) xs) (h0 : 0 < xs.length) :
    ∃ a, A = some a ∧ ∀ j u, (xs.flatMap enc)[j]? = some u → w.cell? (a.add j) = some u := by
  obtain ⟨A', c', e, h1, h2, h3⟩ := h
  injection e with e1 e2 e3
  subst e1 e2 e3
  obtain ⟨b, off, rfl, _⟩ := h3 0 _ (List.getElem?_eq_getElem h0)
  refine ⟨_, rfl, fun j u hu => ?_⟩
  have hj : j < (xs.flatMap enc).length := (List.getElem?_eq_some_iff.1 hu).1
  have hlen := flatMap_len hk xs
  rw [hlen] at hj
  have hk0 : 0 < k := by
    rcases Nat.eq_zero_or_pos k with e | e
    · rw [e, Nat.mul_zero] at hj; omega
    · exact e
  have hi : j / k < xs.length := Nat.div_lt_of_lt_mul (by rw [Nat.mul_comm]; exact hj)
  obtain ⟨x, hx⟩ : ∃ x, xs[j / k]? = some x := ⟨xs[j / k], List.getElem?_eq_getElem hi⟩
  have hm : j % k < k := Nat.mod_lt _ hk0
  obtain ⟨v, hv⟩ : ∃ v, (enc x)[j % k]? = some v := ⟨(enc x)[j % k]'(by rw [hk]; exact hm), List.getElem?_eq_getElem _⟩
  have hf := flatMap_at hk xs (j / k) x (j % k) v hx hv
  have hd : j / k * k + j % k = j := by rw [Nat.mul_comm]; exact Nat.div_add_mod j k
  rw [hd, hu] at hf
  injection hf with hf
  subst hf
  obtain ⟨b', off', e', hlt, hc⟩ := h3 (j / k) x hx
  injection e' with e'
  injection e' with eb eo
  subst eb eo
  have := hc (j % k) u hv
  rw [Addr.add_lit]
  rw [show off + j = off + j / k * k + j % k from by omega]
  exact this

/-- 'append(row, src...)' to a row of the call's own. -/
theorem run_own_app (w : World) (base : Nat) (t ty e : TypeId) (z : Value) (k bytes : Nat) (ht : P.underlying t = some (.slice e)) (hi : InfoIs P e z k bytes) (hzs : z.cells.size = k) (hsz : 0 < k)
    (v : Value) (n : Nat) (xs : List Value) (hown : w.ownsRow base e k v n xs) (enc : α → List Value) (hk : ∀ x, (enc x).length = k) (h1 : ∀ x, ∀ u ∈ enc x, u.oneCell' = true) (x : Value) (ys : List α) (hs : Sl enc k w x ys)
    (h63 : n + ys.length ≤ maxLen) (hbytes : (n + ys.length) * bytes ≤ 140737488355328) (hbase : base ≤ w.heap.size) :
    ∃ v' w', (Builtin.append_ #[t, t] ty #[v, x]).run P w = .ok v' w' ∧ w'.ownsRow base e k v' (n + ys.length) (xs ++ ys.flatMap enc) ∧ w.grownBy w' v.ownBlock := by
  obtain ⟨i, hi1, hi2, hi3, hi4⟩ := hi.parts
  have hlen := flatMap_len hk ys
  have hs' := hs
  obtain ⟨A, c, rfl, h2, h3, _⟩ := hs
  rcases Nat.eq_zero_or_pos ys.length with h0 | h0
  · obtain rfl : ys = [] := List.eq_nil_of_length_eq_zero h0
    cases A with
    | none =>
      have hv : ∃ a c', v = .slice a n c' ∧ n ≤ c' := by
        rcases hown.2 with ⟨rfl, rfl⟩ | ⟨g, cap, cur, rfl, _, _, hc, _⟩
        · exact ⟨none, 0, rfl, Nat.le_refl _⟩
        · exact ⟨_, cap, rfl, hc⟩
      obtain ⟨a, c', rfl, hc'⟩ := hv
      refine ⟨_, w, run_append_nothing w t t ty e i ht hi1 a n c' hc' _ (Src.ofNil w ht c), by simpa using hown, ⟨rfl, rfl, rfl, Nat.le_refl _, fun _ _ _ => rfl⟩⟩
    | some a =>
      obtain ⟨v', w', hr, ho, hg, _⟩ := run_append_own (P := P) w base t ty e i z k bytes ht hi1 hi2 hi3 hi4 hzs hsz v n xs hown a 0 c [] (by simp) (by simp) (by simp) (by simpa using h63) (by simpa using hbytes) hbase
      exact ⟨v', w', hr, by simpa using ho, hg⟩
  · obtain ⟨a, rfl, hcs⟩ := Sl.src hk hs' h0
    obtain ⟨v', w', hr, ho, hg, _⟩ := run_append_own (P := P) w base t ty e i z k bytes ht hi1 hi2 hi3 hi4 hzs hsz v n xs hown a ys.length c (ys.flatMap enc) hlen hcs
      (fun u hu => by
        obtain ⟨y, _, hy⟩ := List.mem_flatMap.1 hu
        exact h1 y u hy) h63 hbytes hbase
    exact ⟨v', w', hr, ho, hg⟩

/-- .. at the operation. -/
theorem wpList_app {ops : Array Oper} {rest : List Oper} {o : Oper} {a : Act} {Q : Exit → Act → World → Prop} (w : World) (hgd : o.guard = none) (s x : Operand) (t : TypeId)
    (ho : o.op = .call { callee := .builtin .append, args := #[s, x], argTypes := #[t, t] })
    (base : Nat) (e : TypeId) (z : Value) (k bytes : Nat) (ht : P.underlying t = some (.slice e)) (hi : InfoIs P e z k bytes) (hzs : z.cells.size = k) (hsz : 0 < k)
    (enc : α → List Value) (hk : ∀ x, (enc x).length = k) (h1 : ∀ x, ∀ u ∈ enc x, u.oneCell' = true)
    (v : Value) (n : Nat) (xs : List Value) (hs : a.eval s = v) (hown : w.ownsRow base e k v n xs)
    (vx : Value) (ys : List α) (hx : a.eval x = vx) (hsl : Sl enc k w vx ys)
    (h63 : n + ys.length ≤ maxLen) (hbytes : (n + ys.length) * bytes ≤ 140737488355328) (hbase : base ≤ w.heap.size)
    (h : ∀ v' w', w'.ownsRow base e k v' (n + ys.length) (xs ++ ys.flatMap enc) → w.grownBy w' v.ownBlock → wpList P ops Q rest (a.put o.dst v') w') : wpList P ops Q (o :: rest) a w := by
  refine wpList_plain hgd fun K' hK' => ?_
  obtain ⟨v', w', hr, h2, h3⟩ := run_own_app (P := P) w base t o.type e z k bytes ht hi hzs hsz v n xs hown enc hk h1 vx ys hsl h63 hbytes hbase
  unfold Oper.wp execOp
  simp only [ho, resolve, invoke, builtin, Sem.run_bind, Sem.run_pure, Result.andThen_ok, List.map_toArray, List.map_cons, List.map_nil, hs, hx, hr]
  exact hK' _ _ (h v' w' h2 h3)

/-- A row of the call's own, read. -/
theorem Sl.own {enc : α → List Value} {k : Nat} (hk : ∀ x, (enc x).length = k) {w : World} {base : Nat} {e : TypeId} {v : Value} {n : Nat} {xs : List α} (h : w.ownsRow base e k v n (xs.flatMap enc)) (hn : n = xs.length) : Sl enc k w v xs := by
  subst hn
  rcases h.2 with ⟨rfl, h0⟩ | ⟨g, cap, cur, rfl, hb, hg, hc, hm, hs, ht⟩
  · obtain rfl : xs = [] := List.eq_nil_of_length_eq_zero h0
    exact Sl.nil _ _ _
  · unfold maxLen at hm
    refine ⟨_, _, rfl, hc, by omega, fun i x hx => ⟨g, 0, rfl, (Array.getElem?_eq_some_iff.1 hg).1, fun j u hu => ?_⟩⟩
    have h1 := flatMap_at hk xs i x j u hx hu
    have h2 := h.cells (g := g) rfl (i * k + j) u h1
    rw [Addr.add_lit] at h2
    simpa [Nat.add_assoc] using h2
theorem own_base {w : World} {base base' : Nat} {e : TypeId} {k : Nat} {v : Value} {n : Nat} {xs : List Value} (h : w.ownsRow base e k v n xs) (hb : base' ≤ base) : w.ownsRow base' e k v n xs := by
  refine ⟨h.1, ?_⟩
  rcases h.2 with h | ⟨g, cap, cur, h1, h2, h3⟩
  · exact .inl h
  · exact .inr ⟨g, cap, cur, h1, Nat.le_trans hb h2, h3⟩
theorem below_grown {w W W' : World} {row : Option Nat} (h : Below w.heap.size w W) (hg : W.grownBy W' row) (hr : ∀ g, row = some g → w.heap.size ≤ g) : Below w.heap.size w W' := h.grown hg h.size hr
theorem own_ge {w W : World} {base : Nat} {e : TypeId} {k : Nat} {v : Value} {n : Nat} {xs : List Value} (h : W.ownsRow base e k v n xs) (hb : w.heap.size ≤ base) : ∀ g, v.ownBlock = some g → w.heap.size ≤ g := by
  intro g hg
  rcases h.2 with ⟨rfl, _⟩ | ⟨g', cap, cur, rfl, hb', _⟩
  · simp [Value.ownBlock] at hg
  · simp [Value.ownBlock] at hg
    omega
theorem own_below {W W' : World} {base : Nat} {e : TypeId} {k : Nat} {v : Value} {n : Nat} {xs : List Value} (h : W.ownsRow base e k v n xs) (hb : Below W.heap.size W W') : W'.ownsRow base e k v n xs :=
  h.kept (row := none) ⟨hb.os, hb.tape, hb.output, hb.size, fun i hi _ => hb.block i hi⟩ (by cases v.ownBlock <;> simp)
end Go.Proofs.YtbnelgniekcjdaaGreatDoor
