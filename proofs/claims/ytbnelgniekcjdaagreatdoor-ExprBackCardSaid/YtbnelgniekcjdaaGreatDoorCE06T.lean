/- capstanlaw06.ExprStops: what its operations leave, and which tokens stop. -/
import Derived.Test.YtbnelgniekcjdaaGreatDoorCEStops
import Derived.Test.YtbnelgniekcjdaaGreatDoorCEPLaw2
import Derived.Test.YtbnelgniekcjdaaGreatDoorCLit
import Derived.Test.YtbnelgniekcjdaaGreatDoorCRdK
set_option linter.unusedSimpArgs false
set_option linter.unusedVariables false
namespace Go.Proofs.YtbnelgniekcjdaaGreatDoor
open Go.RowKit Cap
set_option maxRecDepth 1000000
def stopTok : List Tok := [⟨3, ⟨#[59]⟩, 0, 0, 0⟩, ⟨1, ⟨#[84, 72, 69, 78]⟩, 0, 0, 0⟩, ⟨3, ⟨#[41]⟩, 0, 0, 0⟩, ⟨2, ⟨#[]⟩, 5, 0, 0⟩, ⟨4, ⟨#[]⟩, 0, 0, 0⟩]
theorem idx5 (a : Int) : ∃ i : Nat, i < 5 ∧ wrap64 ((IntKind.u64.wrap a).tmod 5) = (i : Int) := by
  have h0 : 0 ≤ IntKind.u64.wrap a ∧ IntKind.u64.wrap a < 18446744073709551616 := by
    rw [IntKind.wrap_u64]
    omega
  have h1 : (IntKind.u64.wrap a).tmod 5 = IntKind.u64.wrap a % 5 := Int.tmod_eq_emod_of_nonneg h0.1
  refine ⟨(IntKind.u64.wrap a % 5).toNat, by omega, ?_⟩
  rw [h1]
  unfold wrap64
  omega
theorem hpN {W : World} {B : Nat} {cs : Array Value} {T : TypeId} (h : B = W.heap.size) : (W.alloc (.cells cs T)).heap[B]? = some (.cells cs T (0, 0)) := by
  subst h
  exact heap_alloc_new _ _
theorem hpB {W W' : World} {b : Nat} {o : Obj} (hb : Below W.heap.size W W') (h : W.heap[b]? = some o) : W'.heap[b]? = some o := (hb.block b (Array.getElem?_eq_some_iff.1 h).1).trans h
/-- What lies there already, stored once more. -/
theorem set00 {w : World} {g : Nat} {T : TypeId} (h : w.heap[g]? = some (.cells #[.int .i64 0, .int .i64 0] T (0, 0))) : w.setCells g 0 [.int .i64 0, .int .i64 0] = w := by
  have c0 := cell_of_row _ _ 0 _ _ _ h
  have c1 := cell_of_row _ _ 1 _ _ _ h
  have h1 := run_storeCells_cells (P := Tryz.prog) g 0 [.int .i64 0, .int .i64 0] 0 w (fun j hj => by
    simp at hj
    rcases (show j = 0 ∨ j = 1 by omega) with rfl | rfl
    · simp at c0 ⊢; rw [c0]; rfl
    · simp at c1 ⊢; rw [c1]; rfl) (fun j hj => by simp [World.frozen?, h]) (by simp [Value.oneCell'])
  have h2 := run_storeCells_at (P := Tryz.prog) g 0 T [.int .i64 0, .int .i64 0] 0 _ w h (by simp) (by simp [Value.oneCell'])
  have h3 := h1.symm.trans h2
  injection h3 with _ h3
  rw [Nat.add_zero] at h3
  rw [h3]
  exact setRow_self w g _ T (0, 0) h
/-- What each operation of the second reading's region leaves. -/
def esF (base m n c : Nat) (A : Option Addr) (tk : List Tok) (t : Tok) (x : List Prt) : Nat → Value → Value → World → Prop
  | 0, v, _, w => LitAt base 38 w v
  | 1, v, _, _ => v = .slice A n c
  | 2, v, _, _ => v = .int .i64 (m : Int)
  | 3, v, _, _ => v = .slice A m c
  | 4, v, _, w => w.ownsRow base 38 5 v tk.length (tk.flatMap encTok)
  | 5, v, _, _ => v = .agg #[.int .i64 t.k, .string t.s, .int .i64 t.n, .int .i64 t.ty, .int .i64 t.pos]
  | 6, v, _, w => Sl encTok 5 w v [t]
  | 7, v, _, w => TokL w v (tk ++ [t])
  | 8, v, _, w => ∃ u, v = .tuple #[u, .int .i64 (m : Int), .agg #[.int .i64 0, .int .i64 0]] ∧ Sl encPrt 5 w u x
  | 9, v, _, w => ∃ u, v = .tuple #[u, .int .i64 (m : Int), .agg #[.int .i64 0, .int .i64 0]] ∧ Sl encPrt 5 w u x
  | 10, v, _, w => Sl encPrt 5 w v x
  | 11, v, _, _ => v = .int .i64 (m : Int)
  | 12, v, _, _ => v = .agg #[.int .i64 0, .int .i64 0]
  | 13, v, _, w => ∃ g, v = .pointer (some ⟨g, 0, none⟩) ∧ base ≤ g ∧ w.heap[g]? = some (.cells #[.int .i64 0, .int .i64 0] 34 (0, 0))
  | 14, v, _, w => Sl encPrt 5 w v x
  | 15, v, _, _ => v = .int .i64 (m : Int)
  | _, _, _, _ => True
theorem esF_below {base m n c : Nat} {A : Option Addr} {tk : List Tok} {t : Tok} {x : List Prt} (i : Nat) (v r : Value) (w w' : World) (h : esF base m n c A tk t x i v r w) (hb : Below w.heap.size w w') : esF base m n c A tk t x i v r w' := by
  revert h
  unfold esF
  split <;> intro h <;> first
    | exact h
    | exact LitAt.below h hb
    | exact own_below h hb
    | exact Sl.below h hb
    | exact ⟨h.choose, h.choose_spec.1, h.choose_spec.2.below hb⟩
    | (obtain ⟨g, h1, h2, h3⟩ := h
       exact ⟨g, h1, h2, (hb.block g (Array.getElem?_eq_some_iff.1 h3).1).trans h3⟩)
/-- A row of tokens does not lie where a fault does. -/
theorem tok_not_fault {w : World} {base : Nat} {v : Value} {n : Nat} {xs : List Value} (h : w.ownsRow base 38 5 v n xs) {g : Nat} {cs : Array Value} (hg : w.heap[g]? = some (.cells cs 34 (0, 0))) : some g ≠ v.ownBlock := by
  rcases h.2 with ⟨rfl, _⟩ | ⟨g', cap, cur, rfl, hb', hh, _⟩
  · simp [Value.ownBlock]
  · intro e
    simp [Value.ownBlock] at e
    subst e
    rw [hg] at hh
    injection hh with hh
    injection hh with _ h2 _
    exact absurd h2 (by decide)
def stopCs : Array Value := #[.int .i64 3, .string ⟨#[59]⟩, .int .i64 0, .int .i64 0, .int .i64 0, .int .i64 1, .string ⟨#[84, 72, 69, 78]⟩, .int .i64 0, .int .i64 0, .int .i64 0, .int .i64 3, .string ⟨#[41]⟩, .int .i64 0, .int .i64 0, .int .i64 0, .int .i64 2, .string ⟨#[]⟩, .int .i64 5, .int .i64 0, .int .i64 0, .int .i64 4, .string ⟨#[]⟩, .int .i64 0, .int .i64 0, .int .i64 0]
theorem stop_at : ∀ i : Nat, i < 5 → ∃ t : Tok, stopTok[i]? = some t ∧ stopCs[i * 5]? = some (.int .i64 t.k) ∧ stopCs[i * 5 + 1]? = some (.string t.s) ∧ stopCs[i * 5 + 2]? = some (.int .i64 t.n) ∧ stopCs[i * 5 + 3]? = some (.int .i64 t.ty) ∧ stopCs[i * 5 + 4]? = some (.int .i64 t.pos)
  | 0, _ => ⟨_, rfl, rfl, rfl, rfl, rfl, rfl⟩
  | 1, _ => ⟨_, rfl, rfl, rfl, rfl, rfl, rfl⟩
  | 2, _ => ⟨_, rfl, rfl, rfl, rfl, rfl, rfl⟩
  | 3, _ => ⟨_, rfl, rfl, rfl, rfl, rfl, rfl⟩
  | 4, _ => ⟨_, rfl, rfl, rfl, rfl, rfl, rfl⟩
  | i + 5, h => absurd h (by omega)
/-- None of these goes on with an expression. -/
theorem stop_tok {l : List Tok} {n : Nat} (hn : n ≤ l.length) {i : Nat} {t : Tok} (ht : stopTok[i]? = some t) : StopAt (l.take n ++ [t]) n := by
  have hat : (l.take n ++ [t])[n]? = some t := by
    rw [List.getElem?_append_right (by rw [List.length_take]; omega), List.length_take, Nat.min_eq_left hn, Nat.sub_self]
    rfl
  have hall : ∀ u ∈ stopTok, ((rows7.all fun row => opsAt [u] 0 row == 0) && !(isTok [u] 0 3 ⟨#[91]⟩) && !(isTok [u] 0 3 ⟨#[46]⟩)) = true := by
    intro u hu
    have h : stopTok.all (fun u => (rows7.all fun row => opsAt [u] 0 row == 0) && !(isTok [u] 0 3 ⟨#[91]⟩) && !(isTok [u] 0 3 ⟨#[46]⟩)) = true := by kernel_rfl
    exact List.all_eq_true.1 h u hu
  have h := hall t (List.mem_of_getElem? ht)
  have e : ∀ k s, isTok (l.take n ++ [t]) n k s = isTok [t] 0 k s := fun k s => by
    unfold isTok
    rw [hat]
    rfl
  have eo : ∀ row, opsAt (l.take n ++ [t]) n row = opsAt [t] 0 row := by
    intro row
    induction row with
    | nil => rfl
    | cons m r ih =>
      unfold opsAt isOpAt
      rw [e, e, e, e, ih]
  simp only [Bool.and_eq_true, List.all_eq_true, beq_iff_eq, Bool.not_eq_true'] at h
  exact ⟨fun row hr => by rw [eo]; exact h.1.1 row hr, by rw [e]; exact h.1.2, by rw [e]; exact h.2⟩
theorem sl_take {α : Type} {enc : α → List Value} {k : Nat} {w : World} {A : Option Addr} {n c : Nat} {xs : List α} (h : Sl enc k w (.slice A n c) xs) {m : Nat} (hm : m ≤ xs.length) (hc : m ≤ c) : Sl enc k w (.slice A m c) (xs.take m) := by
  obtain ⟨A', c', e, h1, h2, h3⟩ := h
  injection e with e1 e2 e3
  subst e1 e3
  refine ⟨A, c, ?_, ?_, h2, fun i x hx => ?_⟩
  · rw [List.length_take, Nat.min_eq_left hm]
  · rw [List.length_take]; omega
  · have hlt : i < m := by
      have := (List.getElem?_eq_some_iff.1 hx).1
      rw [List.length_take] at this
      omega
    exact h3 i x (by rw [← hx, List.getElem?_take_of_lt hlt])
theorem stop_small : ∀ u ∈ stopTok, u.s.size ≤ 140737488351232 := by decide
theorem pare_ok {w : World} {x : List Prt} {n : Int} {e : Ending} {w' : World} (h : ParE w (.ok x n) e w') : ∃ v, e = .returned (.tuple #[v, .int .i64 n, .agg #[.int .i64 0, .int .i64 0]]) ∧ Sl encPrt 5 w' v x ∧ Below w.heap.size w w' := by
  cases h with
  | ok h hb => exact ⟨_, rfl, Sl.own encPrt_len h rfl, hb⟩
theorem stop_row {w w' : World} {base : Nat} {v : Value} {xs : List Tok} {t : Tok} (h : w.ownsRow base 38 5 v (xs.length + [t].length) (xs.flatMap encTok ++ [t].flatMap encTok)) (hb : Below w.heap.size w w') : TokL w' v (xs ++ [t]) := by
  rw [← List.length_append, ← List.flatMap_append] at h
  exact (Sl.own encTok_len h rfl).below hb
end Go.Proofs.YtbnelgniekcjdaaGreatDoor
