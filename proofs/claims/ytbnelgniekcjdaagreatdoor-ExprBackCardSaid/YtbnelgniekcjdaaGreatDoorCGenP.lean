/- slices.IndexFunc and ContainsFunc over parts. -/
import Derived.Test.YtbnelgniekcjdaaGreatDoorCFBase
import Derived.Test.YtbnelgniekcjdaaGreatDoorCFSpec
set_option linter.unusedSimpArgs false
set_option linter.unusedVariables false
namespace Go.Proofs.YtbnelgniekcjdaaGreatDoor
open Go.RowKit Cap

/- slices.IndexFunc over []capstan/api.Part,capstan/api.Part. -/
set_option maxHeartbeats 1000000 in
theorem indexFunc_prt (p : Prt → Bool) (g : Nat) (lb : Array Value) (eg : ∀ args w, (callFunc g args).run Tryz.prog w = .ok (.enter g args) w) (v : Value) (xs : List Prt) (w : World)
    (hp : PredC Tryz.prog g lb (fun x => prtV x) p xs w) (hs : Sl encPrt 5 w v xs) :
    Calls Tryz.prog 41 #[v, .func (.func g) #[] lb] w fun e w' => e = .returned (.int .i64 (idxP p xs 0)) ∧ Below w.heap.size w w' := by
  obtain ⟨A, c, rfl, hlc, hc, hcell⟩ := hs
  have hbig : xs.length ≤ 9223372036854775807 := Nat.le_trans hlc hc
  go_enter Tryz.func41, Tryz.ntmps41
  go_wp2
  go_loopg [5, 8] xs.length (fun gg _ s8 wr => ∃ kk : Nat, kk ≤ xs.length ∧ xs.length - kk ≤ gg ∧ s8 = .int .i64 kk ∧ Aside (Below w.heap.size w wr) ∧ Aside (idxP p (xs.drop kk) kk = idxP p xs 0))
  case atStart => exact ⟨0, Nat.zero_le _, by omega, rfl, Below.refl _ w, rfl⟩
  case round =>
    obtain ⟨kk, hkk, hg, rfl, BW, HF⟩ := hrel
    by_cases hlt : kk < xs.length
    · obtain ⟨x, hx⟩ : ∃ x, xs[kk]? = some x := ⟨xs[kk], List.getElem?_eq_getElem hlt⟩
      obtain ⟨b, off, rfl, hb, hcx⟩ := hcell kk x hx
      have hX := Lib.hid hx
      have hmem := List.mem_of_getElem? hx
      clear hcell hx
      have hltz : (kk : Int) < (xs.length : Int) := by omega
      have c0 : wr.cell? ⟨b, off + kk * 5, none⟩ = some (.int .i64 x.k) := by simpa using (BW.out.cell (p := ⟨b, off + kk * 5 + 0, none⟩) hb).trans (hcx 0 _ rfl)
      have c1 : wr.cell? ⟨b, off + kk * 5 + 1, none⟩ = some (.int .i64 x.n) := by simpa using (BW.out.cell (p := ⟨b, off + kk * 5 + 1, none⟩) hb).trans (hcx 1 _ rfl)
      have c2 : wr.cell? ⟨b, off + kk * 5 + 2, none⟩ = some (.int .i64 x.t) := by simpa using (BW.out.cell (p := ⟨b, off + kk * 5 + 2, none⟩) hb).trans (hcx 2 _ rfl)
      have c3 : wr.cell? ⟨b, off + kk * 5 + 3, none⟩ = some (.string x.s) := by simpa using (BW.out.cell (p := ⟨b, off + kk * 5 + 3, none⟩) hb).trans (hcx 3 _ rfl)
      have c4 : wr.cell? ⟨b, off + kk * 5 + 4, none⟩ = some (.string x.f) := by simpa using (BW.out.cell (p := ⟨b, off + kk * 5 + 4, none⟩) hb).trans (hcx 4 _ rfl)
      clear hcx
      have hcall := hp wr x hmem BW.out
      clear hmem
      cases hq : p x with
      | true =>
        rw [hq] at hcall
        go_wp2_with (refine hcall.mono ?_; rintro e w' ⟨rfl, hb'⟩)
        go_ret
        refine ⟨ret_i ?_, below_call hb' BW.out⟩
        rw [← HF.out, idxP_drop hX.out, hq]
        rfl
      | false =>
        rw [hq] at hcall
        go_wp2_with (refine hcall.mono ?_; rintro e w' ⟨rfl, hb'⟩)
        go_roundg (xs.length - (kk + 1))
        case measure => omega
        case rel =>
          refine ⟨kk + 1, by omega, by omega, by go_num, below_call hb' BW.out, (show Aside _ from ?_)⟩
          have h1 := HF.out
          rw [idxP_drop hX.out, hq] at h1
          exact h1
    · have : kk = xs.length := by omega
      have hltz : ¬ (kk : Int) < (xs.length : Int) := by omega
      subst this
      clear hcell
      go_wp2
      go_ret
      refine ⟨ret_i ?_, BW.out⟩
      rw [← HF.out, List.drop_length]
      rfl

/- slices.ContainsFunc over []capstan/api.Part,capstan/api.Part. -/
theorem containsFunc_prt (p : Prt → Bool) (g : Nat) (lb : Array Value) (eg : ∀ args w, (callFunc g args).run Tryz.prog w = .ok (.enter g args) w) (v : Value) (xs : List Prt) (w : World)
    (hp : PredC Tryz.prog g lb (fun x => prtV x) p xs w) (hs : Sl encPrt 5 w v xs) :
    Calls Tryz.prog 26 #[v, .func (.func g) #[] lb] w fun e w' => e = .returned (.bool (xs.any p)) ∧ Below w.heap.size w w' := by
  have hI := indexFunc_prt p g lb eg v xs w hp hs
  have hA := any_idxP p xs
  have HA := Lib.hid hA
  clear hA
  go_enter Tryz.func26, Tryz.ntmps26
  go_wp2_with (go_at_call 41; refine hI.mono ?_; rintro e w' ⟨rfl, hb'⟩)
  go_ret
  exact ⟨ret_b (by rw [HA.out]), hb'⟩

end Go.Proofs.YtbnelgniekcjdaaGreatDoor
