/- Package code: which instructions may be: what each call answers. -/
import Derived.Test.YtefpgjocfgeenaaGreatDoorCode
import Derived.Test.YtefpgjocfgeenaaGreatDoorName
namespace Go.Proofs.YtefpgjocfgeenaaGreatDoor
open Go.RowKit Cap
set_option maxRecDepth 100000

def ruleFn (op : Int) : FuncId :=
  if op = 1 then 186 else if op = 2 then 180 else if op = 3 then 180 else if op = 4 then 182 else if op = 5 then 182
  else if op = 6 then 187 else if op = 7 then 188 else if op = 8 then 189 else if op = 9 then 185 else if op = 10 then 185
  else if op = 11 then 190 else 193
def encRule (op : Int) : List Value := [.bool (ruleA op), .bool (ruleB op), .bool (ruleN op), .func (.func (ruleFn op)) #[] #[]]
def ruleOps : List Int := [1, 2, 3, 4, 5, 6, 7, 8, 9, 10, 11, 12]
theorem encRule_len (op : Int) : (encRule op).length = 4 := rfl
theorem rule_at {op : Int} (h1 : 1 ≤ op) (h2 : op ≤ 12) : ruleOps[op.toNat - 1]? = some op := by
  have h : op = 1 ∨ op = 2 ∨ op = 3 ∨ op = 4 ∨ op = 5 ∨ op = 6 ∨ op = 7 ∨ op = 8 ∨ op = 9 ∨ op = 10 ∨ op = 11 ∨ op = 12 := by omega
  rcases h with rfl | rfl | rfl | rfl | rfl | rfl | rfl | rfl | rfl | rfl | rfl | rfl <;> rfl

def RulesR (w : World) (e : Ending) (w' : World) : Prop := ∃ v, e = .returned v ∧ Sl encRule 4 w' v ruleOps ∧ Below w.heap.size w w'
set_option maxHeartbeats 1000000 in
theorem rules_c (w : World) : Calls Tryz.prog 106 #[] w (RulesR w) := by
  go_enter Tryz.func106, Tryz.ntmps106
  go_wp2
  go_ret
  refine ⟨_, rfl, Sl.lit' encRule_len _ _ _ _ _ _ ?_ ?_ rfl (by decide), by (repeat' (first | (with_reducible exact Below.refl _ _) | (with_reducible refine below_alloc ?_) | (with_reducible refine below_drew ?_) | (with_reducible refine below_drewN ?_) | (with_reducible refine below_set (by simp; omega) ?_) | (with_reducible refine below_call (by with_reducible assumption) ?_)))⟩
  · simp
  · kernel_rfl

theorem mayF_c (x : Img) (vx : Value) (i : Ins) (w : World) (op : Int) (h1 : 1 ≤ op) (h2 : op ≤ 12) (hx : ImgV w vx x) (hi : InsOk i) :
    Calls Tryz.prog (ruleFn op) #[vx, insV i] w fun e w' => e = .returned (.bool (mayF op x i)) ∧ Below w.heap.size w w' := by
  have h : op = 1 ∨ op = 2 ∨ op = 3 ∨ op = 4 ∨ op = 5 ∨ op = 6 ∨ op = 7 ∨ op = 8 ∨ op = 9 ∨ op = 10 ∨ op = 11 ∨ op = 12 := by omega
  rcases h with rfl | rfl | rfl | rfl | rfl | rfl | rfl | rfl | rfl | rfl | rfl | rfl
  · exact rule4_c x vx i w hx
  · exact rule1_c x vx i w hx hi
  · exact rule1_c x vx i w hx hi
  · exact rule2_c x vx i w hx hi
  · exact rule2_c x vx i w hx hi
  · exact rule5_c x vx i w hx
  · exact rule6_c x vx i w hx
  · exact rule7_c x vx i w hx
  · exact rule3_c x vx i w hx
  · exact rule3_c x vx i w hx
  · exact rule8_c x vx i w hx hi
  · exact rule9_c x vx i w hx
theorem mayF_enters {op : Int} (h1 : 1 ≤ op) (h2 : op ≤ 12) (args : Array Value) (w : World) : (callFunc (ruleFn op) args).run Tryz.prog w = .ok (.enter (ruleFn op) args) w := by
  have h : op = 1 ∨ op = 2 ∨ op = 3 ∨ op = 4 ∨ op = 5 ∨ op = 6 ∨ op = 7 ∨ op = 8 ∨ op = 9 ∨ op = 10 ∨ op = 11 ∨ op = 12 := by omega
  rcases h with rfl | rfl | rfl | rfl | rfl | rfl | rfl | rfl | rfl | rfl | rfl | rfl
  · exact enters_of Tryz.func186 (by kernel_rfl) rfl args w
  · exact enters_of Tryz.func180 (by kernel_rfl) rfl args w
  · exact enters_of Tryz.func180 (by kernel_rfl) rfl args w
  · exact enters_of Tryz.func182 (by kernel_rfl) rfl args w
  · exact enters_of Tryz.func182 (by kernel_rfl) rfl args w
  · exact enters_of Tryz.func187 (by kernel_rfl) rfl args w
  · exact enters_of Tryz.func188 (by kernel_rfl) rfl args w
  · exact enters_of Tryz.func189 (by kernel_rfl) rfl args w
  · exact enters_of Tryz.func185 (by kernel_rfl) rfl args w
  · exact enters_of Tryz.func185 (by kernel_rfl) rfl args w
  · exact enters_of Tryz.func190 (by kernel_rfl) rfl args w
  · exact enters_of Tryz.func193 (by kernel_rfl) rfl args w

theorem rule_pats {op : Int} (h1 : 1 ≤ op) (h2 : op ≤ 12) : (ruleA op = true ∧ ruleB op = false ∧ ruleN op = true) ∨ (ruleA op = true ∧ ruleB op = false ∧ ruleN op = false) ∨ (ruleA op = true ∧ ruleB op = true ∧ ruleN op = false) ∨ (ruleA op = false ∧ ruleB op = false ∧ ruleN op = false) := by
  have h : op = 1 ∨ op = 2 ∨ op = 3 ∨ op = 4 ∨ op = 5 ∨ op = 6 ∨ op = 7 ∨ op = 8 ∨ op = 9 ∨ op = 10 ∨ op = 11 ∨ op = 12 := by omega
  rcases h with rfl | rfl | rfl | rfl | rfl | rfl | rfl | rfl | rfl | rfl | rfl | rfl <;> decide

set_option maxHeartbeats 2000000 in
theorem may_c (x : Img) (vx vl : Value) (i : Ins) (w : World) (hx : ImgV w vx x) (hi : InsOk i) (hl : Sl encRule 4 w vl ruleOps) :
    Calls Tryz.prog 109 #[vx, insV i, vl] w fun e w' => e = .returned (.bool (mayIns x i)) ∧ Below w.heap.size w w' := by
  have HX := hx
  obtain ⟨vt, vf, vi, vo, vc, rfl, _⟩ := hx
  obtain ⟨A, c, rfl, _, _, hcell⟩ := hl
  have hlen : ruleOps.length = 12 := rfl
  rw [hlen]
  by_cases k1 : i.op < 1
  · clear hcell
    unfold insV
    go_enter Tryz.func109, Tryz.ntmps109
    go_wp2
    go_ret
    exact ⟨ret_b (by simp [mayIns]; omega), by (repeat' (first | (with_reducible exact Below.refl _ _) | (with_reducible refine below_alloc ?_) | (with_reducible refine below_drew ?_) | (with_reducible refine below_drewN ?_) | (with_reducible refine below_set (by simp; omega) ?_) | (with_reducible refine below_call (by with_reducible assumption) ?_)))⟩
  by_cases k2 : 12 < i.op
  · clear hcell
    unfold insV
    go_enter Tryz.func109, Tryz.ntmps109
    go_wp2
    go_ret
    exact ⟨ret_b (by simp [mayIns]; omega), by (repeat' (first | (with_reducible exact Below.refl _ _) | (with_reducible refine below_alloc ?_) | (with_reducible refine below_drew ?_) | (with_reducible refine below_drewN ?_) | (with_reducible refine below_set (by simp; omega) ?_) | (with_reducible refine below_call (by with_reducible assumption) ?_)))⟩
  obtain ⟨b, off, rfl, hb, hc⟩ := hcell (i.op.toNat - 1) i.op (rule_at (by omega) (by omega))
  have c0 : w.cell? ⟨b, off + (i.op.toNat - 1) * 4, none⟩ = some (.bool (ruleA i.op)) := hc 0 _ rfl
  have c1 : w.cell? ⟨b, off + (i.op.toNat - 1) * 4 + 1, none⟩ = some (.bool (ruleB i.op)) := hc 1 _ rfl
  have c2 : w.cell? ⟨b, off + (i.op.toNat - 1) * 4 + 2, none⟩ = some (.bool (ruleN i.op)) := hc 2 _ rfl
  have c3 : w.cell? ⟨b, off + (i.op.toNat - 1) * 4 + 3, none⟩ = some (.func (.func (ruleFn i.op)) #[] #[]) := hc 3 _ rfl
  clear hc hcell
  have hen := @mayF_enters i.op (by omega) (by omega)
  have hF := fun W (hW : Below w.heap.size w W) => mayF_c x _ i W i.op (by omega) (by omega) (HX.below hW) hi
  have HF := Lib.hid hF
  clear hF
  have k1' : 1 ≤ i.op := by omega
  have k2' : i.op ≤ 12 := by omega
  have hM : mayIns x i = ((ruleA i.op || i.a == 0) && (ruleB i.op || i.b == 0) && (ruleN i.op || i.n == 0) && mayF i.op x i) := by simp [mayIns, k1', k2']
  have HM := Lib.hid hM
  clear hM
  have hpat : (ruleA i.op = true ∧ ruleB i.op = false ∧ ruleN i.op = true) ∨ (ruleA i.op = true ∧ ruleB i.op = false ∧ ruleN i.op = false) ∨ (ruleA i.op = true ∧ ruleB i.op = true ∧ ruleN i.op = false) ∨ (ruleA i.op = false ∧ ruleB i.op = false ∧ ruleN i.op = false) := rule_pats k1' k2'
  unfold insV
  rcases hpat with ⟨hA, hB, hN⟩ | ⟨hA, hB, hN⟩ | ⟨hA, hB, hN⟩ | ⟨hA, hB, hN⟩
  · cases eb : (i.b == 0)
    · go_enter Tryz.func109, Tryz.ntmps109
      go_wp2
      go_ret
      exact ⟨ret_b (by rw [HM.out]; simp [*]), by (repeat' (first | (with_reducible exact Below.refl _ _) | (with_reducible refine below_alloc ?_) | (with_reducible refine below_drew ?_) | (with_reducible refine below_drewN ?_) | (with_reducible refine below_set (by simp; omega) ?_) | (with_reducible refine below_call (by with_reducible assumption) ?_)))⟩
    · go_enter Tryz.func109, Tryz.ntmps109
      go_wp2_with fail
      refine (HF.out _ (by (repeat' (first | (with_reducible exact Below.refl _ _) | (with_reducible refine below_alloc ?_) | (with_reducible refine below_drew ?_) | (with_reducible refine below_drewN ?_) | (with_reducible refine below_set (by simp; omega) ?_) | (with_reducible refine below_call (by with_reducible assumption) ?_))))).mono ?_
      rintro e w1 ⟨rfl, hb⟩
      go_wp2
      go_ret
      exact ⟨ret_b (by rw [HM.out]; simp [*]), by (repeat' (first | (with_reducible exact Below.refl _ _) | (with_reducible refine below_alloc ?_) | (with_reducible refine below_drew ?_) | (with_reducible refine below_drewN ?_) | (with_reducible refine below_set (by simp; omega) ?_) | (with_reducible refine below_call (by with_reducible assumption) ?_)))⟩
  · cases eb : (i.b == 0)
    · go_enter Tryz.func109, Tryz.ntmps109
      go_wp2
      go_ret
      exact ⟨ret_b (by rw [HM.out]; simp [*]), by (repeat' (first | (with_reducible exact Below.refl _ _) | (with_reducible refine below_alloc ?_) | (with_reducible refine below_drew ?_) | (with_reducible refine below_drewN ?_) | (with_reducible refine below_set (by simp; omega) ?_) | (with_reducible refine below_call (by with_reducible assumption) ?_)))⟩
    · cases en : (i.n == 0)
      · go_enter Tryz.func109, Tryz.ntmps109
        go_wp2
        go_ret
        exact ⟨ret_b (by rw [HM.out]; simp [*]), by (repeat' (first | (with_reducible exact Below.refl _ _) | (with_reducible refine below_alloc ?_) | (with_reducible refine below_drew ?_) | (with_reducible refine below_drewN ?_) | (with_reducible refine below_set (by simp; omega) ?_) | (with_reducible refine below_call (by with_reducible assumption) ?_)))⟩
      · go_enter Tryz.func109, Tryz.ntmps109
        go_wp2_with fail
        refine (HF.out _ (by (repeat' (first | (with_reducible exact Below.refl _ _) | (with_reducible refine below_alloc ?_) | (with_reducible refine below_drew ?_) | (with_reducible refine below_drewN ?_) | (with_reducible refine below_set (by simp; omega) ?_) | (with_reducible refine below_call (by with_reducible assumption) ?_))))).mono ?_
        rintro e w1 ⟨rfl, hb⟩
        go_wp2
        go_ret
        exact ⟨ret_b (by rw [HM.out]; simp [*]), by (repeat' (first | (with_reducible exact Below.refl _ _) | (with_reducible refine below_alloc ?_) | (with_reducible refine below_drew ?_) | (with_reducible refine below_drewN ?_) | (with_reducible refine below_set (by simp; omega) ?_) | (with_reducible refine below_call (by with_reducible assumption) ?_)))⟩
  · cases en : (i.n == 0)
    · go_enter Tryz.func109, Tryz.ntmps109
      go_wp2
      go_ret
      exact ⟨ret_b (by rw [HM.out]; simp [*]), by (repeat' (first | (with_reducible exact Below.refl _ _) | (with_reducible refine below_alloc ?_) | (with_reducible refine below_drew ?_) | (with_reducible refine below_drewN ?_) | (with_reducible refine below_set (by simp; omega) ?_) | (with_reducible refine below_call (by with_reducible assumption) ?_)))⟩
    · go_enter Tryz.func109, Tryz.ntmps109
      go_wp2_with fail
      refine (HF.out _ (by (repeat' (first | (with_reducible exact Below.refl _ _) | (with_reducible refine below_alloc ?_) | (with_reducible refine below_drew ?_) | (with_reducible refine below_drewN ?_) | (with_reducible refine below_set (by simp; omega) ?_) | (with_reducible refine below_call (by with_reducible assumption) ?_))))).mono ?_
      rintro e w1 ⟨rfl, hb⟩
      go_wp2
      go_ret
      exact ⟨ret_b (by rw [HM.out]; simp [*]), by (repeat' (first | (with_reducible exact Below.refl _ _) | (with_reducible refine below_alloc ?_) | (with_reducible refine below_drew ?_) | (with_reducible refine below_drewN ?_) | (with_reducible refine below_set (by simp; omega) ?_) | (with_reducible refine below_call (by with_reducible assumption) ?_)))⟩
  · cases ea : (i.a == 0)
    · go_enter Tryz.func109, Tryz.ntmps109
      go_wp2
      go_ret
      exact ⟨ret_b (by rw [HM.out]; simp [*]), by (repeat' (first | (with_reducible exact Below.refl _ _) | (with_reducible refine below_alloc ?_) | (with_reducible refine below_drew ?_) | (with_reducible refine below_drewN ?_) | (with_reducible refine below_set (by simp; omega) ?_) | (with_reducible refine below_call (by with_reducible assumption) ?_)))⟩
    · cases eb : (i.b == 0)
      · go_enter Tryz.func109, Tryz.ntmps109
        go_wp2
        go_ret
        exact ⟨ret_b (by rw [HM.out]; simp [*]), by (repeat' (first | (with_reducible exact Below.refl _ _) | (with_reducible refine below_alloc ?_) | (with_reducible refine below_drew ?_) | (with_reducible refine below_drewN ?_) | (with_reducible refine below_set (by simp; omega) ?_) | (with_reducible refine below_call (by with_reducible assumption) ?_)))⟩
      · cases en : (i.n == 0)
        · go_enter Tryz.func109, Tryz.ntmps109
          go_wp2
          go_ret
          exact ⟨ret_b (by rw [HM.out]; simp [*]), by (repeat' (first | (with_reducible exact Below.refl _ _) | (with_reducible refine below_alloc ?_) | (with_reducible refine below_drew ?_) | (with_reducible refine below_drewN ?_) | (with_reducible refine below_set (by simp; omega) ?_) | (with_reducible refine below_call (by with_reducible assumption) ?_)))⟩
        · go_enter Tryz.func109, Tryz.ntmps109
          go_wp2_with fail
          refine (HF.out _ (by (repeat' (first | (with_reducible exact Below.refl _ _) | (with_reducible refine below_alloc ?_) | (with_reducible refine below_drew ?_) | (with_reducible refine below_drewN ?_) | (with_reducible refine below_set (by simp; omega) ?_) | (with_reducible refine below_call (by with_reducible assumption) ?_))))).mono ?_
          rintro e w1 ⟨rfl, hb⟩
          go_wp2
          go_ret
          exact ⟨ret_b (by rw [HM.out]; simp [*]), by (repeat' (first | (with_reducible exact Below.refl _ _) | (with_reducible refine below_alloc ?_) | (with_reducible refine below_drew ?_) | (with_reducible refine below_drewN ?_) | (with_reducible refine below_set (by simp; omega) ?_) | (with_reducible refine below_call (by with_reducible assumption) ?_)))⟩
end Go.Proofs.YtefpgjocfgeenaaGreatDoor
