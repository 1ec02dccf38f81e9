/- The contracts of ops.Class, ops.Writes, ops.Reads. -/
import Derived.Test.YtpiagggnjppkhaaChk
namespace Go.Proofs.Ytpiagggnjppkhaa
open Go.RowKit
set_option linter.unusedVariables false
set_option linter.unusedSimpArgs false

theorem shp_cls (k : Int) : -1 ≤ (shp k).cls ∧ (shp k).cls ≤ 3 := by
  by_cases h0 : 0 ≤ k ∧ k < 24
  · have h : k = 0 ∨ k = 1 ∨ k = 2 ∨ k = 3 ∨ k = 4 ∨ k = 5 ∨ k = 6 ∨ k = 7 ∨ k = 8 ∨ k = 9 ∨ k = 10 ∨ k = 11 ∨ k = 12 ∨ k = 13 ∨ k = 14 ∨ k = 15 ∨ k = 16 ∨ k = 17 ∨ k = 18 ∨ k = 19 ∨ k = 20 ∨ k = 21 ∨ k = 22 ∨ k = 23 := by omega
    rcases h with rfl | rfl | rfl | rfl | rfl | rfl | rfl | rfl | rfl | rfl | rfl | rfl | rfl | rfl | rfl | rfl | rfl | rfl | rfl | rfl | rfl | rfl | rfl | rfl <;> decide
  · rw [shp_none k h0]; decide
/-- Has a kind a class? Which? -/
def clsB (k : Int) : Bool := isK k && decide (0 ≤ (shp k).cls)
def clsN (k : Int) : Int := if clsB k then (shp k).cls else 0
set_option maxHeartbeats 4000000 in
set_option maxRecDepth 100000 in
theorem class_any (k : Int) (w : World) :
    Calls Try.prog 38 #[.int .i8 k] w fun e w' => e = .returned (.tuple #[.int .i64 (clsN k), .bool (clsB k)]) ∧ Below w.heap.size w w' := by
  have hs := shp_cls k
  cases hk : isK k
  · have e1 : clsB k = false := by unfold clsB; rw [hk]; rfl
    have e2 : clsN k = 0 := by unfold clsN; rw [e1]; rfl
    rw [e1, e2]
    clear e1 e2
    go_enter Try.func38, Try.ntmps38
    go_wp2_with (go_at_call 51; refine (of_any _ _).mono ?_; rintro e w' ⟨rfl, hb⟩; obtain ⟨hc, hf⟩ := bcell hb; have hz := hb.size)
    go_ret2
    refine ⟨rfl, ?_⟩
    ((with_reducible (repeat (first | assumption | exact Below.refl _ _ | refine bset ?_ (Nat.le_refl _) _ | refine balloc ?_ _ | refine bdrew ?_ | refine bdrewN ?_ _))); done)
  by_cases h0 : (shp k).cls < 0
  · have e1 : clsB k = false := by unfold clsB; rw [decide_eq_false (by omega), Bool.and_false]
    have e2 : clsN k = 0 := by unfold clsN; rw [e1]; rfl
    rw [e1, e2]
    clear e1 e2
    go_enter Try.func38, Try.ntmps38
    go_wp2_with (go_at_call 51; refine (of_any _ _).mono ?_; rintro e w' ⟨rfl, hb⟩; obtain ⟨hc, hf⟩ := bcell hb; have hz := hb.size)
    go_ret2
    refine ⟨rfl, ?_⟩
    ((with_reducible (repeat (first | assumption | exact Below.refl _ _ | refine bset ?_ (Nat.le_refl _) _ | refine balloc ?_ _ | refine bdrew ?_ | refine bdrewN ?_ _))); done)
  · have e1 : clsB k = true := by unfold clsB; rw [hk, decide_eq_true (by omega)]; rfl
    have e2 : clsN k = (shp k).cls := by unfold clsN; rw [e1]; rfl
    rw [e1, e2]
    clear e1 e2
    have h1 := hs.2
    clear hs
    go_enter Try.func38, Try.ntmps38
    go_wp2_with (go_at_call 51; refine (of_any _ _).mono ?_; rintro e w' ⟨rfl, hb⟩; obtain ⟨hc, hf⟩ := bcell hb; have hz := hb.size)
    go_ret2
    refine ⟨rfl, ?_⟩
    ((with_reducible (repeat (first | assumption | exact Below.refl _ _ | refine bset ?_ (Nat.le_refl _) _ | refine balloc ?_ _ | refine bdrew ?_ | refine bdrewN ?_ _))); done)

/-- Does an operation write a register? -/
def wrB (o : Op) : Bool := (shp o.k).d && chk o
def wrN (o : Op) : Int := if wrB o then o.d else 0
set_option maxHeartbeats 4000000 in
set_option maxRecDepth 100000 in
theorem writes_any (o : Op) (w : World) (ho : o.wf) :
    Calls Try.prog 22 #[o.val] w fun e w' => e = .returned (.tuple #[.int .u8 (wrN o), .bool (wrB o)]) ∧ Below w.heap.size w w' := by
  have hck := fun w => check_any o w ho
  obtain ⟨k, d, a, b, n⟩ := o
  simp only [Op.val] at *
  cases hd : (shp k).d
  · have e1 : wrB ⟨k, d, a, b, n⟩ = false := by unfold wrB; rw [hd]; rfl
    have e2 : wrN ⟨k, d, a, b, n⟩ = 0 := by unfold wrN; rw [e1]; rfl
    rw [e1, e2]
    clear e1 e2 hck ho
    go_enter Try.func22, Try.ntmps22
    go_wp2_with (go_at_call 51; refine (of_any _ _).mono ?_; rintro e w' ⟨rfl, hb⟩; obtain ⟨hc, hf⟩ := bcell hb; have hz := bsize hb)
    go_ret2
    refine ⟨rfl, ?_⟩
    have hB := below_old hb
    ((with_reducible (repeat (first | assumption | exact Below.refl _ _ | refine bset ?_ (Nat.le_refl _) _ | refine balloc ?_ _ | refine bdrew ?_ | refine bdrewN ?_ _))); done)
  cases hk : chk ⟨k, d, a, b, n⟩
  · have e1 : wrB ⟨k, d, a, b, n⟩ = false := by unfold wrB; rw [hk, Bool.and_false]
    have e2 : wrN ⟨k, d, a, b, n⟩ = 0 := by unfold wrN; rw [e1]; rfl
    have e3 : chkE ⟨k, d, a, b, n⟩ = 30 := by unfold chkE; rw [hk]; rfl
    rw [e1, e2]
    rw [e3] at hck
    have HC := hid hck
    clear e1 e2 e3 hck ho hk
    go_enter Try.func22, Try.ntmps22
    go_wp2_with (first | (go_at_call 51; refine (of_any _ _).mono ?_; rintro e w' ⟨rfl, hb⟩; obtain ⟨hc, hf⟩ := bcell hb; have hz := bsize hb) | (go_at_call 52; refine (HC.out _).mono ?_; rintro e w' ⟨rfl, hb2⟩; obtain ⟨hc2, hf2⟩ := bcell hb2; have hz2 := bsize hb2))
    go_ret2
    refine ⟨rfl, ?_⟩
    have hB := below_old hb
    have hB := below_step hB hb2
    ((with_reducible (repeat (first | assumption | exact Below.refl _ _ | refine bset ?_ (Nat.le_refl _) _ | refine balloc ?_ _ | refine bdrew ?_ | refine bdrewN ?_ _))); done)
  · have e1 : wrB ⟨k, d, a, b, n⟩ = true := by unfold wrB; rw [hd, hk]; rfl
    have e2 : wrN ⟨k, d, a, b, n⟩ = d := by unfold wrN; rw [e1]; rfl
    have e3 : chkE ⟨k, d, a, b, n⟩ = 0 := by unfold chkE; rw [hk]; rfl
    rw [e1, e2]
    rw [e3] at hck
    have HC := hid hck
    clear e1 e2 e3 hck ho hk
    go_enter Try.func22, Try.ntmps22
    go_wp2_with (first | (go_at_call 51; refine (of_any _ _).mono ?_; rintro e w' ⟨rfl, hb⟩; obtain ⟨hc, hf⟩ := bcell hb; have hz := bsize hb) | (go_at_call 52; refine (HC.out _).mono ?_; rintro e w' ⟨rfl, hb2⟩; obtain ⟨hc2, hf2⟩ := bcell hb2; have hz2 := bsize hb2))
    go_ret2
    refine ⟨rfl, ?_⟩
    have hB := below_old hb
    have hB := below_step hB hb2
    ((with_reducible (repeat (first | assumption | exact Below.refl _ _ | refine bset ?_ (Nat.le_refl _) _ | refine balloc ?_ _ | refine bdrew ?_ | refine bdrewN ?_ _))); done)

end Go.Proofs.Ytpiagggnjppkhaa
