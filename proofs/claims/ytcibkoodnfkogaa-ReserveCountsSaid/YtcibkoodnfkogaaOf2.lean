/- The contracts of ops.Of: the chapter's table. -/
import Derived.Test.YtcibkoodnfkogaaOf
namespace Go.Proofs.Ytcibkoodnfkogaa
open Go.RowKit
set_option linter.unusedVariables false
set_option linter.unusedSimpArgs false

theorem index_shp (k : Int) (h0 : 0 ≤ k) (h1 : k < 24) (w : World) : (Instr.index 201 (.agg shpsC) (.int .i8 k)).run Try.prog w = .ok (.agg #[.string (shp k).name, .int .i8 (shp k).cls, .bool (shp k).d, .bool (shp k).a, .bool (shp k).b, .bool (shp k).num, .bool (shp k).imm, .bool (shp k).is]) w := by
  have h : k = 0 ∨ k = 1 ∨ k = 2 ∨ k = 3 ∨ k = 4 ∨ k = 5 ∨ k = 6 ∨ k = 7 ∨ k = 8 ∨ k = 9 ∨ k = 10 ∨ k = 11 ∨ k = 12 ∨ k = 13 ∨ k = 14 ∨ k = 15 ∨ k = 16 ∨ k = 17 ∨ k = 18 ∨ k = 19 ∨ k = 20 ∨ k = 21 ∨ k = 22 ∨ k = 23 := by omega
  rcases h with rfl | rfl | rfl | rfl | rfl | rfl | rfl | rfl | rfl | rfl | rfl | rfl | rfl | rfl | rfl | rfl | rfl | rfl | rfl | rfl | rfl | rfl | rfl | rfl <;> (show _ = _; kernel_rfl)
theorem shp_is (k : Int) (h0 : 0 ≤ k) (h1 : k < 24) : (shp k).is = true := by
  have h : k = 0 ∨ k = 1 ∨ k = 2 ∨ k = 3 ∨ k = 4 ∨ k = 5 ∨ k = 6 ∨ k = 7 ∨ k = 8 ∨ k = 9 ∨ k = 10 ∨ k = 11 ∨ k = 12 ∨ k = 13 ∨ k = 14 ∨ k = 15 ∨ k = 16 ∨ k = 17 ∨ k = 18 ∨ k = 19 ∨ k = 20 ∨ k = 21 ∨ k = 22 ∨ k = 23 := by omega
  rcases h with rfl | rfl | rfl | rfl | rfl | rfl | rfl | rfl | rfl | rfl | rfl | rfl | rfl | rfl | rfl | rfl | rfl | rfl | rfl | rfl | rfl | rfl | rfl | rfl <;> rfl
theorem shp_none (k : Int) (h : ¬ (0 ≤ k ∧ k < 24)) : shp k = noShp := by unfold shp; rw [if_neg h]

set_option maxHeartbeats 4000000 in
set_option maxRecDepth 100000 in
theorem of_none (k : Int) (w : World) (h : ¬ (0 ≤ k ∧ k < 24)) : Calls Try.prog 105 #[.int .i8 k] w fun e w' => e = .returned (.tuple #[noShp.val, .bool false]) ∧ Below w.heap.size w w' := by
  by_cases h0 : k < 0
  · clear h
    go_enter Try.func105, Try.ntmps105
    go_wp2
    refine bodyPost_ret (v := .tuple #[noShp.val, .bool false]) (by simp [results, Try.results105, go_sem, noShp, Shp.val]) rfl ⟨rfl, ?_⟩
    exact balloc (Below.refl _ _) _
  · have h1 : 24 ≤ k := by omega
    clear h
    go_enter Try.func105, Try.ntmps105
    go_wp2
    refine bodyPost_ret (v := .tuple #[noShp.val, .bool false]) (by simp [results, Try.results105, go_sem, noShp, Shp.val]) rfl ⟨rfl, ?_⟩
    exact balloc (Below.refl _ _) _
set_option maxHeartbeats 4000000 in
set_option maxRecDepth 100000 in
theorem of_some (k : Int) (w : World) (h0 : 0 ≤ k) (h1 : k < 24) : Calls Try.prog 105 #[.int .i8 k] w fun e w' => e = .returned (.tuple #[(shp k).val, .bool (shp k).is]) ∧ Below w.heap.size w w' := by
  have hix := index_shp k h0 h1
  go_enter Try.func105, Try.ntmps105
  go_wp2_with (go_at_call 134; refine (shapes_any _).mono ?_; rintro e w' ⟨rfl, hb⟩; obtain ⟨hc, hf⟩ := bcell hb; have hz := bsize hb)
  clear hix
  go_region
  all_goals go_wp2
  all_goals
    refine bodyPost_ret (v := .tuple #[(shp k).val, .bool (shp k).is]) (by simp [results, Try.results105, go_sem, Shp.val, hc, hz]) rfl ⟨rfl, ?_⟩
  all_goals
    have hB := below_old hb
    ((with_reducible (repeat (first | assumption | exact Below.refl _ _ | refine bset ?_ (Nat.le_refl _) _ | refine balloc ?_ _ | refine bdrew ?_ | refine bdrewN ?_ _))); done)
/-- ops.Of. -/
theorem of_any (k : Int) (w : World) : Calls Try.prog 105 #[.int .i8 k] w fun e w' => e = .returned (.tuple #[.agg #[.string (shp k).name, .int .i8 (shp k).cls, .bool (shp k).d, .bool (shp k).a, .bool (shp k).b, .bool (shp k).num, .bool (shp k).imm, .bool (shp k).is], .bool (isK k)]) ∧ Below w.heap.size w w' := by
  by_cases h : 0 ≤ k ∧ k < 24
  · have e : isK k = (shp k).is := by rw [shp_is k h.1 h.2]; unfold isK; rw [decide_eq_true h.1, decide_eq_true h.2]; rfl
    rw [e]
    exact of_some k w h.1 h.2
  · have e : isK k = false := by
      unfold isK
      by_cases h0 : 0 ≤ k
      · rw [decide_eq_false (fun h1 => h ⟨h0, h1⟩), Bool.and_false]
      · rw [decide_eq_false h0, Bool.false_and]
    rw [e, shp_none k h]
    exact of_none k w h
end Go.Proofs.Ytcibkoodnfkogaa
