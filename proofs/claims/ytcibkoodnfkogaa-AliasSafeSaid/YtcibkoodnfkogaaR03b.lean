/- The contracts of the document's own functions of layer 3: Of, Class, Check, Writes. -/
import Derived.Test.YtcibkoodnfkogaaR03a
import Derived.Test.YtcibkoodnfkogaaOps2
import Derived.Test.YtcibkoodnfkogaaReck
namespace Go.Proofs.Ytcibkoodnfkogaa
open Go.RowKit
set_option linter.unusedVariables false
set_option linter.unusedSimpArgs false
set_option maxHeartbeats 4000000 in
set_option maxRecDepth 100000 in
theorem rof_high (k : Int) (w : World) (h : k = 18 ∨ k = 19 ∨ k = 20 ∨ k = 21 ∨ k = 22 ∨ k = 23) :
    Calls Try.prog 114 #[.int .i8 k] w fun e w' => e = .returned (.tuple #[(shp k).row, .bool true]) ∧ Below w.heap.size w w' := by
  rcases h with rfl | rfl | rfl | rfl | rfl | rfl
  all_goals
    go_enter Try.func114, Try.ntmps114
    go_wp2_with (go_at_call 140; refine (turns_some _ _ (by decide)).mono ?_; rintro e w' ⟨rfl, hb⟩; obtain ⟨hc, hf⟩ := bcell hb; have hz := bsize hb; simp only [Shp.row])
    refine bodyPost_ret (v := .tuple #[.agg #[_, _, _, _, _, _, _], .bool true]) (by simp [results, Try.results114, go_sem, hc]) rfl ⟨rfl, ?_⟩
    have hB := below_old hb
    ((with_reducible (repeat (first | assumption | exact Below.refl _ _ | refine bset ?_ (Nat.le_refl _) _ | refine balloc ?_ _ | refine bdrew ?_ | refine bdrewN ?_ _))); done)
set_option maxHeartbeats 4000000 in
set_option maxRecDepth 100000 in
theorem rof_none (k : Int) (w : World) (h : ¬ (0 ≤ k ∧ k < 24)) :
    Calls Try.prog 114 #[.int .i8 k] w fun e w' => e = .returned (.tuple #[noShp.row, .bool false]) ∧ Below w.heap.size w w' := by
  have ht := fun w => turns_none k w (ne_beq (by omega)) (ne_beq (by omega)) (ne_beq (by omega)) (ne_beq (by omega)) (ne_beq (by omega)) (ne_beq (by omega))
  have HT := hid ht
  have h0 := ne_beq (show ¬ k = 0 by omega)
  have h1 := ne_beq (show ¬ k = 1 by omega)
  have h2 := ne_beq (show ¬ k = 2 by omega)
  have h3 := ne_beq (show ¬ k = 3 by omega)
  have h4 := ne_beq (show ¬ k = 4 by omega)
  have h5 := ne_beq (show ¬ k = 5 by omega)
  have h6 := ne_beq (show ¬ k = 6 by omega)
  have h7 := ne_beq (show ¬ k = 7 by omega)
  have h8 := ne_beq (show ¬ k = 8 by omega)
  have h9 := ne_beq (show ¬ k = 9 by omega)
  have h10 := ne_beq (show ¬ k = 10 by omega)
  have h11 := ne_beq (show ¬ k = 11 by omega)
  have h12 := ne_beq (show ¬ k = 12 by omega)
  have h13 := ne_beq (show ¬ k = 13 by omega)
  have h14 := ne_beq (show ¬ k = 14 by omega)
  have h15 := ne_beq (show ¬ k = 15 by omega)
  have h16 := ne_beq (show ¬ k = 16 by omega)
  have h17 := ne_beq (show ¬ k = 17 by omega)
  clear h ht
  go_enter Try.func114, Try.ntmps114
  go_wp2_with (go_at_call 140; refine (HT.out _).mono ?_; rintro e w' ⟨rfl, hb⟩; obtain ⟨hc, hf⟩ := bcell hb; have hz := bsize hb; simp only [noShp, Shp.row])
  refine bodyPost_ret (v := .tuple #[noShp.row, .bool false]) (by simp [results, Try.results114, go_sem, hc, noShp, Shp.row]) rfl ⟨rfl, ?_⟩
  have hB := below_old hb
  ((with_reducible (repeat (first | assumption | exact Below.refl _ _ | refine bset ?_ (Nat.le_refl _) _ | refine balloc ?_ _ | refine bdrew ?_ | refine bdrewN ?_ _))); done)
/-- hayloftref03.Of. -/
theorem rof_any (k : Int) (w : World) : Calls Try.prog 114 #[.int .i8 k] w fun e w' => e = .returned (.tuple #[.agg #[.string (shp k).name, .int .i64 (shp k).cls, .bool (shp k).d, .bool (shp k).a, .bool (shp k).b, .bool (shp k).num, .bool (shp k).imm], .bool (isK k)]) ∧ Below w.heap.size w w' := by
  by_cases h : 0 ≤ k ∧ k < 24
  · have e : isK k = true := by unfold isK; rw [decide_eq_true h.1, decide_eq_true h.2]; rfl
    rw [e]
    by_cases h1 : k = 0 ∨ k = 1 ∨ k = 11 ∨ k = 15 ∨ k = 16 ∨ k = 17
    · exact rof_low k w h1
    by_cases h2 : k = 2 ∨ k = 3 ∨ k = 4 ∨ k = 5 ∨ k = 6 ∨ k = 7
    · exact rof_mid k w h2
    by_cases h3 : k = 8 ∨ k = 9 ∨ k = 10 ∨ k = 12 ∨ k = 13 ∨ k = 14
    · exact rof_mid2 k w h3
    exact rof_high k w (by omega)
  · have e : isK k = false := by
      unfold isK
      by_cases h0 : 0 ≤ k
      · rw [decide_eq_false (fun h1 => h ⟨h0, h1⟩), Bool.and_false]
      · rw [decide_eq_false h0, Bool.false_and]
    rw [e, shp_none k h]
    exact rof_none k w h
set_option maxHeartbeats 4000000 in
set_option maxRecDepth 100000 in
theorem rclass_any (k : Int) (w : World) :
    Calls Try.prog 87 #[.int .i8 k] w fun e w' => e = .returned (.tuple #[.int .i64 (clsN k), .bool (clsB k)]) ∧ Below w.heap.size w w' := by
  have hs := shp_cls k
  cases hk : isK k
  · have e1 : clsB k = false := by unfold clsB; rw [hk]; rfl
    have e2 : clsN k = 0 := by unfold clsN; rw [e1]; rfl
    rw [e1, e2]
    clear e1 e2
    go_enter Try.func87, Try.ntmps87
    go_wp2_with (go_at_call 114; refine (rof_any _ _).mono ?_; rintro e w' ⟨rfl, hb⟩)
    go_ret2
    refine ⟨rfl, ?_⟩
    ((with_reducible (repeat (first | assumption | exact Below.refl _ _ | refine bset ?_ (Nat.le_refl _) _ | refine balloc ?_ _ | refine bdrew ?_ | refine bdrewN ?_ _))); done)
  by_cases h0 : (shp k).cls < 0
  · have e1 : clsB k = false := by unfold clsB; rw [decide_eq_false (by omega), Bool.and_false]
    have e2 : clsN k = 0 := by unfold clsN; rw [e1]; rfl
    rw [e1, e2]
    clear e1 e2
    go_enter Try.func87, Try.ntmps87
    go_wp2_with (go_at_call 114; refine (rof_any _ _).mono ?_; rintro e w' ⟨rfl, hb⟩)
    go_ret2
    refine ⟨rfl, ?_⟩
    ((with_reducible (repeat (first | assumption | exact Below.refl _ _ | refine bset ?_ (Nat.le_refl _) _ | refine balloc ?_ _ | refine bdrew ?_ | refine bdrewN ?_ _))); done)
  · have e1 : clsB k = true := by unfold clsB; rw [hk, decide_eq_true (by omega)]; rfl
    have e2 : clsN k = (shp k).cls := by unfold clsN; rw [e1]; rfl
    rw [e1, e2]
    clear e1 e2 hs
    go_enter Try.func87, Try.ntmps87
    go_wp2_with (go_at_call 114; refine (rof_any _ _).mono ?_; rintro e w' ⟨rfl, hb⟩)
    go_ret2
    refine ⟨rfl, ?_⟩
    ((with_reducible (repeat (first | assumption | exact Below.refl _ _ | refine bset ?_ (Nat.le_refl _) _ | refine balloc ?_ _ | refine bdrew ?_ | refine bdrewN ?_ _))); done)
end Go.Proofs.Ytcibkoodnfkogaa
