/- How each kind is done: the row of function values. -/
import Derived.Test.YtpiagggnjppkhaaM4
import Derived.Laws.EntriesVeiled
namespace Go.Proofs.Ytpiagggnjppkhaa
open Go.RowKit
set_option linter.unusedVariables false
set_option linter.unusedSimpArgs false
def doI (i k : Nat) : Value := if 2 ≤ k ∧ k < i then .func (.func 65) #[] #[] else .nilFunc
set_option maxHeartbeats 4000000 in
set_option maxRecDepth 100000 in
theorem doers_any (w : World) : Calls Try.prog 43 #[] w fun e w' => e = .returned (.agg ((List.range 24).map doV).toArray) ∧ Below w.heap.size w w' := by
  have h0 : ((List.range 24).map (doI 2)).toArray = #[.nilFunc, .nilFunc, .nilFunc, .nilFunc, .nilFunc, .nilFunc, .nilFunc, .nilFunc, .nilFunc, .nilFunc, .nilFunc, .nilFunc, .nilFunc, .nilFunc, .nilFunc, .nilFunc, .nilFunc, .nilFunc, .nilFunc, .nilFunc, .nilFunc, .nilFunc, .nilFunc, .nilFunc] := rfl
  obtain ⟨CS, hCS⟩ : ∃ CS, CS = ((List.range 24).map doV).toArray := ⟨_, rfl⟩
  rw [← hCS]
  replace hCS := hid hCS
  go_enter Try.func43, Try.ntmps43
  go_wp2
  go_loopg [2] 13 (fun g v wr => ∃ i : Nat, 2 ≤ i ∧ i ≤ 15 ∧ v = .int .i8 i ∧ Hid (g + i = 15) ∧ Hid (FnAt wr (w.heap.size + 1) 99 24 (doI i)) ∧ Hid (FnAt wr w.heap.size 99 24 (doI 2)) ∧ Below w.heap.size w wr)
  case atStart =>
    refine ⟨2, by omega, by omega, rfl, by show _ + _ = _; rfl, hid ?_, hid ?_, ?_⟩
    · unfold FnAt
      rw [h0]
      exact heap_new_at _ _ _ (by simp)
    · unfold FnAt
      rw [h0]
      exact ((balloc (Below.refl _ _) _).block _ (by simp)).trans (heap_new_at _ _ _ rfl)
    · ((with_reducible (repeat (first | assumption | exact Below.refl _ _ | refine bset ?_ (Nat.le_refl _) _ | refine balloc ?_ _ | refine bdrew ?_ | refine bdrewN ?_ _))); done)
  case round =>
    obtain ⟨i, hi2, hi, rfl, hg, FL, FR, hb0⟩ := hrel
    have hB := hid hb0
    clear hb0
    by_cases hlt : i < 15
    · have hi14 : (i : Int) ≤ 14 := by omega
      have hi0 : (0 : Int) ≤ (i : Int) := by omega
      have hi24 : (i : Int) < 24 := by omega
      have c0 : wr.cell? ⟨w.heap.size + 1, i, none⟩ = some (doI i i) := FL.out.cell i (by omega)
      have f0 := FL.out.frozen i
      have hle := FL.out.lt
      go_wp2
      go_roundg (15 - (i + 1))
      case measure => have := hg.out; omega
      case rel =>
        refine ⟨i + 1, by omega, by omega, by go_num, by show _ + _ = _; omega, hid ((FL.out.set i _).congr fun k hk => ?_), hid (FR.out.other (by simp) _), bset hB.out (by show w.heap.size ≤ w.heap.size + 1; omega) _⟩
        unfold doI
        by_cases h : k = i
        · subst h
          rw [if_pos rfl, if_pos (by omega)]
        · rw [if_neg h]
          by_cases h2 : 2 ≤ k ∧ k < i
          · rw [if_pos h2, if_pos (by omega)]
          · rw [if_neg h2, if_neg (by omega)]
    · obtain rfl : i = 15 := by omega
      have h15 : FnAt wr (w.heap.size + 1) 99 24 (doI 15) := FL.out
      have c1 : wr.cell? ⟨w.heap.size + 1, 1, none⟩ = some .nilFunc := FL.out.cell 1 (by decide)
      have c15 : wr.cell? ⟨w.heap.size + 1, 15, none⟩ = some .nilFunc := FL.out.cell 15 (by decide)
      have c16 : wr.cell? ⟨w.heap.size + 1, 16, none⟩ = some .nilFunc := FL.out.cell 16 (by decide)
      have c17 : wr.cell? ⟨w.heap.size + 1, 17, none⟩ = some .nilFunc := FL.out.cell 17 (by decide)
      have fl := FL.out.frozen
      have hle := FL.out.lt
      go_upto_region 10 with (fail)
      have FL2 := hid ((((((FL.out.set 1 (.func (.func 66) #[] #[])).set 15 (.func (.func 67) #[] #[])).set 16 (.func (.func 69) #[] #[])).set 17 (.func (.func 70) #[] #[])).congr (f' := doV) fun k hk => by
        unfold doV doI
        by_cases h17 : k = 17
        · subst h17; rfl
        by_cases h16 : k = 16
        · subst h16; rfl
        by_cases h15 : k = 15
        · subst h15; rfl
        by_cases h1 : k = 1
        · subst h1; rfl
        simp only [h17, h16, h15, h1, if_false]
        by_cases h2 : 2 ≤ k ∧ k < 15
        · rw [if_pos h2, if_pos (by omega)]
        · rw [if_neg h2, if_neg (by omega)]))
      have FR2 := hid ((((FR.out.other (a := ⟨w.heap.size + 1, 1, none⟩) (by show w.heap.size ≠ w.heap.size + 1; omega) (.func (.func 66) #[] #[])).other (a := ⟨w.heap.size + 1, 15, none⟩) (by show w.heap.size ≠ w.heap.size + 1; omega) (.func (.func 67) #[] #[])).other (a := ⟨w.heap.size + 1, 16, none⟩) (by show w.heap.size ≠ w.heap.size + 1; omega) (.func (.func 69) #[] #[])).other (a := ⟨w.heap.size + 1, 17, none⟩) (by show w.heap.size ≠ w.heap.size + 1; omega) (.func (.func 70) #[] #[]))
      have B2 := hid (bset (bset (bset (bset hB.out (p := ⟨w.heap.size + 1, 1, none⟩) (by show w.heap.size ≤ w.heap.size + 1; omega) (.func (.func 66) #[] #[])) (p := ⟨w.heap.size + 1, 15, none⟩) (by show w.heap.size ≤ w.heap.size + 1; omega) (.func (.func 67) #[] #[])) (p := ⟨w.heap.size + 1, 16, none⟩) (by show w.heap.size ≤ w.heap.size + 1; omega) (.func (.func 69) #[] #[])) (p := ⟨w.heap.size + 1, 17, none⟩) (by show w.heap.size ≤ w.heap.size + 1; omega) (.func (.func 70) #[] #[]))
      generalize World.setCell _ ⟨w.heap.size + 1, 17, none⟩ _ = wz at FL2 FR2 B2 ⊢
      have hl1 : CS.size = 24 := by rw [hCS.out]; simp
      have hone : CS.all (·.oneCell') = true := by rw [hCS.out]; kernel_rfl
      unfold FnAt at FL2 FR2
      rw [← hCS.out] at FL2
      clear FL FR h15 c1 c15 c16 c17 fl hB
      go_wp2_with (first | (with_reducible refine wpList_load_row rfl 99 _ rfl (w.heap.size + 1) ?lx 99 CS (0, 0) _ FL2.out Try.underlying99 ?ld ?li ?_) | (with_reducible refine wpList_store_rowTo rfl 99 _ _ rfl rfl w.heap.size CS ?sx ?sy 99 _ FR2.out ?si ?shold hone ?_))
      case lx => rfl
      case li => rw [hl1]; kernel_rfl
      case si => rw [hl1]; kernel_rfl
      case shold => rw [hl1]; simp
      all_goals first
        | rfl
        | skip
      refine bodyPost_ret (v := .agg CS) (results_cell_row rfl _ _ w.heap.size 99 CS (0, 0) _ rfl (setRow_heap _ _ _ _ _ _ FR2.out) Try.underlying99 rfl (by rw [hl1]; kernel_rfl)) rfl ⟨rfl, below_setRow B2.out (Nat.le_refl _) _⟩
end Go.Proofs.Ytpiagggnjppkhaa
