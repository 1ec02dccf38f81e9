/- The contract of the document's own table of kinds (hayloftref03.Of). -/
import Derived.Test.YtcibkoodnfkogaaChk
namespace Go.Proofs.Ytcibkoodnfkogaa
open Go.RowKit
set_option linter.unusedVariables false
set_option linter.unusedSimpArgs false
/-- A row of the document's table. -/
def Shp.row (s : Shp) : Value := .agg #[.string s.name, .int .i64 s.cls, .bool s.d, .bool s.a, .bool s.b, .bool s.num, .bool s.imm]
set_option maxHeartbeats 4000000 in
set_option maxRecDepth 100000 in
theorem turns_some (k : Int) (w : World) (h : k = 18 ∨ k = 19 ∨ k = 20 ∨ k = 21 ∨ k = 22 ∨ k = 23) :
    Calls Try.prog 140 #[.int .i8 k] w fun e w' => e = .returned (.tuple #[(shp k).row, .bool true]) ∧ Below w.heap.size w w' := by
  rcases h with rfl | rfl | rfl | rfl | rfl | rfl
  all_goals
    go_enter Try.func140, Try.ntmps140
    go_wp2
    refine bodyPost_ret (v := .tuple #[.agg #[_, _, _, _, _, _, _], .bool true]) (by simp [results, Try.results140, go_sem]; first | rfl | exact ⟨rfl, rfl, rfl, rfl, rfl, rfl, rfl⟩) rfl ⟨rfl, ?_⟩
    ((with_reducible (repeat (first | assumption | exact Below.refl _ _ | refine bset ?_ (Nat.le_refl _) _ | refine balloc ?_ _ | refine bdrew ?_ | refine bdrewN ?_ _))); done)
set_option maxHeartbeats 4000000 in
set_option maxRecDepth 100000 in
theorem turns_none (k : Int) (w : World) (h18 : (k == 18) = false) (h19 : (k == 19) = false) (h20 : (k == 20) = false) (h21 : (k == 21) = false) (h22 : (k == 22) = false) (h23 : (k == 23) = false) :
    Calls Try.prog 140 #[.int .i8 k] w fun e w' => e = .returned (.tuple #[noShp.row, .bool false]) ∧ Below w.heap.size w w' := by
  go_enter Try.func140, Try.ntmps140
  go_wp2
  refine bodyPost_ret (v := .tuple #[noShp.row, .bool false]) (by simp [results, Try.results140, go_sem, noShp, Shp.row]) rfl ⟨rfl, ?_⟩
  ((with_reducible (repeat (first | assumption | exact Below.refl _ _ | refine bset ?_ (Nat.le_refl _) _ | refine balloc ?_ _ | refine bdrew ?_ | refine bdrewN ?_ _))); done)
set_option maxHeartbeats 4000000 in
set_option maxRecDepth 100000 in
theorem rof_low (k : Int) (w : World) (h : k = 0 ∨ k = 1 ∨ k = 11 ∨ k = 15 ∨ k = 16 ∨ k = 17) :
    Calls Try.prog 114 #[.int .i8 k] w fun e w' => e = .returned (.tuple #[(shp k).row, .bool true]) ∧ Below w.heap.size w w' := by
  rcases h with rfl | rfl | rfl | rfl | rfl | rfl
  all_goals
    go_enter Try.func114, Try.ntmps114
    go_wp2
    refine bodyPost_ret (v := .tuple #[.agg #[_, _, _, _, _, _, _], .bool true]) (by simp [results, Try.results114, go_sem]; first | rfl | exact ⟨rfl, rfl, rfl, rfl, rfl, rfl, rfl⟩) rfl ⟨rfl, ?_⟩
    ((with_reducible (repeat (first | assumption | exact Below.refl _ _ | refine bset ?_ (Nat.le_refl _) _ | refine balloc ?_ _ | refine bdrew ?_ | refine bdrewN ?_ _))); done)
set_option maxHeartbeats 4000000 in
set_option maxRecDepth 100000 in
theorem rof_mid (k : Int) (w : World) (h : k = 2 ∨ k = 3 ∨ k = 4 ∨ k = 5 ∨ k = 6 ∨ k = 7) :
    Calls Try.prog 114 #[.int .i8 k] w fun e w' => e = .returned (.tuple #[(shp k).row, .bool true]) ∧ Below w.heap.size w w' := by
  rcases h with rfl | rfl | rfl | rfl | rfl | rfl
  all_goals
    go_enter Try.func114, Try.ntmps114
    go_wp2
    refine bodyPost_ret (v := .tuple #[.agg #[_, _, _, _, _, _, _], .bool true]) (by simp [results, Try.results114, go_sem]; first | rfl | exact ⟨rfl, rfl, rfl, rfl, rfl, rfl, rfl⟩) rfl ⟨rfl, ?_⟩
    ((with_reducible (repeat (first | assumption | exact Below.refl _ _ | refine bset ?_ (Nat.le_refl _) _ | refine balloc ?_ _ | refine bdrew ?_ | refine bdrewN ?_ _))); done)
set_option maxHeartbeats 4000000 in
set_option maxRecDepth 100000 in
theorem rof_mid2 (k : Int) (w : World) (h : k = 8 ∨ k = 9 ∨ k = 10 ∨ k = 12 ∨ k = 13 ∨ k = 14) :
    Calls Try.prog 114 #[.int .i8 k] w fun e w' => e = .returned (.tuple #[(shp k).row, .bool true]) ∧ Below w.heap.size w w' := by
  rcases h with rfl | rfl | rfl | rfl | rfl | rfl
  all_goals
    go_enter Try.func114, Try.ntmps114
    go_wp2
    refine bodyPost_ret (v := .tuple #[.agg #[_, _, _, _, _, _, _], .bool true]) (by simp [results, Try.results114, go_sem]; first | rfl | exact ⟨rfl, rfl, rfl, rfl, rfl, rfl, rfl⟩) rfl ⟨rfl, ?_⟩
    ((with_reducible (repeat (first | assumption | exact Below.refl _ _ | refine bset ?_ (Nat.le_refl _) _ | refine balloc ?_ _ | refine bdrew ?_ | refine bdrewN ?_ _))); done)
end Go.Proofs.Ytcibkoodnfkogaa
