/- No machine does nothing. -/
import Derived.Test.YtpiagggnjppkhaaW09
namespace Go.Proofs.Ytpiagggnjppkhaa
open Go.RowKit
set_option linter.unusedVariables false
set_option linter.unusedSimpArgs false
set_option maxHeartbeats 4000000 in
set_option maxRecDepth 100000 in
theorem run_nil (n : Int) (w : World) : Calls Try.prog 16 #[.pointer none, .int .i64 n] w fun e w' => e = .returned (.agg #[.int .i64 1, .int .i64 0, .slice none 0 0, .slice none 0 0, .int .i64 0]) ∧ Below w.heap.size w w' := by
  go_enter Try.func16, Try.ntmps16
  go_wp2
  refine bodyPost_ret (v := .agg #[.int .i64 1, .int .i64 0, .slice none 0 0, .slice none 0 0, .int .i64 0]) (by simp [results, Try.results16, go_sem]) rfl ?_
  refine ⟨rfl, ?_⟩
  ((with_reducible (repeat (first | assumption | exact Below.refl _ _ | refine bset ?_ (Nat.le_refl _) _ | refine balloc ?_ _ | refine bdrew ?_ | refine bdrewN ?_ _))); done)
set_option maxHeartbeats 4000000 in
set_option maxRecDepth 100000 in
theorem state_nil (w : World) : Calls Try.prog 19 #[.pointer none] w fun e w' => e = .returned (.agg #[.slice none 0 0, .slice none 0 0]) ∧ Below w.heap.size w w' := by
  go_enter Try.func19, Try.ntmps19
  go_wp2
  refine bodyPost_ret (v := .agg #[.slice none 0 0, .slice none 0 0]) (by simp [results, Try.results19, go_sem]) rfl ?_
  refine ⟨rfl, ?_⟩
  ((with_reducible (repeat (first | assumption | exact Below.refl _ _ | refine bset ?_ (Nat.le_refl _) _ | refine balloc ?_ _ | refine bdrew ?_ | refine bdrewN ?_ _))); done)
set_option maxHeartbeats 4000000 in
set_option maxRecDepth 100000 in
theorem SerialNil_walk (n : Int) (w : World) : Calls Try.prog 4 #[.int .i64 n] w fun e w' => e = .returned (.bool true) ∧ Below w.heap.size w w' := by
  have CW := hid (fun w => wakes09_any w)
  have CL : Hid (∀ w, Calls Try.prog 15 #[.agg #[.int .i64 1, .int .i64 0, .slice none 0 0, .slice none 0 0, .int .i64 0], .agg #[.int .i64 1, .int .i64 0, .slice none 0 0, .slice none 0 0, .int .i64 0]] w fun e w' => e = .returned (.bool true) ∧ Below w.heap.size w w') := hid fun w => like_same none none none none [] [] 0 0 0 0 1 0 0 w (fun h => absurd rfl h) (fun h => absurd rfl h) (fun h => absurd rfl h) (fun h => absurd rfl h) (by decide) (by decide)
  have CR := hid (fun w => run_nil n w)
  have CS := hid (fun w => state_nil w)
  go_enter Try.func4, Try.ntmps4
  go_wp2_with fail
  with_reducible refine (CS.out _).mono ?_
  rintro e w1 ⟨rfl, hb⟩
  have B1 := hid hb
  clear hb
  go_wp2_with fail
  with_reducible refine (CR.out _).mono ?_
  rintro e w2 ⟨rfl, hb⟩
  have B2 := hid (btrans (btrans B1.out (show Below w1.heap.size w1 _ by ((with_reducible (repeat (first | assumption | exact Below.refl _ _ | refine bset ?_ (Nat.le_refl _) _ | refine balloc ?_ _ | refine bdrew ?_ | refine bdrewN ?_ _))); done))) hb)
  have z0 : w2.cell? ⟨w1.heap.size, 0, none⟩ = some (.slice none 0 0) := cell_keep (by go_simp) hb
  have z1 : w2.cell? ⟨w1.heap.size, 1, none⟩ = some (.slice none 0 0) := cell_keep (by go_simp) hb
  have hz := hb.size
  (try simp at hz)
  have hz0 : w1.heap.size < w2.heap.size := by omega
  clear hb
  go_wp2_with fail
  with_reducible refine (CL.out _).mono ?_
  rintro e w3 ⟨rfl, hb⟩
  replace B2 := hid (btrans B2.out hb)
  replace z0 := cell_keep z0 hb
  replace z1 := cell_keep z1 hb
  replace hz0 : w1.heap.size < w3.heap.size := by have := hb.size; omega
  clear hb
  go_wp2_with fail
  with_reducible refine (CW.out _).mono ?_
  rintro e w4 ⟨rfl, hb⟩
  go_wp2
  go_ret
  exact ⟨rfl, btrans B2.out hb⟩
end Go.Proofs.Ytpiagggnjppkhaa
