/- The contract of table.Width. -/
import Derived.Test.YtcibkoodnfkogaaBu2
import Derived.Test.YtcibkoodnfkogaaPrg12
namespace Go.Proofs.Ytcibkoodnfkogaa
open Go.RowKit
set_option linter.unusedVariables false
set_option linter.unusedSimpArgs false
theorem index_units (a0 a1 a2 a3 : Int) (j : Nat) (hj : j < 4) (w : World) : (Instr.index 26 (.agg #[.int .i64 a0, .int .i64 a1, .int .i64 a2, .int .i64 a3]) (.int .i64 (j : Int))).run Try.prog w = .ok (.int .i64 ([a0, a1, a2, a3][j]?.getD 0)) w := by
  obtain rfl | rfl | rfl | rfl : j = 0 ∨ j = 1 ∨ j = 2 ∨ j = 3 := by omega
  all_goals (show _ = _; kernel_rfl)
/-- The units of the first classes. -/
def sumU (t : List Int) : Nat → Int
  | 0 => 0
  | j + 1 => sumU t j + t[j]?.getD 0
theorem sumU_bd {t : List Int} (h : tabOk t = true) (j : Nat) (hj : j ≤ 4) : 0 ≤ sumU t j ∧ sumU t j ≤ 8 * j := by
  induction j with
  | zero => simp [sumU]
  | succ j ih =>
    have := ih (by omega)
    have := units_bd h j (by omega)
    unfold sumU
    omega
theorem tabW_sum {t : List Int} (h : tabOk t = true) : tabW t = sumU t 4 := by
  unfold tabW
  rw [h, if_pos rfl]
  simp only [sumU]
  omega
theorem first_four {a0 a1 a2 a3 a4 a5 a6 a7 a8 a9 a10 a11 a12 : Int} (j : Nat) (hj : j < 4) : [a0, a1, a2, a3][j]?.getD 0 = [a0, a1, a2, a3, a4, a5, a6, a7, a8, a9, a10, a11, a12][j]?.getD 0 := by
  obtain rfl | rfl | rfl | rfl : j = 0 ∨ j = 1 ∨ j = 2 ∨ j = 3 := by omega
  all_goals rfl
set_option maxHeartbeats 4000000 in
set_option maxRecDepth 100000 in
theorem width_any (t : List Int) (w : World) (ht : t.length = 13) :
    Calls Try.prog 47 #[tabV t] w fun e w' => e = .returned (.int .i64 (tabW t)) ∧ Below w.heap.size w w' := by
  obtain ⟨a0, a1, a2, a3, a4, a5, a6, a7, a8, a9, a10, a11, a12, rfl⟩ := thirteen ht
  have C2 := hid (fun (w : World) => tcheck_any [a0, a1, a2, a3, a4, a5, a6, a7, a8, a9, a10, a11, a12] w ht)
  have hV : tabV [a0, a1, a2, a3, a4, a5, a6, a7, a8, a9, a10, a11, a12] = tabX a0 a1 a2 a3 a4 a5 a6 a7 a8 a9 a10 a11 a12 := rfl
  rw [hV] at C2 ⊢
  clear hV ht
  have hix := hid (fun j hj w => index_units a0 a1 a2 a3 j hj w)
  have hff := hid (fun j hj => first_four (a0 := a0) (a1 := a1) (a2 := a2) (a3 := a3) (a4 := a4) (a5 := a5) (a6 := a6) (a7 := a7) (a8 := a8) (a9 := a9) (a10 := a10) (a11 := a11) (a12 := a12) j hj)
  generalize htt : [a0, a1, a2, a3, a4, a5, a6, a7, a8, a9, a10, a11, a12] = t at C2 hff ⊢
  clear htt
  unfold tabE at C2
  cases hok : tabOk t
  · have E0 : Hid (tabW t = 0) := hid (by unfold tabW; rw [hok]; rfl)
    rw [hok] at C2
    clear hok
    go_enter Try.func47, Try.ntmps47
    go_wp2_with fail
    with_reducible refine (C2.out _).mono ?_
    rintro e w1 ⟨rfl, hb⟩
    go_wp2_with fail
    go_ret
    refine ⟨ret_int E0.out.symm, btrans (a := w) ?_ hb⟩
    ((with_reducible (repeat (first | assumption | exact Below.refl _ _ | refine bset ?_ (Nat.le_refl _) _ | refine balloc ?_ _ | refine bdrew ?_ | refine bdrewN ?_ _))); done)
  · rw [hok] at C2
    have E0 := hid (tabW_sum hok)
    have OK := hid hok
    clear hok
    go_enter Try.func47, Try.ntmps47
    go_wp2_with fail
    with_reducible refine (C2.out _).mono ?_
    rintro e w1 ⟨rfl, hb⟩
    have B1 := hid (btrans (a := w) (by ((with_reducible (repeat (first | assumption | exact Below.refl _ _ | refine bset ?_ (Nat.le_refl _) _ | refine balloc ?_ _ | refine bdrew ?_ | refine bdrewN ?_ _))); done)) hb)
    have k0 : w1.cell? ⟨w.heap.size, 0, none⟩ = some (.int .i64 a0) := cell_keep (by simp) hb
    have k1 : w1.cell? ⟨w.heap.size, 1, none⟩ = some (.int .i64 a1) := cell_keep (by simp) hb
    have k2 : w1.cell? ⟨w.heap.size, 2, none⟩ = some (.int .i64 a2) := cell_keep (by simp) hb
    have k3 : w1.cell? ⟨w.heap.size, 3, none⟩ = some (.int .i64 a3) := cell_keep (by simp) hb
    clear hb
    go_wp2_with fail
    clear k0 k1 k2 k3
    go_loopg [3, 11] 4 (fun gk v3 v wr => ∃ j : Nat, j ≤ 4 ∧ v = .int .i64 j ∧ v3 = .int .i64 (sumU t j) ∧ Hid (gk + j = 4) ∧ wr = w1)
    case atStart => exact ⟨0, by omega, rfl, rfl, by exact Nat.add_zero _, rfl⟩
    case round =>
      obtain ⟨j, hj, rfl, rfl, hg, rfl⟩ := hrel
      have hs := sumU_bd OK.out j hj
      obtain ⟨hs0, hs1⟩ := hs
      by_cases hj4 : j < 4
      · have hi := hix.out j hj4
        have hu := units_bd OK.out j hj4
        obtain ⟨hu0, hu1⟩ := hu
        rw [hff.out j hj4] at hi
        have hst : Hid (sumU t (j + 1) = sumU t j + t[j]?.getD 0) := hid rfl
        have hji : (j : Int) < 4 := by omega
        have hj0 : (0 : Int) ≤ (j : Int) := by omega
        generalize t[j]?.getD 0 = u at *
        go_wp2
        go_roundg (4 - (j + 1))
        case measure => have := hg.out; omega
        case rel => exact ⟨j + 1, by omega, by go_num, by rw [hst.out], by show _ + _ = _; omega, rfl⟩
      · obtain rfl : j = 4 := by omega
        go_wp2
        go_ret
        exact ⟨ret_int E0.out.symm, B1.out⟩
end Go.Proofs.Ytcibkoodnfkogaa
