/- The contracts of table.Check and of the document's own. -/
import Derived.Test.YtcibkoodnfkogaaChk
import Derived.Deep.LoopGhost
namespace Go.Proofs.Ytcibkoodnfkogaa
open Go.RowKit
set_option linter.unusedVariables false
set_option linter.unusedSimpArgs false

/-- A table: 13 numbers (units, latencies, busy, four each; the delay). -/
def tabV (t : List Int) : Value := .agg (t.map (Value.int .i64)).toArray
/-- Is class c of the table right? -/
def clsOk (t : List Int) (c : Nat) : Bool :=
  decide (0 ≤ t[c]?.getD 0) && decide (t[c]?.getD 0 ≤ 8) && decide (1 ≤ t[4 + c]?.getD 0) && decide (t[4 + c]?.getD 0 ≤ 8) && decide (1 ≤ t[8 + c]?.getD 0) && decide (t[8 + c]?.getD 0 ≤ 4)
def tabOk (t : List Int) : Bool := clsOk t 0 && clsOk t 1 && clsOk t 2 && clsOk t 3 && decide (0 ≤ t[(12 : Nat)]?.getD 0) && decide (t[(12 : Nat)]?.getD 0 ≤ 4)
def tabE (t : List Int) : Int := if tabOk t then 0 else 20
def inB (n lo hi : Int) : Bool := decide (lo ≤ n) && decide (n ≤ hi)

set_option maxHeartbeats 4000000 in
set_option maxRecDepth 100000 in
theorem in_any (n lo hi : Int) (w : World) :
    Calls Try.prog 100 #[.int .i64 n, .int .i64 lo, .int .i64 hi] w fun e w' => e = .returned (.bool (inB n lo hi)) ∧ w = w' := by
  by_cases h : lo ≤ n
  · have e : inB n lo hi = decide (n ≤ hi) := by unfold inB; rw [decide_eq_true h]; rfl
    rw [e]
    clear e
    go_enter Try.func100, Try.ntmps100
    go_wp2
    go_ret
    exact ⟨rfl, rfl⟩
  · have e : inB n lo hi = false := by unfold inB; rw [decide_eq_false h]; rfl
    rw [e]
    clear e
    go_enter Try.func100, Try.ntmps100
    go_wp2
    go_ret
    exact ⟨rfl, rfl⟩
theorem tab_cell (t : List Int) (w : World) (j : Nat) (hj : j < t.length) (T : TypeId) : (w.alloc (.cells (t.map (Value.int .i64)).toArray T)).cell? ⟨w.heap.size, j, none⟩ = some (.int .i64 (t[j]?.getD 0)) := by
  rw [cell_of_row _ _ _ _ _ _ (heap_alloc_new _ _)]
  simp [hj]
theorem clsOk_inB (t : List Int) (c : Nat) : clsOk t c = (inB (t[c]?.getD 0) 0 8 && inB (t[4 + c]?.getD 0) 1 8 && inB (t[8 + c]?.getD 0) 1 4) := by
  unfold clsOk inB
  simp only [Bool.and_assoc]
theorem tabOk_false (t : List Int) (c : Nat) (hc : c < 4) (h : clsOk t c = false) : tabE t = 20 := by
  have e : tabOk t = false := by
    unfold tabOk
    obtain rfl | rfl | rfl | rfl : c = 0 ∨ c = 1 ∨ c = 2 ∨ c = 3 := by omega
    all_goals simp [h]
  unfold tabE
  rw [e]
  rfl
theorem tabOk_end (t : List Int) (h : ∀ j, j < 4 → clsOk t j = true) : tabE t = if inB (t[(12 : Nat)]?.getD 0) 0 4 then 0 else 20 := by
  unfold tabE tabOk inB
  rw [h 0 (by omega), h 1 (by omega), h 2 (by omega), h 3 (by omega)]
  rfl
set_option maxHeartbeats 4000000 in
set_option maxRecDepth 100000 in
theorem tcheck_any (t : List Int) (w : World) (ht : t.length = 13) :
    Calls Try.prog 67 #[tabV t] w fun e w' => e = .returned (.int .i64 (tabE t)) ∧ Below w.heap.size w w' := by
  have hcell := hid (tab_cell t w)
  replace ht := hid ht
  unfold tabV
  go_enter Try.func67, Try.ntmps67
  go_wp2
  go_loop [5] (fun v => ∃ c : Nat, c ≤ 4 ∧ v = .int .i64 c ∧ Hid (∀ j, j < c → clsOk t j = true)) (fun v => 4 - (intOf v).toNat)
  case atStart => exact ⟨0, by omega, rfl, fun j hj => by omega⟩
  case round =>
    obtain ⟨c, hc4, rfl, hall⟩ := hrel
    by_cases hlt : c < 4
    · have k0 := hcell.out c (by have := ht.out; omega) 28
      have k1 := hcell.out (4 + c) (by have := ht.out; omega) 28
      have k2 := hcell.out (8 + c) (by have := ht.out; omega) 28
      cases i0 : inB (t[c]?.getD 0) 0 8
      · have e := tabOk_false t c hlt (by rw [clsOk_inB, i0]; rfl)
        replace e := hid e
        go_wp2_with (go_at_call 100; refine (in_any _ _ _ _).mono ?_; rintro e w' ⟨rfl, rfl⟩)
        go_ret
        exact ⟨ret_int e.out.symm, by ((with_reducible (repeat (first | assumption | exact Below.refl _ _ | refine bset ?_ (Nat.le_refl _) _ | refine balloc ?_ _ | refine bdrew ?_ | refine bdrewN ?_ _))); done)⟩
      cases i1 : inB (t[4 + c]?.getD 0) 1 8
      · have e := tabOk_false t c hlt (by rw [clsOk_inB, i1, Bool.and_false]; rfl)
        replace e := hid e
        go_wp2_with (go_at_call 100; refine (in_any _ _ _ _).mono ?_; rintro e w' ⟨rfl, rfl⟩)
        go_ret
        exact ⟨ret_int e.out.symm, by ((with_reducible (repeat (first | assumption | exact Below.refl _ _ | refine bset ?_ (Nat.le_refl _) _ | refine balloc ?_ _ | refine bdrew ?_ | refine bdrewN ?_ _))); done)⟩
      cases i2 : inB (t[8 + c]?.getD 0) 1 4
      · have e := tabOk_false t c hlt (by rw [clsOk_inB, i2, Bool.and_false])
        replace e := hid e
        go_wp2_with (go_at_call 100; refine (in_any _ _ _ _).mono ?_; rintro e w' ⟨rfl, rfl⟩)
        go_ret
        exact ⟨ret_int e.out.symm, by ((with_reducible (repeat (first | assumption | exact Below.refl _ _ | refine bset ?_ (Nat.le_refl _) _ | refine balloc ?_ _ | refine bdrew ?_ | refine bdrewN ?_ _))); done)⟩
      · go_wp2_with (go_at_call 100; refine (in_any _ _ _ _).mono ?_; rintro e w' ⟨rfl, rfl⟩)
        go_round
        case rel =>
          refine ⟨c + 1, by omega, by go_num, fun j hj => ?_⟩
          by_cases h : j < c
          · exact hall.out j h
          · obtain rfl : j = c := by omega
            rw [clsOk_inB, i0, i1, i2]
            rfl
        case measure => simp [intOf]; omega
    · obtain rfl : c = 4 := by omega
      have k0 := hcell.out 12 (by have := ht.out; omega) 28
      have e := tabOk_end t hall.out
      cases i0 : inB (t[(12 : Nat)]?.getD 0) 0 4
      all_goals
        rw [i0] at e
        simp only [if_true, Bool.false_eq_true, if_false] at e
        replace e := hid e
        go_wp2_with (go_at_call 100; refine (in_any _ _ _ _).mono ?_; rintro e w' ⟨rfl, rfl⟩)
        go_ret
        exact ⟨ret_int e.out.symm, by ((with_reducible (repeat (first | assumption | exact Below.refl _ _ | refine bset ?_ (Nat.le_refl _) _ | refine balloc ?_ _ | refine bdrew ?_ | refine bdrewN ?_ _))); done)⟩
/-- How many words a bundle has. -/
def tabW (t : List Int) : Int := if tabOk t then t[(0 : Nat)]?.getD 0 + t[(1 : Nat)]?.getD 0 + t[(2 : Nat)]?.getD 0 + t[(3 : Nat)]?.getD 0 else 0
theorem tabOk_cls {t : List Int} (h : tabOk t = true) (c : Nat) (hc : c < 4) : clsOk t c = true := by
  unfold tabOk at h
  simp only [Bool.and_eq_true] at h
  obtain rfl | rfl | rfl | rfl : c = 0 ∨ c = 1 ∨ c = 2 ∨ c = 3 := by omega
  all_goals simp [h]
theorem units_bd {t : List Int} (h : tabOk t = true) (c : Nat) (hc : c < 4) : 0 ≤ t[c]?.getD 0 ∧ t[c]?.getD 0 ≤ 8 := by
  have := tabOk_cls h c hc
  unfold clsOk at this
  simp only [Bool.and_eq_true, decide_eq_true_eq] at this
  exact ⟨this.1.1.1.1.1, this.1.1.1.1.2⟩
theorem lat_bd {t : List Int} (h : tabOk t = true) (c : Nat) (hc : c < 4) : 1 ≤ t[4 + c]?.getD 0 ∧ t[4 + c]?.getD 0 ≤ 8 := by
  have := tabOk_cls h c hc
  unfold clsOk at this
  simp only [Bool.and_eq_true, decide_eq_true_eq] at this
  exact ⟨this.1.1.1.2, this.1.1.2⟩
theorem busy_bd {t : List Int} (h : tabOk t = true) (c : Nat) (hc : c < 4) : 1 ≤ t[8 + c]?.getD 0 ∧ t[8 + c]?.getD 0 ≤ 4 := by
  have := tabOk_cls h c hc
  unfold clsOk at this
  simp only [Bool.and_eq_true, decide_eq_true_eq] at this
  exact ⟨this.1.2, this.2⟩
theorem delay_bd {t : List Int} (h : tabOk t = true) : 0 ≤ t[(12 : Nat)]?.getD 0 ∧ t[(12 : Nat)]?.getD 0 ≤ 4 := by
  unfold tabOk at h
  simp only [Bool.and_eq_true, decide_eq_true_eq] at h
  exact ⟨h.1.2, h.2⟩
set_option maxHeartbeats 4000000 in
set_option maxRecDepth 100000 in
theorem rtcheck_any (t : List Int) (w : World) (ht : t.length = 13) :
    Calls Try.prog 79 #[tabV t] w fun e w' => e = .returned (.int .i64 (tabE t)) ∧ Below w.heap.size w w' := by
  have hcell := hid (tab_cell t w)
  replace ht := hid ht
  unfold tabV
  go_enter Try.func79, Try.ntmps79
  go_wp2
  go_loop [3] (fun v => ∃ c : Nat, c ≤ 4 ∧ v = .int .i64 c ∧ Hid (∀ j, j < c → clsOk t j = true)) (fun v => 4 - (intOf v).toNat)
  case atStart => exact ⟨0, by omega, rfl, fun j hj => by omega⟩
  case round =>
    obtain ⟨c, hc4, rfl, hall⟩ := hrel
    by_cases hlt : c < 4
    · have k0 := hcell.out c (by have := ht.out; omega) 28
      have k1 := hcell.out (4 + c) (by have := ht.out; omega) 28
      have k2 := hcell.out (8 + c) (by have := ht.out; omega) 28
      cases hk : clsOk t c
      · have e := hid (tabOk_false t c hlt hk)
        unfold clsOk at hk
        by_cases q0 : 0 ≤ t[c]?.getD 0
        · by_cases q1 : t[c]?.getD 0 ≤ 8
          · by_cases q2 : 1 ≤ t[4 + c]?.getD 0
            · by_cases q3 : t[4 + c]?.getD 0 ≤ 8
              · by_cases q4 : 1 ≤ t[8 + c]?.getD 0
                · by_cases q5 : t[8 + c]?.getD 0 ≤ 4
                  · simp [q0, q1, q2, q3, q4, q5] at hk
                  all_goals (clear hk; go_wp2; go_ret; exact ⟨ret_int e.out.symm, by ((with_reducible (repeat (first | assumption | exact Below.refl _ _ | refine bset ?_ (Nat.le_refl _) _ | refine balloc ?_ _ | refine bdrew ?_ | refine bdrewN ?_ _))); done)⟩)
                all_goals (clear hk; go_wp2; go_ret; exact ⟨ret_int e.out.symm, by ((with_reducible (repeat (first | assumption | exact Below.refl _ _ | refine bset ?_ (Nat.le_refl _) _ | refine balloc ?_ _ | refine bdrew ?_ | refine bdrewN ?_ _))); done)⟩)
              all_goals (clear hk; go_wp2; go_ret; exact ⟨ret_int e.out.symm, by ((with_reducible (repeat (first | assumption | exact Below.refl _ _ | refine bset ?_ (Nat.le_refl _) _ | refine balloc ?_ _ | refine bdrew ?_ | refine bdrewN ?_ _))); done)⟩)
            all_goals (clear hk; go_wp2; go_ret; exact ⟨ret_int e.out.symm, by ((with_reducible (repeat (first | assumption | exact Below.refl _ _ | refine bset ?_ (Nat.le_refl _) _ | refine balloc ?_ _ | refine bdrew ?_ | refine bdrewN ?_ _))); done)⟩)
          all_goals (clear hk; go_wp2; go_ret; exact ⟨ret_int e.out.symm, by ((with_reducible (repeat (first | assumption | exact Below.refl _ _ | refine bset ?_ (Nat.le_refl _) _ | refine balloc ?_ _ | refine bdrew ?_ | refine bdrewN ?_ _))); done)⟩)
        all_goals (clear hk; go_wp2; go_ret; exact ⟨ret_int e.out.symm, by ((with_reducible (repeat (first | assumption | exact Below.refl _ _ | refine bset ?_ (Nat.le_refl _) _ | refine balloc ?_ _ | refine bdrew ?_ | refine bdrewN ?_ _))); done)⟩)
      · have hk' := hid hk
        unfold clsOk at hk
        simp only [Bool.and_eq_true, decide_eq_true_eq] at hk
        obtain ⟨⟨⟨⟨⟨q0, q1⟩, q2⟩, q3⟩, q4⟩, q5⟩ := hk
        go_wp2
        go_round
        case rel =>
          refine ⟨c + 1, by omega, by go_num, fun j hj => ?_⟩
          by_cases h : j < c
          · exact hall.out j h
          · obtain rfl : j = c := by omega
            exact hk'.out
        case measure => simp [intOf]; omega
    · obtain rfl : c = 4 := by omega
      have k0 := hcell.out 12 (by have := ht.out; omega) 28
      have e := tabOk_end t hall.out
      unfold inB at e
      by_cases q0 : 0 ≤ t[(12 : Nat)]?.getD 0
      · by_cases q1 : t[(12 : Nat)]?.getD 0 ≤ 4
        · rw [decide_eq_true q0, decide_eq_true q1] at e
          replace e := hid e
          go_wp2
          go_ret
          exact ⟨ret_int e.out.symm, by ((with_reducible (repeat (first | assumption | exact Below.refl _ _ | refine bset ?_ (Nat.le_refl _) _ | refine balloc ?_ _ | refine bdrew ?_ | refine bdrewN ?_ _))); done)⟩
        · rw [decide_eq_true q0, decide_eq_false q1] at e
          replace e := hid e
          go_wp2
          go_ret
          exact ⟨ret_int e.out.symm, by ((with_reducible (repeat (first | assumption | exact Below.refl _ _ | refine bset ?_ (Nat.le_refl _) _ | refine balloc ?_ _ | refine bdrew ?_ | refine bdrewN ?_ _))); done)⟩
      · rw [decide_eq_false q0] at e
        replace e := hid e
        go_wp2
        go_ret
        exact ⟨ret_int e.out.symm, by ((with_reducible (repeat (first | assumption | exact Below.refl _ _ | refine bset ?_ (Nat.le_refl _) _ | refine balloc ?_ _ | refine bdrew ?_ | refine bdrewN ?_ _))); done)⟩
end Go.Proofs.Ytcibkoodnfkogaa
