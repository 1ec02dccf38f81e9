/- The contracts of table.Check and of the document's own. -/
import Derived.Test.YtcibkoodnfkogaaY1
import Derived.Deep.LoopGhost
import Derived.Test.YtcibkoodnfkogaaY5
import Derived.Test.YtcibkoodnfkogaaY3
namespace Go.Proofs.Ytcibkoodnfkogaa
open Go.RowKit
set_option linter.unusedVariables false
set_option linter.unusedSimpArgs false
section
open Go.RowKit

/-- A table: 13 numbers (units, latencies, busy, four each; the delay). -/
def tabV (t : List Int) : Value := .agg (t.map (Value.int .i64)).toArray
/-- Is class c of the table right? -/
def clsOk (t : List Int) (c : Nat) : Bool :=
  decide (0 ≤ t[c]?.getD 0) && decide (t[c]?.getD 0 ≤ 8) && decide (1 ≤ t[4 + c]?.getD 0) && decide (t[4 + c]?.getD 0 ≤ 8) && decide (1 ≤ t[8 + c]?.getD 0) && decide (t[8 + c]?.getD 0 ≤ 4)
def tabOk (t : List Int) : Bool := clsOk t 0 && clsOk t 1 && clsOk t 2 && clsOk t 3 && decide (0 ≤ t[(12 : Nat)]?.getD 0) && decide (t[(12 : Nat)]?.getD 0 ≤ 4)
def tabE (t : List Int) : Int := if tabOk t then 0 else 20
def inB (n lo hi : Int) : Bool := decide (lo ≤ n) && decide (n ≤ hi)

set_option maxHeartbeats 4000000 in
set_option maxRecDepth 100000 in
theorem in_any (n lo hi : Int) (w : World) :
    Calls Try.prog 100 #[.int .i64 n, .int .i64 lo, .int .i64 hi] w fun e w' => e = .returned (.bool (inB n lo hi)) ∧ w = w' := by
  by_cases h : lo ≤ n
  · have e : inB n lo hi = decide (n ≤ hi) := by unfold inB; rw [decide_eq_true h]; rfl
    rw [e]
    clear e
    go_enter Try.func100, Try.ntmps100
    go_wp2
    go_ret
    exact ⟨rfl, rfl⟩
  · have e : inB n lo hi = false := by unfold inB; rw [decide_eq_false h]; rfl
    rw [e]
    clear e
    go_enter Try.func100, Try.ntmps100
    go_wp2
    go_ret
    exact ⟨rfl, rfl⟩
theorem tab_cell (t : List Int) (w : World) (j : Nat) (hj : j < t.length) (T : TypeId) : (w.alloc (.cells (t.map (Value.int .i64)).toArray T)).cell? ⟨w.heap.size, j, none⟩ = some (.int .i64 (t[j]?.getD 0)) := by
  rw [cell_of_row _ _ _ _ _ _ (heap_alloc_new _ _)]
  simp [hj]
theorem clsOk_inB (t : List Int) (c : Nat) : clsOk t c = (inB (t[c]?.getD 0) 0 8 && inB (t[4 + c]?.getD 0) 1 8 && inB (t[8 + c]?.getD 0) 1 4) := by
  unfold clsOk inB
  simp only [Bool.and_assoc]
theorem tabOk_false (t : List Int) (c : Nat) (hc : c < 4) (h : clsOk t c = false) : tabE t = 20 := by
  have e : tabOk t = false := by
    unfold tabOk
    obtain rfl | rfl | rfl | rfl : c = 0 ∨ c = 1 ∨ c = 2 ∨ c = 3 := by omega
    all_goals simp [h]
  unfold tabE
  rw [e]
  rfl
theorem tabOk_end (t : List Int) (h : ∀ j, j < 4 → clsOk t j = true) : tabE t = if inB (t[(12 : Nat)]?.getD 0) 0 4 then 0 else 20 := by
  unfold tabE tabOk inB
  rw [h 0 (by omega), h 1 (by omega), h 2 (by omega), h 3 (by omega)]
  rfl
set_option maxHeartbeats 4000000 in
set_option maxRecDepth 100000 in
theorem tcheck_any (t : List Int) (w : World) (ht : t.length = 13) :
    Calls Try.prog 67 #[tabV t] w fun e w' => e = .returned (.int .i64 (tabE t)) ∧ Below w.heap.size w w' := by
  have hcell := hid (tab_cell t w)
  replace ht := hid ht
  unfold tabV
  go_enter Try.func67, Try.ntmps67
  go_wp2
  go_loop [5] (fun v => ∃ c : Nat, c ≤ 4 ∧ v = .int .i64 c ∧ Hid (∀ j, j < c → clsOk t j = true)) (fun v => 4 - (intOf v).toNat)
  case atStart => exact ⟨0, by omega, rfl, fun j hj => by omega⟩
  case round =>
    obtain ⟨c, hc4, rfl, hall⟩ := hrel
    by_cases hlt : c < 4
    · have k0 := hcell.out c (by have := ht.out; omega) 28
      have k1 := hcell.out (4 + c) (by have := ht.out; omega) 28
      have k2 := hcell.out (8 + c) (by have := ht.out; omega) 28
      cases i0 : inB (t[c]?.getD 0) 0 8
      · have e := tabOk_false t c hlt (by rw [clsOk_inB, i0]; rfl)
        replace e := hid e
        go_wp2_with (go_at_call 100; refine (in_any _ _ _ _).mono ?_; rintro e w' ⟨rfl, rfl⟩)
        go_ret
        exact ⟨ret_int e.out.symm, by ((with_reducible (repeat (first | assumption | exact Below.refl _ _ | refine bset ?_ (Nat.le_refl _) _ | refine balloc ?_ _ | refine bdrew ?_ | refine bdrewN ?_ _))); done)⟩
      cases i1 : inB (t[4 + c]?.getD 0) 1 8
      · have e := tabOk_false t c hlt (by rw [clsOk_inB, i1, Bool.and_false]; rfl)
        replace e := hid e
        go_wp2_with (go_at_call 100; refine (in_any _ _ _ _).mono ?_; rintro e w' ⟨rfl, rfl⟩)
        go_ret
        exact ⟨ret_int e.out.symm, by ((with_reducible (repeat (first | assumption | exact Below.refl _ _ | refine bset ?_ (Nat.le_refl _) _ | refine balloc ?_ _ | refine bdrew ?_ | refine bdrewN ?_ _))); done)⟩
      cases i2 : inB (t[8 + c]?.getD 0) 1 4
      · have e := tabOk_false t c hlt (by rw [clsOk_inB, i2, Bool.and_false])
        replace e := hid e
        go_wp2_with (go_at_call 100; refine (in_any _ _ _ _).mono ?_; rintro e w' ⟨rfl, rfl⟩)
        go_ret
        exact ⟨ret_int e.out.symm, by ((with_reducible (repeat (first | assumption | exact Below.refl _ _ | refine bset ?_ (Nat.le_refl _) _ | refine balloc ?_ _ | refine bdrew ?_ | refine bdrewN ?_ _))); done)⟩
      · go_wp2_with (go_at_call 100; refine (in_any _ _ _ _).mono ?_; rintro e w' ⟨rfl, rfl⟩)
        go_round
        case rel =>
          refine ⟨c + 1, by omega, by go_num, fun j hj => ?_⟩
          by_cases h : j < c
          · exact hall.out j h
          · obtain rfl : j = c := by omega
            rw [clsOk_inB, i0, i1, i2]
            rfl
        case measure => simp [intOf]; omega
    · obtain rfl : c = 4 := by omega
      have k0 := hcell.out 12 (by have := ht.out; omega) 28
      have e := tabOk_end t hall.out
      cases i0 : inB (t[(12 : Nat)]?.getD 0) 0 4
      all_goals
        rw [i0] at e
        simp only [if_true, Bool.false_eq_true, if_false] at e
        replace e := hid e
        go_wp2_with (go_at_call 100; refine (in_any _ _ _ _).mono ?_; rintro e w' ⟨rfl, rfl⟩)
        go_ret
        exact ⟨ret_int e.out.symm, by ((with_reducible (repeat (first | assumption | exact Below.refl _ _ | refine bset ?_ (Nat.le_refl _) _ | refine balloc ?_ _ | refine bdrew ?_ | refine bdrewN ?_ _))); done)⟩
/-- How many words a bundle has. -/
def tabW (t : List Int) : Int := if tabOk t then t[(0 : Nat)]?.getD 0 + t[(1 : Nat)]?.getD 0 + t[(2 : Nat)]?.getD 0 + t[(3 : Nat)]?.getD 0 else 0
theorem tabOk_cls {t : List Int} (h : tabOk t = true) (c : Nat) (hc : c < 4) : clsOk t c = true := by
  unfold tabOk at h
  simp only [Bool.and_eq_true] at h
  obtain rfl | rfl | rfl | rfl : c = 0 ∨ c = 1 ∨ c = 2 ∨ c = 3 := by omega
  all_goals simp [h]
theorem units_bd {t : List Int} (h : tabOk t = true) (c : Nat) (hc : c < 4) : 0 ≤ t[c]?.getD 0 ∧ t[c]?.getD 0 ≤ 8 := by
  have := tabOk_cls h c hc
  unfold clsOk at this
  simp only [Bool.and_eq_true, decide_eq_true_eq] at this
  exact ⟨this.1.1.1.1.1, this.1.1.1.1.2⟩
theorem lat_bd {t : List Int} (h : tabOk t = true) (c : Nat) (hc : c < 4) : 1 ≤ t[4 + c]?.getD 0 ∧ t[4 + c]?.getD 0 ≤ 8 := by
  have := tabOk_cls h c hc
  unfold clsOk at this
  simp only [Bool.and_eq_true, decide_eq_true_eq] at this
  exact ⟨this.1.1.1.2, this.1.1.2⟩
theorem busy_bd {t : List Int} (h : tabOk t = true) (c : Nat) (hc : c < 4) : 1 ≤ t[8 + c]?.getD 0 ∧ t[8 + c]?.getD 0 ≤ 4 := by
  have := tabOk_cls h c hc
  unfold clsOk at this
  simp only [Bool.and_eq_true, decide_eq_true_eq] at this
  exact ⟨this.1.2, this.2⟩
theorem delay_bd {t : List Int} (h : tabOk t = true) : 0 ≤ t[(12 : Nat)]?.getD 0 ∧ t[(12 : Nat)]?.getD 0 ≤ 4 := by
  unfold tabOk at h
  simp only [Bool.and_eq_true, decide_eq_true_eq] at h
  exact ⟨h.1.2, h.2⟩
set_option maxHeartbeats 4000000 in
set_option maxRecDepth 100000 in
theorem rtcheck_any (t : List Int) (w : World) (ht : t.length = 13) :
    Calls Try.prog 79 #[tabV t] w fun e w' => e = .returned (.int .i64 (tabE t)) ∧ Below w.heap.size w w' := by
  have hcell := hid (tab_cell t w)
  replace ht := hid ht
  unfold tabV
  go_enter Try.func79, Try.ntmps79
  go_wp2
  go_loop [3] (fun v => ∃ c : Nat, c ≤ 4 ∧ v = .int .i64 c ∧ Hid (∀ j, j < c → clsOk t j = true)) (fun v => 4 - (intOf v).toNat)
  case atStart => exact ⟨0, by omega, rfl, fun j hj => by omega⟩
  case round =>
    obtain ⟨c, hc4, rfl, hall⟩ := hrel
    by_cases hlt : c < 4
    · have k0 := hcell.out c (by have := ht.out; omega) 28
      have k1 := hcell.out (4 + c) (by have := ht.out; omega) 28
      have k2 := hcell.out (8 + c) (by have := ht.out; omega) 28
      cases hk : clsOk t c
      · have e := hid (tabOk_false t c hlt hk)
        unfold clsOk at hk
        by_cases q0 : 0 ≤ t[c]?.getD 0
        · by_cases q1 : t[c]?.getD 0 ≤ 8
          · by_cases q2 : 1 ≤ t[4 + c]?.getD 0
            · by_cases q3 : t[4 + c]?.getD 0 ≤ 8
              · by_cases q4 : 1 ≤ t[8 + c]?.getD 0
                · by_cases q5 : t[8 + c]?.getD 0 ≤ 4
                  · simp [q0, q1, q2, q3, q4, q5] at hk
                  all_goals (clear hk; go_wp2; go_ret; exact ⟨ret_int e.out.symm, by ((with_reducible (repeat (first | assumption | exact Below.refl _ _ | refine bset ?_ (Nat.le_refl _) _ | refine balloc ?_ _ | refine bdrew ?_ | refine bdrewN ?_ _))); done)⟩)
                all_goals (clear hk; go_wp2; go_ret; exact ⟨ret_int e.out.symm, by ((with_reducible (repeat (first | assumption | exact Below.refl _ _ | refine bset ?_ (Nat.le_refl _) _ | refine balloc ?_ _ | refine bdrew ?_ | refine bdrewN ?_ _))); done)⟩)
              all_goals (clear hk; go_wp2; go_ret; exact ⟨ret_int e.out.symm, by ((with_reducible (repeat (first | assumption | exact Below.refl _ _ | refine bset ?_ (Nat.le_refl _) _ | refine balloc ?_ _ | refine bdrew ?_ | refine bdrewN ?_ _))); done)⟩)
            all_goals (clear hk; go_wp2; go_ret; exact ⟨ret_int e.out.symm, by ((with_reducible (repeat (first | assumption | exact Below.refl _ _ | refine bset ?_ (Nat.le_refl _) _ | refine balloc ?_ _ | refine bdrew ?_ | refine bdrewN ?_ _))); done)⟩)
          all_goals (clear hk; go_wp2; go_ret; exact ⟨ret_int e.out.symm, by ((with_reducible (repeat (first | assumption | exact Below.refl _ _ | refine bset ?_ (Nat.le_refl _) _ | refine balloc ?_ _ | refine bdrew ?_ | refine bdrewN ?_ _))); done)⟩)
        all_goals (clear hk; go_wp2; go_ret; exact ⟨ret_int e.out.symm, by ((with_reducible (repeat (first | assumption | exact Below.refl _ _ | refine bset ?_ (Nat.le_refl _) _ | refine balloc ?_ _ | refine bdrew ?_ | refine bdrewN ?_ _))); done)⟩)
      · have hk' := hid hk
        unfold clsOk at hk
        simp only [Bool.and_eq_true, decide_eq_true_eq] at hk
        obtain ⟨⟨⟨⟨⟨q0, q1⟩, q2⟩, q3⟩, q4⟩, q5⟩ := hk
        go_wp2
        go_round
        case rel =>
          refine ⟨c + 1, by omega, by go_num, fun j hj => ?_⟩
          by_cases h : j < c
          · exact hall.out j h
          · obtain rfl : j = c := by omega
            exact hk'.out
        case measure => simp [intOf]; omega
    · obtain rfl : c = 4 := by omega
      have k0 := hcell.out 12 (by have := ht.out; omega) 28
      have e := tabOk_end t hall.out
      unfold inB at e
      by_cases q0 : 0 ≤ t[(12 : Nat)]?.getD 0
      · by_cases q1 : t[(12 : Nat)]?.getD 0 ≤ 4
        · rw [decide_eq_true q0, decide_eq_true q1] at e
          replace e := hid e
          go_wp2
          go_ret
          exact ⟨ret_int e.out.symm, by ((with_reducible (repeat (first | assumption | exact Below.refl _ _ | refine bset ?_ (Nat.le_refl _) _ | refine balloc ?_ _ | refine bdrew ?_ | refine bdrewN ?_ _))); done)⟩
        · rw [decide_eq_true q0, decide_eq_false q1] at e
          replace e := hid e
          go_wp2
          go_ret
          exact ⟨ret_int e.out.symm, by ((with_reducible (repeat (first | assumption | exact Below.refl _ _ | refine bset ?_ (Nat.le_refl _) _ | refine balloc ?_ _ | refine bdrew ?_ | refine bdrewN ?_ _))); done)⟩
      · rw [decide_eq_false q0] at e
        replace e := hid e
        go_wp2
        go_ret
        exact ⟨ret_int e.out.symm, by ((with_reducible (repeat (first | assumption | exact Below.refl _ _ | refine bset ?_ (Nat.le_refl _) _ | refine balloc ?_ _ | refine bdrew ?_ | refine bdrewN ?_ _))); done)⟩
end
/- The contract of the document's own table of kinds (hayloftref03.Of). -/
section
open Go.RowKit
/-- A row of the document's table. -/
def Shp.row (s : Shp) : Value := .agg #[.string s.name, .int .i64 s.cls, .bool s.d, .bool s.a, .bool s.b, .bool s.num, .bool s.imm]
set_option maxHeartbeats 4000000 in
set_option maxRecDepth 100000 in
theorem turns_some (k : Int) (w : World) (h : k = 18 ∨ k = 19 ∨ k = 20 ∨ k = 21 ∨ k = 22 ∨ k = 23) :
    Calls Try.prog 140 #[.int .i8 k] w fun e w' => e = .returned (.tuple #[(shp k).row, .bool true]) ∧ Below w.heap.size w w' := by
  rcases h with rfl | rfl | rfl | rfl | rfl | rfl
  all_goals
    go_enter Try.func140, Try.ntmps140
    go_wp2
    refine bodyPost_ret (v := .tuple #[.agg #[_, _, _, _, _, _, _], .bool true]) (by simp [results, Try.results140, go_sem]; first | rfl | exact ⟨rfl, rfl, rfl, rfl, rfl, rfl, rfl⟩) rfl ⟨rfl, ?_⟩
    ((with_reducible (repeat (first | assumption | exact Below.refl _ _ | refine bset ?_ (Nat.le_refl _) _ | refine balloc ?_ _ | refine bdrew ?_ | refine bdrewN ?_ _))); done)
set_option maxHeartbeats 4000000 in
set_option maxRecDepth 100000 in
theorem turns_none (k : Int) (w : World) (h18 : (k == 18) = false) (h19 : (k == 19) = false) (h20 : (k == 20) = false) (h21 : (k == 21) = false) (h22 : (k == 22) = false) (h23 : (k == 23) = false) :
    Calls Try.prog 140 #[.int .i8 k] w fun e w' => e = .returned (.tuple #[noShp.row, .bool false]) ∧ Below w.heap.size w w' := by
  go_enter Try.func140, Try.ntmps140
  go_wp2
  refine bodyPost_ret (v := .tuple #[noShp.row, .bool false]) (by simp [results, Try.results140, go_sem, noShp, Shp.row]) rfl ⟨rfl, ?_⟩
  ((with_reducible (repeat (first | assumption | exact Below.refl _ _ | refine bset ?_ (Nat.le_refl _) _ | refine balloc ?_ _ | refine bdrew ?_ | refine bdrewN ?_ _))); done)
set_option maxHeartbeats 4000000 in
set_option maxRecDepth 100000 in
theorem rof_low (k : Int) (w : World) (h : k = 0 ∨ k = 1 ∨ k = 11 ∨ k = 15 ∨ k = 16 ∨ k = 17) :
    Calls Try.prog 114 #[.int .i8 k] w fun e w' => e = .returned (.tuple #[(shp k).row, .bool true]) ∧ Below w.heap.size w w' := by
  rcases h with rfl | rfl | rfl | rfl | rfl | rfl
  all_goals
    go_enter Try.func114, Try.ntmps114
    go_wp2
    refine bodyPost_ret (v := .tuple #[.agg #[_, _, _, _, _, _, _], .bool true]) (by simp [results, Try.results114, go_sem]; first | rfl | exact ⟨rfl, rfl, rfl, rfl, rfl, rfl, rfl⟩) rfl ⟨rfl, ?_⟩
    ((with_reducible (repeat (first | assumption | exact Below.refl _ _ | refine bset ?_ (Nat.le_refl _) _ | refine balloc ?_ _ | refine bdrew ?_ | refine bdrewN ?_ _))); done)
set_option maxHeartbeats 4000000 in
set_option maxRecDepth 100000 in
theorem rof_mid (k : Int) (w : World) (h : k = 2 ∨ k = 3 ∨ k = 4 ∨ k = 5 ∨ k = 6 ∨ k = 7) :
    Calls Try.prog 114 #[.int .i8 k] w fun e w' => e = .returned (.tuple #[(shp k).row, .bool true]) ∧ Below w.heap.size w w' := by
  rcases h with rfl | rfl | rfl | rfl | rfl | rfl
  all_goals
    go_enter Try.func114, Try.ntmps114
    go_wp2
    refine bodyPost_ret (v := .tuple #[.agg #[_, _, _, _, _, _, _], .bool true]) (by simp [results, Try.results114, go_sem]; first | rfl | exact ⟨rfl, rfl, rfl, rfl, rfl, rfl, rfl⟩) rfl ⟨rfl, ?_⟩
    ((with_reducible (repeat (first | assumption | exact Below.refl _ _ | refine bset ?_ (Nat.le_refl _) _ | refine balloc ?_ _ | refine bdrew ?_ | refine bdrewN ?_ _))); done)
set_option maxHeartbeats 4000000 in
set_option maxRecDepth 100000 in
theorem rof_mid2 (k : Int) (w : World) (h : k = 8 ∨ k = 9 ∨ k = 10 ∨ k = 12 ∨ k = 13 ∨ k = 14) :
    Calls Try.prog 114 #[.int .i8 k] w fun e w' => e = .returned (.tuple #[(shp k).row, .bool true]) ∧ Below w.heap.size w w' := by
  rcases h with rfl | rfl | rfl | rfl | rfl | rfl
  all_goals
    go_enter Try.func114, Try.ntmps114
    go_wp2
    refine bodyPost_ret (v := .tuple #[.agg #[_, _, _, _, _, _, _], .bool true]) (by simp [results, Try.results114, go_sem]; first | rfl | exact ⟨rfl, rfl, rfl, rfl, rfl, rfl, rfl⟩) rfl ⟨rfl, ?_⟩
    ((with_reducible (repeat (first | assumption | exact Below.refl _ _ | refine bset ?_ (Nat.le_refl _) _ | refine balloc ?_ _ | refine bdrew ?_ | refine bdrewN ?_ _))); done)
end
/- The contracts of the document's own functions of layer 3: Of, Class, Check, Writes. -/
section
open Go.RowKit
set_option maxHeartbeats 4000000 in
set_option maxRecDepth 100000 in
theorem rof_high (k : Int) (w : World) (h : k = 18 ∨ k = 19 ∨ k = 20 ∨ k = 21 ∨ k = 22 ∨ k = 23) :
    Calls Try.prog 114 #[.int .i8 k] w fun e w' => e = .returned (.tuple #[(shp k).row, .bool true]) ∧ Below w.heap.size w w' := by
  rcases h with rfl | rfl | rfl | rfl | rfl | rfl
  all_goals
    go_enter Try.func114, Try.ntmps114
    go_wp2_with (go_at_call 140; refine (turns_some _ _ (by decide)).mono ?_; rintro e w' ⟨rfl, hb⟩; obtain ⟨hc, hf⟩ := bcell hb; have hz := bsize hb; simp only [Shp.row])
    refine bodyPost_ret (v := .tuple #[.agg #[_, _, _, _, _, _, _], .bool true]) (by simp [results, Try.results114, go_sem, hc]) rfl ⟨rfl, ?_⟩
    have hB := below_old hb
    ((with_reducible (repeat (first | assumption | exact Below.refl _ _ | refine bset ?_ (Nat.le_refl _) _ | refine balloc ?_ _ | refine bdrew ?_ | refine bdrewN ?_ _))); done)
set_option maxHeartbeats 4000000 in
set_option maxRecDepth 100000 in
theorem rof_none (k : Int) (w : World) (h : ¬ (0 ≤ k ∧ k < 24)) :
    Calls Try.prog 114 #[.int .i8 k] w fun e w' => e = .returned (.tuple #[noShp.row, .bool false]) ∧ Below w.heap.size w w' := by
  have ht := fun w => turns_none k w (ne_beq (by omega)) (ne_beq (by omega)) (ne_beq (by omega)) (ne_beq (by omega)) (ne_beq (by omega)) (ne_beq (by omega))
  have HT := hid ht
  have h0 := ne_beq (show ¬ k = 0 by omega)
  have h1 := ne_beq (show ¬ k = 1 by omega)
  have h2 := ne_beq (show ¬ k = 2 by omega)
  have h3 := ne_beq (show ¬ k = 3 by omega)
  have h4 := ne_beq (show ¬ k = 4 by omega)
  have h5 := ne_beq (show ¬ k = 5 by omega)
  have h6 := ne_beq (show ¬ k = 6 by omega)
  have h7 := ne_beq (show ¬ k = 7 by omega)
  have h8 := ne_beq (show ¬ k = 8 by omega)
  have h9 := ne_beq (show ¬ k = 9 by omega)
  have h10 := ne_beq (show ¬ k = 10 by omega)
  have h11 := ne_beq (show ¬ k = 11 by omega)
  have h12 := ne_beq (show ¬ k = 12 by omega)
  have h13 := ne_beq (show ¬ k = 13 by omega)
  have h14 := ne_beq (show ¬ k = 14 by omega)
  have h15 := ne_beq (show ¬ k = 15 by omega)
  have h16 := ne_beq (show ¬ k = 16 by omega)
  have h17 := ne_beq (show ¬ k = 17 by omega)
  clear h ht
  go_enter Try.func114, Try.ntmps114
  go_wp2_with (go_at_call 140; refine (HT.out _).mono ?_; rintro e w' ⟨rfl, hb⟩; obtain ⟨hc, hf⟩ := bcell hb; have hz := bsize hb; simp only [noShp, Shp.row])
  refine bodyPost_ret (v := .tuple #[noShp.row, .bool false]) (by simp [results, Try.results114, go_sem, hc, noShp, Shp.row]) rfl ⟨rfl, ?_⟩
  have hB := below_old hb
  ((with_reducible (repeat (first | assumption | exact Below.refl _ _ | refine bset ?_ (Nat.le_refl _) _ | refine balloc ?_ _ | refine bdrew ?_ | refine bdrewN ?_ _))); done)
/-- hayloftref03.Of. -/
theorem rof_any (k : Int) (w : World) : Calls Try.prog 114 #[.int .i8 k] w fun e w' => e = .returned (.tuple #[.agg #[.string (shp k).name, .int .i64 (shp k).cls, .bool (shp k).d, .bool (shp k).a, .bool (shp k).b, .bool (shp k).num, .bool (shp k).imm], .bool (isK k)]) ∧ Below w.heap.size w w' := by
  by_cases h : 0 ≤ k ∧ k < 24
  · have e : isK k = true := by unfold isK; rw [decide_eq_true h.1, decide_eq_true h.2]; rfl
    rw [e]
    by_cases h1 : k = 0 ∨ k = 1 ∨ k = 11 ∨ k = 15 ∨ k = 16 ∨ k = 17
    · exact rof_low k w h1
    by_cases h2 : k = 2 ∨ k = 3 ∨ k = 4 ∨ k = 5 ∨ k = 6 ∨ k = 7
    · exact rof_mid k w h2
    by_cases h3 : k = 8 ∨ k = 9 ∨ k = 10 ∨ k = 12 ∨ k = 13 ∨ k = 14
    · exact rof_mid2 k w h3
    exact rof_high k w (by omega)
  · have e : isK k = false := by
      unfold isK
      by_cases h0 : 0 ≤ k
      · rw [decide_eq_false (fun h1 => h ⟨h0, h1⟩), Bool.and_false]
      · rw [decide_eq_false h0, Bool.false_and]
    rw [e, shp_none k h]
    exact rof_none k w h
set_option maxHeartbeats 4000000 in
set_option maxRecDepth 100000 in
theorem rclass_any (k : Int) (w : World) :
    Calls Try.prog 87 #[.int .i8 k] w fun e w' => e = .returned (.tuple #[.int .i64 (clsN k), .bool (clsB k)]) ∧ Below w.heap.size w w' := by
  have hs := shp_cls k
  cases hk : isK k
  · have e1 : clsB k = false := by unfold clsB; rw [hk]; rfl
    have e2 : clsN k = 0 := by unfold clsN; rw [e1]; rfl
    rw [e1, e2]
    clear e1 e2
    go_enter Try.func87, Try.ntmps87
    go_wp2_with (go_at_call 114; refine (rof_any _ _).mono ?_; rintro e w' ⟨rfl, hb⟩)
    go_ret2
    refine ⟨rfl, ?_⟩
    ((with_reducible (repeat (first | assumption | exact Below.refl _ _ | refine bset ?_ (Nat.le_refl _) _ | refine balloc ?_ _ | refine bdrew ?_ | refine bdrewN ?_ _))); done)
  by_cases h0 : (shp k).cls < 0
  · have e1 : clsB k = false := by unfold clsB; rw [decide_eq_false (by omega), Bool.and_false]
    have e2 : clsN k = 0 := by unfold clsN; rw [e1]; rfl
    rw [e1, e2]
    clear e1 e2
    go_enter Try.func87, Try.ntmps87
    go_wp2_with (go_at_call 114; refine (rof_any _ _).mono ?_; rintro e w' ⟨rfl, hb⟩)
    go_ret2
    refine ⟨rfl, ?_⟩
    ((with_reducible (repeat (first | assumption | exact Below.refl _ _ | refine bset ?_ (Nat.le_refl _) _ | refine balloc ?_ _ | refine bdrew ?_ | refine bdrewN ?_ _))); done)
  · have e1 : clsB k = true := by unfold clsB; rw [hk, decide_eq_true (by omega)]; rfl
    have e2 : clsN k = (shp k).cls := by unfold clsN; rw [e1]; rfl
    rw [e1, e2]
    clear e1 e2 hs
    go_enter Try.func87, Try.ntmps87
    go_wp2_with (go_at_call 114; refine (rof_any _ _).mono ?_; rintro e w' ⟨rfl, hb⟩)
    go_ret2
    refine ⟨rfl, ?_⟩
    ((with_reducible (repeat (first | assumption | exact Below.refl _ _ | refine bset ?_ (Nat.le_refl _) _ | refine balloc ?_ _ | refine bdrew ?_ | refine bdrewN ?_ _))); done)
end
/- The contracts of the document's own functions of layer 3: Check, Writes. -/
section
open Go.RowKit
set_option maxHeartbeats 4000000 in
set_option maxRecDepth 100000 in
theorem rcheck_bad (o : Op) (w : World) (h : isK o.k = false ∨ 31 < o.d ∨ 31 < o.a ∨ 31 < o.b ∨ o.n < -2147483648 ∨ 2147483647 < o.n) :
    Calls Try.prog 88 #[o.val] w fun e w' => e = .returned (.int .i64 30) ∧ Below w.heap.size w w' := by
  obtain ⟨k, d, a, b, n⟩ := o
  simp only [Op.val] at *
  cases hk : isK k
  · clear h
    go_enter Try.func88, Try.ntmps88
    go_wp2_with (go_at_call 114; refine (rof_any _ _).mono ?_; rintro e w' ⟨rfl, hb⟩; obtain ⟨hc, hf⟩ := bcell hb; have hz := bsize hb)
    go_ret
    refine ⟨rfl, ?_⟩
    have hB := below_old hb
    ((with_reducible (repeat (first | assumption | exact Below.refl _ _ | refine bset ?_ (Nat.le_refl _) _ | refine balloc ?_ _ | refine bdrew ?_ | refine bdrewN ?_ _))); done)
  rw [hk] at h
  by_cases h1 : 31 < d
  · clear h
    go_enter Try.func88, Try.ntmps88
    go_wp2_with (go_at_call 114; refine (rof_any _ _).mono ?_; rintro e w' ⟨rfl, hb⟩; obtain ⟨hc, hf⟩ := bcell hb; have hz := bsize hb)
    go_ret
    refine ⟨rfl, ?_⟩
    have hB := below_old hb
    ((with_reducible (repeat (first | assumption | exact Below.refl _ _ | refine bset ?_ (Nat.le_refl _) _ | refine balloc ?_ _ | refine bdrew ?_ | refine bdrewN ?_ _))); done)
  by_cases h2 : 31 < a
  · clear h
    go_enter Try.func88, Try.ntmps88
    go_wp2_with (go_at_call 114; refine (rof_any _ _).mono ?_; rintro e w' ⟨rfl, hb⟩; obtain ⟨hc, hf⟩ := bcell hb; have hz := bsize hb)
    go_ret
    refine ⟨rfl, ?_⟩
    have hB := below_old hb
    ((with_reducible (repeat (first | assumption | exact Below.refl _ _ | refine bset ?_ (Nat.le_refl _) _ | refine balloc ?_ _ | refine bdrew ?_ | refine bdrewN ?_ _))); done)
  by_cases h3 : 31 < b
  · clear h
    go_enter Try.func88, Try.ntmps88
    go_wp2_with (go_at_call 114; refine (rof_any _ _).mono ?_; rintro e w' ⟨rfl, hb⟩; obtain ⟨hc, hf⟩ := bcell hb; have hz := bsize hb)
    go_ret
    refine ⟨rfl, ?_⟩
    have hB := below_old hb
    ((with_reducible (repeat (first | assumption | exact Below.refl _ _ | refine bset ?_ (Nat.le_refl _) _ | refine balloc ?_ _ | refine bdrew ?_ | refine bdrewN ?_ _))); done)
  by_cases h4 : n < -2147483648
  · clear h
    go_enter Try.func88, Try.ntmps88
    go_wp2_with (go_at_call 114; refine (rof_any _ _).mono ?_; rintro e w' ⟨rfl, hb⟩; obtain ⟨hc, hf⟩ := bcell hb; have hz := bsize hb)
    go_ret
    refine ⟨rfl, ?_⟩
    have hB := below_old hb
    ((with_reducible (repeat (first | assumption | exact Below.refl _ _ | refine bset ?_ (Nat.le_refl _) _ | refine balloc ?_ _ | refine bdrew ?_ | refine bdrewN ?_ _))); done)
  · have h5 : 2147483647 < n := by simp [h1, h2, h3, h4] at h; exact h
    clear h
    go_enter Try.func88, Try.ntmps88
    go_wp2_with (go_at_call 114; refine (rof_any _ _).mono ?_; rintro e w' ⟨rfl, hb⟩; obtain ⟨hc, hf⟩ := bcell hb; have hz := bsize hb)
    go_ret
    refine ⟨rfl, ?_⟩
    have hB := below_old hb
    ((with_reducible (repeat (first | assumption | exact Below.refl _ _ | refine bset ?_ (Nat.le_refl _) _ | refine balloc ?_ _ | refine bdrew ?_ | refine bdrewN ?_ _))); done)
set_option maxHeartbeats 4000000 in
set_option maxRecDepth 100000 in
theorem rcheck_good (o : Op) (w : World) (hk : isK o.k = true) (h1 : o.d ≤ 31) (h2 : o.a ≤ 31) (h3 : o.b ≤ 31) (h4 : -2147483648 ≤ o.n) (h5 : o.n ≤ 2147483647) :
    Calls Try.prog 88 #[o.val] w fun e w' => e = .returned (.int .i64 (chkE o)) ∧ Below w.heap.size w w' := by
  obtain ⟨k, d, a, b, n⟩ := o
  simp only [Op.val] at *
  have hn : fits32 n = true := by unfold fits32; rw [decide_eq_true h4, decide_eq_true h5]; rfl
  go_enter Try.func88, Try.ntmps88
  go_wp2_with (go_at_call 114; refine (rof_any _ _).mono ?_; rintro e w' ⟨rfl, hb⟩; obtain ⟨hc, hf⟩ := bcell hb; have hz := bsize hb)
  all_goals go_ret
  all_goals refine ⟨ret_int ?_, ?_⟩
  all_goals first | (show Below _ _ _; have hB := below_old hb; ((with_reducible (repeat (first | assumption | exact Below.refl _ _ | refine bset ?_ (Nat.le_refl _) _ | refine balloc ?_ _ | refine bdrew ?_ | refine bdrewN ?_ _))); done)) | (clear hb hc hf; simp_all [chkE, chk])
/-- hayloftref03.Check. -/
theorem rcheck_any (o : Op) (w : World) :
    Calls Try.prog 88 #[o.val] w fun e w' => e = .returned (.int .i64 (chkE o)) ∧ Below w.heap.size w w' := by
  by_cases h : isK o.k = false ∨ 31 < o.d ∨ 31 < o.a ∨ 31 < o.b ∨ o.n < -2147483648 ∨ 2147483647 < o.n
  · have e : chkE o = 30 := by
      unfold chkE chk fits32
      rw [if_neg]
      simp
      intro a1 a2 a3 a4 a5 a6
      rw [a1] at h
      simp at h
      omega
    rw [e]
    exact rcheck_bad o w h
  · simp only [not_or, Bool.not_eq_false, Int.not_lt] at h
    exact rcheck_good o w h.1 h.2.1 h.2.2.1 h.2.2.2.1 h.2.2.2.2.1 h.2.2.2.2.2
set_option maxHeartbeats 4000000 in
set_option maxRecDepth 100000 in
theorem rwrites_any (o : Op) (w : World) :
    Calls Try.prog 104 #[o.val] w fun e w' => e = .returned (.tuple #[.int .u8 (wrN o), .bool (wrB o)]) ∧ Below w.heap.size w w' := by
  have hck := fun w => rcheck_any o w
  obtain ⟨k, d, a, b, n⟩ := o
  simp only [Op.val] at *
  cases hk : chk ⟨k, d, a, b, n⟩
  · have e1 : wrB ⟨k, d, a, b, n⟩ = false := by unfold wrB; rw [hk, Bool.and_false]
    have e2 : wrN ⟨k, d, a, b, n⟩ = 0 := by unfold wrN; rw [e1]; rfl
    have e3 : chkE ⟨k, d, a, b, n⟩ = 30 := by unfold chkE; rw [hk]; rfl
    rw [e1, e2]
    rw [e3] at hck
    have HC := hid hck
    clear e1 e2 e3 hck hk
    go_enter Try.func104, Try.ntmps104
    go_wp2_with (first | (go_at_call 114; refine (rof_any _ _).mono ?_; rintro e w' ⟨rfl, hb⟩; obtain ⟨hc, hf⟩ := bcell hb; have hz := bsize hb) | (go_at_call 88; refine (HC.out _).mono ?_; rintro e w' ⟨rfl, hb2⟩; obtain ⟨hc2, hf2⟩ := bcell hb2; have hz2 := bsize hb2))
    go_ret2
    refine ⟨rfl, ?_⟩
    have hB := below_old hb
    have hB := below_step hB hb2
    ((with_reducible (repeat (first | assumption | exact Below.refl _ _ | refine bset ?_ (Nat.le_refl _) _ | refine balloc ?_ _ | refine bdrew ?_ | refine bdrewN ?_ _))); done)
  cases hd : (shp k).d
  · have e1 : wrB ⟨k, d, a, b, n⟩ = false := by unfold wrB; rw [hd]; rfl
    have e2 : wrN ⟨k, d, a, b, n⟩ = 0 := by unfold wrN; rw [e1]; rfl
    have e3 : chkE ⟨k, d, a, b, n⟩ = 0 := by unfold chkE; rw [hk]; rfl
    rw [e1, e2]
    rw [e3] at hck
    have HC := hid hck
    clear e1 e2 e3 hck hk
    go_enter Try.func104, Try.ntmps104
    go_wp2_with (first | (go_at_call 114; refine (rof_any _ _).mono ?_; rintro e w' ⟨rfl, hb⟩; obtain ⟨hc, hf⟩ := bcell hb; have hz := bsize hb) | (go_at_call 88; refine (HC.out _).mono ?_; rintro e w' ⟨rfl, hb2⟩; obtain ⟨hc2, hf2⟩ := bcell hb2; have hz2 := bsize hb2))
    go_ret2
    refine ⟨rfl, ?_⟩
    have hB := below_old hb
    have hB := below_step hB hb2
    ((with_reducible (repeat (first | assumption | exact Below.refl _ _ | refine bset ?_ (Nat.le_refl _) _ | refine balloc ?_ _ | refine bdrew ?_ | refine bdrewN ?_ _))); done)
  · have e1 : wrB ⟨k, d, a, b, n⟩ = true := by unfold wrB; rw [hd, hk]; rfl
    have e2 : wrN ⟨k, d, a, b, n⟩ = d := by unfold wrN; rw [e1]; rfl
    have e3 : chkE ⟨k, d, a, b, n⟩ = 0 := by unfold chkE; rw [hk]; rfl
    rw [e1, e2]
    rw [e3] at hck
    have HC := hid hck
    clear e1 e2 e3 hck hk
    go_enter Try.func104, Try.ntmps104
    go_wp2_with (first | (go_at_call 114; refine (rof_any _ _).mono ?_; rintro e w' ⟨rfl, hb⟩; obtain ⟨hc, hf⟩ := bcell hb; have hz := bsize hb) | (go_at_call 88; refine (HC.out _).mono ?_; rintro e w' ⟨rfl, hb2⟩; obtain ⟨hc2, hf2⟩ := bcell hb2; have hz2 := bsize hb2))
    go_ret2
    refine ⟨rfl, ?_⟩
    have hB := below_old hb
    have hB := below_step hB hb2
    ((with_reducible (repeat (first | assumption | exact Below.refl _ _ | refine bset ?_ (Nat.le_refl _) _ | refine balloc ?_ _ | refine bdrew ?_ | refine bdrewN ?_ _))); done)
end
end Go.Proofs.Ytcibkoodnfkogaa
