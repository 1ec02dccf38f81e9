/- The contract of ops.Reckon. -/
import Derived.Test.YtpiagggnjppkhaaChk
import Derived.Laws.BitsLemmas
namespace Go.Proofs.Ytpiagggnjppkhaa
open Go.RowKit
set_option linter.unusedVariables false
set_option linter.unusedSimpArgs false
/-- What an operation makes of two numbers; its error. -/
def rckN (k a b : Int) : Int :=
  if k = 2 then wrap64 (a + b) else if k = 3 then wrap64 (a - b) else if k = 4 then Go.bits .and .i64 a b else if k = 5 then Go.bits .or .i64 a b
  else if k = 6 then Go.bits .xor .i64 a b else if k = 7 then wrap64 (IntKind.u64.wrap (IntKind.u64.wrap a * 2 ^ (b % 64).toNat)) else if k = 8 then a / 2 ^ (b % 64).toNat
  else if k = 9 then (if a < b then 1 else 0) else if k = 10 then (if a = b then 1 else 0) else if k = 11 then a else if k = 12 then wrap64 (a * b)
  else if k = 13 then (if b = 0 then 0 else wrap64 (a.tdiv b)) else if k = 14 then (if b = 0 then 0 else a.tmod b) else 0
def rckE (k b : Int) : Int := if 2 ≤ k ∧ k ≤ 12 then 0 else if k = 13 ∨ k = 14 then (if b = 0 then 101 else 0) else 2
theorem ret_pair {i j : IntKind} {a b c d : Int} (h : a = c) (k : b = d) : Ending.returned (.tuple #[.int i a, .int j b]) = .returned (.tuple #[.int i c, .int j d]) := by rw [h, k]
theorem and63 (b : Int) : bits .and .u64 (IntKind.u64.wrap b) 63 = b % 64 := by
  have h := Go.bits_mask .u64 64 (Nat.le_refl _) (fun n h0 h1 => by rw [wrap_u64]; omega) 6 (by decide) (IntKind.u64.wrap b) (by rw [wrap_u64]; omega) (by rw [wrap_u64]; omega)
  have h2 : ((2 : Int) ^ 6 - 1) = 63 := rfl
  have h3 : ((2 : Int) ^ 6) = 64 := rfl
  rw [h2, h3, wrap_u64] at h
  rw [wrap_u64, h]
  omega
set_option maxHeartbeats 4000000 in
set_option maxRecDepth 100000 in
theorem reckon_1 (k a b : Int) (w : World) (h : k = 2 ∨ k = 3 ∨ k = 4 ∨ k = 5 ∨ k = 6 ∨ k = 11 ∨ k = 12) :
    Calls Try.prog 41 #[.int .i8 k, .int .i64 a, .int .i64 b] w fun e w' => e = .returned (.tuple #[.int .i64 (rckN k a b), .int .i64 (rckE k b)]) ∧ w = w' := by
  rcases h with rfl | rfl | rfl | rfl | rfl | rfl | rfl
  all_goals
    go_enter Try.func41, Try.ntmps41
    go_wp2
    all_goals go_ret2
    exact ⟨rfl, rfl⟩
set_option maxHeartbeats 4000000 in
set_option maxRecDepth 100000 in
theorem reckon_2 (k a b : Int) (w : World) (h : k = 7 ∨ k = 8) :
    Calls Try.prog 41 #[.int .i8 k, .int .i64 a, .int .i64 b] w fun e w' => e = .returned (.tuple #[.int .i64 (rckN k a b), .int .i64 (rckE k b)]) ∧ w = w' := by
  have hs := and63 b
  have hs2 : b % 64 % 256 = b % 64 := by omega
  have hs3 : 0 ≤ b % 64 := by omega
  have hs4 : b % 64 ≤ 64 := by omega
  rcases h with rfl | rfl
  all_goals
    go_enter Try.func41, Try.ntmps41
    go_wp2
    all_goals go_ret2
    exact ⟨rfl, rfl⟩
set_option maxHeartbeats 4000000 in
set_option maxRecDepth 100000 in
theorem reckon_3 (k a b : Int) (w : World) (h : k = 9 ∨ k = 10) :
    Calls Try.prog 41 #[.int .i8 k, .int .i64 a, .int .i64 b] w fun e w' => e = .returned (.tuple #[.int .i64 (rckN k a b), .int .i64 (rckE k b)]) ∧ w = w' := by
  rcases h with rfl | rfl
  · by_cases h : a < b
    all_goals
      have e : rckN 9 a b = if a < b then 1 else 0 := rfl
      simp only [h, if_true, if_false] at e
      rw [e]
      clear e
      go_enter Try.func41, Try.ntmps41
      go_wp2
      all_goals go_ret2
      exact ⟨rfl, rfl⟩
  · cases h : (a == b)
    · have e : rckN 10 a b = 0 := by show (if a = b then (1 : Int) else 0) = 0; rw [if_neg (by simpa using h)]
      rw [e]
      clear e
      go_enter Try.func41, Try.ntmps41
      go_wp2
      all_goals go_ret2
      exact ⟨rfl, rfl⟩
    · have e : rckN 10 a b = 1 := by show (if a = b then (1 : Int) else 0) = 1; rw [if_pos (by simpa using h)]
      rw [e]
      clear e
      go_enter Try.func41, Try.ntmps41
      go_wp2
      all_goals go_ret2
      exact ⟨rfl, rfl⟩
set_option maxHeartbeats 4000000 in
set_option maxRecDepth 100000 in
theorem reckon_4 (k a b : Int) (w : World) (h : k = 13 ∨ k = 14) (hb0 : -9223372036854775808 ≤ b) (hb1 : b ≤ 9223372036854775807) :
    Calls Try.prog 41 #[.int .i8 k, .int .i64 a, .int .i64 b] w fun e w' => e = .returned (.tuple #[.int .i64 (rckN k a b), .int .i64 (rckE k b)]) ∧ w = w' := by
  by_cases hz : b = 0
  · subst hz
    clear hb0 hb1
    rcases h with rfl | rfl
    all_goals
      go_enter Try.func41, Try.ntmps41
      go_wp2
      all_goals go_ret2
      exact ⟨rfl, rfl⟩
  · have hz' : (b == 0) = false := by simpa using hz
    rcases h with rfl | rfl
    · have e1 : rckN 13 a b = wrap64 (a.tdiv b) := by show (if b = 0 then 0 else wrap64 (a.tdiv b)) = _; rw [if_neg hz]
      have e2 : rckE 13 b = 0 := by show (if b = 0 then (101 : Int) else 0) = _; rw [if_neg hz]
      rw [e1, e2]
      clear e1 e2
      go_enter Try.func41, Try.ntmps41
      go_wp2
      all_goals go_ret2
      exact ⟨rfl, rfl⟩
    · have e1 : rckN 14 a b = a.tmod b := by show (if b = 0 then 0 else a.tmod b) = _; rw [if_neg hz]
      have e2 : rckE 14 b = 0 := by show (if b = 0 then (101 : Int) else 0) = _; rw [if_neg hz]
      rw [e1, e2]
      clear e1 e2
      go_enter Try.func41, Try.ntmps41
      go_wp2
      all_goals go_ret2
      exact ⟨rfl, rfl⟩
theorem ne_beq {a b : Int} (h : ¬ a = b) : (a == b) = false := by simpa using h
set_option maxHeartbeats 4000000 in
set_option maxRecDepth 100000 in
theorem reckon_5 (k a b : Int) (w : World) (h : ¬ (2 ≤ k ∧ k ≤ 14)) :
    Calls Try.prog 41 #[.int .i8 k, .int .i64 a, .int .i64 b] w fun e w' => e = .returned (.tuple #[.int .i64 (rckN k a b), .int .i64 (rckE k b)]) ∧ w = w' := by
  have e1 : rckN k a b = 0 := by
    unfold rckN
    repeat rw [if_neg (by omega)]
  have e2 : rckE k b = 2 := by
    unfold rckE
    repeat rw [if_neg (by omega)]
  rw [e1, e2]
  have h2 := ne_beq (show ¬ k = 2 by omega)
  have h3 := ne_beq (show ¬ k = 3 by omega)
  have h4 := ne_beq (show ¬ k = 4 by omega)
  have h5 := ne_beq (show ¬ k = 5 by omega)
  have h6 := ne_beq (show ¬ k = 6 by omega)
  have h7 := ne_beq (show ¬ k = 7 by omega)
  have h8 := ne_beq (show ¬ k = 8 by omega)
  have h9 := ne_beq (show ¬ k = 9 by omega)
  have h10 := ne_beq (show ¬ k = 10 by omega)
  have h11 := ne_beq (show ¬ k = 11 by omega)
  have h12 := ne_beq (show ¬ k = 12 by omega)
  have h13 := ne_beq (show ¬ k = 13 by omega)
  have h14 := ne_beq (show ¬ k = 14 by omega)
  clear e1 e2 h
  go_enter Try.func41, Try.ntmps41
  go_wp2
  all_goals go_ret2
  exact ⟨rfl, rfl⟩
/-- ops.Reckon. -/
theorem reckon_any (k a b : Int) (w : World) (hb0 : -9223372036854775808 ≤ b) (hb1 : b ≤ 9223372036854775807) :
    Calls Try.prog 41 #[.int .i8 k, .int .i64 a, .int .i64 b] w fun e w' => e = .returned (.tuple #[.int .i64 (rckN k a b), .int .i64 (rckE k b)]) ∧ w = w' := by
  by_cases h : 2 ≤ k ∧ k ≤ 14
  · by_cases h1 : k = 2 ∨ k = 3 ∨ k = 4 ∨ k = 5 ∨ k = 6 ∨ k = 11 ∨ k = 12
    · exact reckon_1 k a b w h1
    by_cases h2 : k = 7 ∨ k = 8
    · exact reckon_2 k a b w h2
    by_cases h3 : k = 9 ∨ k = 10
    · exact reckon_3 k a b w h3
    exact reckon_4 k a b w (by omega) hb0 hb1
  · exact reckon_5 k a b w h
end Go.Proofs.Ytpiagggnjppkhaa
