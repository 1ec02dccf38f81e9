/- What an operation makes of two numbers of 64 bits is one. -/
import Derived.Test.YtpiagggnjppkhaaReck
namespace Go.Proofs.Ytpiagggnjppkhaa
open Go.RowKit
set_option linter.unusedVariables false
set_option linter.unusedSimpArgs false
theorem w64_bd (n : Int) : -9223372036854775808 ≤ wrap64 n ∧ wrap64 n ≤ 9223372036854775807 := by unfold wrap64; omega
theorem bits_and_bd (a b : Int) : -9223372036854775808 ≤ Go.bits .and .i64 a b ∧ Go.bits .and .i64 a b ≤ 9223372036854775807 := by
  simp only [Go.bits, IntKind.wrap_i64]
  omega
theorem bits_or_bd (a b : Int) : -9223372036854775808 ≤ Go.bits .or .i64 a b ∧ Go.bits .or .i64 a b ≤ 9223372036854775807 := by
  simp only [Go.bits, IntKind.wrap_i64]
  omega
theorem bits_xor_bd (a b : Int) : -9223372036854775808 ≤ Go.bits .xor .i64 a b ∧ Go.bits .xor .i64 a b ≤ 9223372036854775807 := by
  simp only [Go.bits, IntKind.wrap_i64]
  omega
theorem shr_bd (a : Int) (n : Nat) (h0 : -9223372036854775808 ≤ a) (h1 : a ≤ 9223372036854775807) : -9223372036854775808 ≤ a / 2 ^ n ∧ a / 2 ^ n ≤ 9223372036854775807 := by
  have hp : (1 : Int) ≤ 2 ^ n := by
    have : (0 : Int) < 2 ^ n := Int.pow_pos (by decide)
    omega
  generalize (2 : Int) ^ n = p at *
  constructor
  · apply Int.le_ediv_of_mul_le (by omega)
    omega
  · have : a / p < 9223372036854775808 := by
      apply Int.ediv_lt_of_lt_mul (by omega)
      omega
    omega
theorem tmod_bd (a b : Int) (hz : b ≠ 0) (h0 : -9223372036854775808 ≤ b) (h1 : b ≤ 9223372036854775807) : -9223372036854775808 ≤ a.tmod b ∧ a.tmod b ≤ 9223372036854775807 := by
  have h : (a.tmod b).natAbs = a.natAbs % b.natAbs := Int.natAbs_tmod _ _
  have h2 : a.natAbs % b.natAbs < b.natAbs := Nat.mod_lt _ (by omega)
  omega
theorem rckN_i64 (k a b : Int) (ha0 : -9223372036854775808 ≤ a) (ha1 : a ≤ 9223372036854775807) (hb0 : -9223372036854775808 ≤ b) (hb1 : b ≤ 9223372036854775807) : -9223372036854775808 ≤ rckN k a b ∧ rckN k a b ≤ 9223372036854775807 := by
  unfold rckN
  by_cases h2 : k = 2
  · rw [if_pos h2]; exact w64_bd _
  rw [if_neg h2]
  by_cases h3 : k = 3
  · rw [if_pos h3]; exact w64_bd _
  rw [if_neg h3]
  by_cases h4 : k = 4
  · rw [if_pos h4]; exact bits_and_bd _ _
  rw [if_neg h4]
  by_cases h5 : k = 5
  · rw [if_pos h5]; exact bits_or_bd _ _
  rw [if_neg h5]
  by_cases h6 : k = 6
  · rw [if_pos h6]; exact bits_xor_bd _ _
  rw [if_neg h6]
  by_cases h7 : k = 7
  · rw [if_pos h7]; exact w64_bd _
  rw [if_neg h7]
  by_cases h8 : k = 8
  · rw [if_pos h8]; exact shr_bd _ _ ha0 ha1
  rw [if_neg h8]
  by_cases h9 : k = 9
  · rw [if_pos h9]; split <;> omega
  rw [if_neg h9]
  by_cases h10 : k = 10
  · rw [if_pos h10]; split <;> omega
  rw [if_neg h10]
  by_cases h11 : k = 11
  · rw [if_pos h11]; omega
  rw [if_neg h11]
  by_cases h12 : k = 12
  · rw [if_pos h12]; exact w64_bd _
  rw [if_neg h12]
  by_cases h13 : k = 13
  · rw [if_pos h13]
    split
    · omega
    · exact w64_bd _
  rw [if_neg h13]
  by_cases h14 : k = 14
  · rw [if_pos h14]
    split
    · omega
    · exact tmod_bd _ _ (by assumption) hb0 hb1
  rw [if_neg h14]
  omega
end Go.Proofs.Ytpiagggnjppkhaa
