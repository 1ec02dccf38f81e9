/- Plain laws on fields of 64-bit words: what putting, reading and sign-extending a field does, bit by bit. -/
import Derived.Test.YtmjofhlgbecccaaWMore
import Derived.Laws.BitsLemmas
namespace Go.Proofs.Ytmjofhlgbecccaa.BMath
open Go.RowKit Go.Proofs.YtmjofhlgbecccaaW.PrintWords Go.Proofs.YtmjofhlgbecccaaW.PrintMore

/-- a without the bits of b, in 64 bits. -/
def andn (a b : Nat) : Nat := (BitVec.ofNat 64 a &&& ~~~BitVec.ofNat 64 b).toNat

theorem wrap_u64 (n : Int) : IntKind.u64.wrap n = n % 18446744073709551616 := by simp [IntKind.wrap, IntKind.bits, IntKind.signed]
theorem wraps_u64 (n : Int) (h₀ : 0 ≤ n) (h₁ : n < 2 ^ 64) : IntKind.u64.wrap n = n := by rw [wrap_u64]; omega

theorem and_nat (a b : Nat) (ha : a < 2 ^ 64) (hb : b < 2 ^ 64) : Go.bits .and .u64 a b = ((a &&& b : Nat) : Int) :=
  (bits_nat .u64 64 (Nat.le_refl _) wraps_u64 a b ha hb).1
theorem or_nat (a b : Nat) (ha : a < 2 ^ 64) (hb : b < 2 ^ 64) : Go.bits .or .u64 a b = ((a ||| b : Nat) : Int) :=
  (bits_nat .u64 64 (Nat.le_refl _) wraps_u64 a b ha hb).2
theorem andn_lt (a b : Nat) : andn a b < 2 ^ 64 := (BitVec.ofNat 64 a &&& ~~~BitVec.ofNat 64 b).isLt
theorem andn_nat (a b : Nat) : Go.bits .andNot .u64 a b = ((andn a b : Nat) : Int) := by
  simp only [Go.bits, BitVec.ofInt_natCast]
  exact wraps_u64 _ (Int.natCast_nonneg _) (by have := andn_lt a b; exact_mod_cast this)
theorem andn_bit (a b i : Nat) : (andn a b).testBit i = (decide (i < 64) && a.testBit i && !b.testBit i) := by
  unfold andn
  rw [BitVec.testBit_toNat, BitVec.getLsbD_and, BitVec.getLsbD_not, BitVec.getLsbD_ofNat, BitVec.getLsbD_ofNat]
  by_cases h : i < 64
  · rw [decide_eq_true h, Bool.true_and, Bool.true_and, Bool.true_and]
  · rw [decide_eq_false h, Bool.false_and, Bool.false_and, Bool.false_and]

theorem shl_nat (x s : Nat) (hs : s ≤ 64) : shl .u64 (x : Int) (s : Int) = (((x <<< s) % 2 ^ 64 : Nat) : Int) := by
  unfold shl
  rw [wrap_u64, Int.toNat_natCast, Nat.min_eq_left (by simpa [IntKind.bits] using hs), Nat.shiftLeft_eq, Int.natCast_emod, Int.natCast_mul, Int.natCast_pow]
  rfl
theorem shr_nat (x s : Nat) (hs : s ≤ 64) : shr .u64 (x : Int) (s : Int) = ((x >>> s : Nat) : Int) := by
  unfold shr
  rw [Int.toNat_natCast, Nat.min_eq_left (by simpa [IntKind.bits] using hs), Nat.shiftRight_eq_div_pow, Int.natCast_ediv, Int.natCast_pow]
  rfl

/-- The lowest n bits. -/
def low (n : Nat) : Nat := 2 ^ n - 1
theorem low_bit (n i : Nat) : (low n).testBit i = decide (i < n) := by simp [low]
theorem low_lt (n : Nat) (h : n ≤ 64) : low n < 2 ^ 64 := by
  have := Nat.pow_le_pow_right (n := 2) (by decide) h
  have := Nat.two_pow_pos n
  unfold low; omega
theorem top_shift (n : Nat) (h : n ≤ 64) : (18446744073709551615 >>> (64 - n) : Nat) = low n := by
  apply Nat.eq_of_testBit_eq
  intro i
  rw [Nat.testBit_shiftRight, low_bit, show (18446744073709551615 : Nat) = 2 ^ 64 - 1 from rfl, Nat.testBit_two_pow_sub_one]
  congr 1
  exact propext (by omega)

/-- Putting x into the field of n bits at place at of w. -/
def put (w at_ n x : Nat) : Nat := andn w ((low n <<< at_) % 2 ^ 64) ||| (((x &&& low n) <<< at_) % 2 ^ 64)
def get (w at_ n : Nat) : Nat := (w >>> at_) &&& low n
theorem put_lt (w at_ n x : Nat) : put w at_ n x < 2 ^ 64 := Nat.or_lt_two_pow (andn_lt _ _) (Nat.mod_lt _ (by decide))
theorem get_lt (w at_ n : Nat) (h : n ≤ 64) : get w at_ n < 2 ^ 64 := Nat.and_lt_two_pow _ (low_lt n h)
theorem get_small (w at_ n : Nat) : get w at_ n < 2 ^ n := by
  refine Nat.and_lt_two_pow _ ?_
  have := Nat.two_pow_pos n
  unfold low; omega
theorem lt_bit {w i : Nat} (h : w < 2 ^ 64) (hi : w.testBit i = true) : i < 64 := by
  by_cases h' : i < 64
  · exact h'
  · rw [Nat.testBit_lt_two_pow (Nat.lt_of_lt_of_le h (Nat.pow_le_pow_right (by decide) (by omega)))] at hi
    cases hi
theorem put_bit (w at_ n x i : Nat) (hw : w < 2 ^ 64) (hf : at_ + n ≤ 64) : (put w at_ n x).testBit i = if at_ ≤ i ∧ i < at_ + n then x.testBit (i - at_) else w.testBit i := by
  unfold put
  rw [Nat.testBit_or, andn_bit, Nat.testBit_mod_two_pow, Nat.testBit_mod_two_pow, Nat.testBit_shiftLeft, Nat.testBit_shiftLeft, low_bit, Nat.testBit_and, low_bit]
  have hb := @lt_bit w i hw
  by_cases h1 : at_ ≤ i
  · by_cases h2 : i < at_ + n
    · have h3 : i < 64 := by omega
      have h4 : i - at_ < n := by omega
      simp [h1, h2, h3, h4]
    · have h4 : ¬ i - at_ < n := by omega
      simp [h1, h2, h4]
      exact hb
  · simp [h1]
    exact hb
theorem get_bit (w at_ n i : Nat) : (get w at_ n).testBit i = (decide (i < n) && w.testBit (at_ + i)) := by
  unfold get
  rw [Nat.testBit_and, Nat.testBit_shiftRight, low_bit, Bool.and_comm]
theorem get_put (w at_ n x : Nat) (hw : w < 2 ^ 64) (hf : at_ + n ≤ 64) : get (put w at_ n x) at_ n = x &&& low n := by
  apply Nat.eq_of_testBit_eq
  intro i
  rw [get_bit, put_bit _ _ _ _ _ hw hf, Nat.testBit_and, low_bit]
  by_cases h : i < n
  · simp [h]
  · simp [h]
theorem get_put_far (w at_ n x tt k : Nat) (hw : w < 2 ^ 64) (hf : at_ + n ≤ 64) (ha : at_ + n ≤ tt ∨ tt + k ≤ at_) : get (put w at_ n x) tt k = get w tt k := by
  apply Nat.eq_of_testBit_eq
  intro i
  rw [get_bit, get_bit, put_bit _ _ _ _ _ hw hf]
  by_cases h : i < k
  · rw [if_neg (by omega)]
  · simp [h]
theorem put_swap (w at_ n x tt k y : Nat) (hw : w < 2 ^ 64) (hf : at_ + n ≤ 64) (hg : tt + k ≤ 64) (ha : at_ + n ≤ tt ∨ tt + k ≤ at_) : put (put w at_ n x) tt k y = put (put w tt k y) at_ n x := by
  apply Nat.eq_of_testBit_eq
  intro i
  rw [put_bit _ _ _ _ _ (put_lt _ _ _ _) hg, put_bit _ _ _ _ _ hw hf, put_bit _ _ _ _ _ (put_lt _ _ _ _) hf, put_bit _ _ _ _ _ hw hg]
  by_cases h1 : tt ≤ i ∧ i < tt + k
  · rw [if_pos h1, if_neg (by omega), if_pos h1]
  · rw [if_neg h1]
    by_cases h2 : at_ ≤ i ∧ i < at_ + n
    · rw [if_pos h2, if_pos h2]
    · rw [if_neg h2, if_neg h2, if_neg h1]
end Go.Proofs.Ytmjofhlgbecccaa.BMath
