/- What is put into a field is read out of it, and fields beside it do not notice: for every word, place, width and value; no condition. -/
import Derived.Test.YtmjofhlgbecccaaPBitsBackx2
import Derived.Test.YtmjofhlgbecccaaBMath
namespace Go.Proofs.Ytmjofhlgbecccaa.Pure
open Go.RowKit Go.Proofs.Ytmjofhlgbecccaa.PBitsBack Go.Proofs.YtmjofhlgbecccaaW.PrintWords Go.Proofs.YtmjofhlgbecccaaW.PrintLast Go.Proofs.Ytmjofhlgbecccaa.BMath

theorem one_val (a1 a2 : Int) : bits_one.f a1 a2 = some (decide (1 ≤ a2 ∧ a2 ≤ 64 ∧ 0 ≤ a1 ∧ a1 ≤ 64 - a2)) := by
  unfold bits_one.f
  by_cases h1 : a2 ≥ 1
  · rw [if_pos h1]
    by_cases h2 : a2 ≤ 64
    · rw [if_pos h2]
      have hw : wrap64 (64 - a2) = 64 - a2 := by unfold wrap64; omega
      by_cases h3 : a1 ≥ 0
      · rw [if_pos h3, hw]
        congr 1
        exact decide_eq_decide.2 (by omega)
      · rw [if_neg h3, decide_eq_false (by omega)]
    · rw [if_neg h2, decide_eq_false (by omega)]
  · rw [if_neg h1, decide_eq_false (by omega)]
theorem mask_val (n : Nat) (h1 : 1 ≤ n) (h2 : n ≤ 64) : bits_mask.f n = some (low n : Int) := by
  unfold bits_mask.f
  have hw : wrap64 (64 - (n : Int)) = ((64 - n : Nat) : Int) := by unfold wrap64; omega
  have hu : IntKind.u64.wrap ((64 - n : Nat) : Int) = ((64 - n : Nat) : Int) := by rw [wrap_u64]; omega
  rw [hw, hu, if_pos (Int.natCast_nonneg _), ← top_shift n h2]
  exact congrArg some (shr_nat 18446744073709551615 (64 - n) (by omega))
theorem put_val (w a n x : Nat) (hx : x < 2 ^ 64) (h1 : 1 ≤ n) (hf : a + n ≤ 64) : bits_Put.f w a n x = some ((put w a n x : Nat) : Int) := by
  unfold bits_Put.f
  have hu : IntKind.u64.wrap (a : Int) = (a : Int) := by rw [wrap_u64]; omega
  rw [one_val, decide_eq_true (by omega), mask_val n h1 (by omega), hu]
  simp only [Option.bind_some, if_true]
  rw [if_pos (Int.natCast_nonneg _), shl_nat _ _ (by omega), and_nat _ _ hx (low_lt n (by omega)), shl_nat _ _ (by omega), andn_nat, or_nat _ _ (andn_lt _ _) (Nat.mod_lt _ (by decide))]
  rfl
theorem put_not (a0 a1 a2 a3 : Int) (h : ¬ (1 ≤ a2 ∧ a2 ≤ 64 ∧ 0 ≤ a1 ∧ a1 ≤ 64 - a2)) : bits_Put.f a0 a1 a2 a3 = some a0 := by
  unfold bits_Put.f
  rw [one_val, decide_eq_false h]
  rfl
theorem get_val (w a n : Nat) (hw : w < 2 ^ 64) (h1 : 1 ≤ n) (hf : a + n ≤ 64) : bits_Get.f w a n = some ((get w a n : Nat) : Int) := by
  unfold bits_Get.f
  have hu : IntKind.u64.wrap (a : Int) = (a : Int) := by rw [wrap_u64]; omega
  have hs : w >>> a < 2 ^ 64 := by rw [Nat.shiftRight_eq_div_pow]; exact Nat.lt_of_le_of_lt (Nat.div_le_self _ _) hw
  rw [one_val, decide_eq_true (by omega), mask_val n h1 (by omega), hu]
  simp only [Option.bind_some, if_true]
  rw [if_pos (Int.natCast_nonneg _), shr_nat _ _ (by omega), and_nat _ _ hs (low_lt n (by omega))]
  rfl
theorem get_not (a0 a1 a2 : Int) (h : ¬ (1 ≤ a2 ∧ a2 ≤ 64 ∧ 0 ≤ a1 ∧ a1 ≤ 64 - a2)) : bits_Get.f a0 a1 a2 = some 0 := by
  unfold bits_Get.f
  rw [one_val, decide_eq_false h]
  rfl
theorem wakes_val : hayloftlaw01_wakes.f = some true := by decide +kernel
theorem u64_nat {x : Int} (h : (Lit.int .u64 x).wf = true) : ∃ n : Nat, x = n ∧ n < 2 ^ 64 := by
  simp only [Lit.wf, IntKind.min, IntKind.max, IntKind.bits, IntKind.signed, Bool.and_eq_true] at h
  refine ⟨x.toNat, ?_, ?_⟩ <;> simp at h <;> omega
theorem i64_bd {x : Int} (h : (Lit.int .i64 x).wf = true) : -9223372036854775808 ≤ x ∧ x ≤ 9223372036854775807 := by
  simp only [Lit.wf, IntKind.min, IntKind.max, IntKind.bits, IntKind.signed, Bool.and_eq_true] at h
  simp at h
  omega
theorem pow_wrap (n : Nat) (h : n < 64) : IntKind.u64.wrap (shl .u64 1 (n : Int) - 1) = (low n : Int) := by
  have h1 := shl_nat 1 n (by omega)
  have hp : (1 <<< n : Nat) = 2 ^ n := by rw [Nat.shiftLeft_eq, Nat.one_mul]
  have hlt : 2 ^ n < 2 ^ 64 := Nat.pow_lt_pow_right (by decide) h
  have h2 := Nat.two_pow_pos n
  rw [hp, Nat.mod_eq_of_lt hlt] at h1
  rw [show (1 : Int) = ((1 : Nat) : Int) from rfl, h1, wrap_u64]
  unfold low
  omega
theorem j2_val (k : Nat) (w a n x tt m y : Nat) (hw : w < 2 ^ 64) (hx : x < 2 ^ 64) (hy : y < 2 ^ 64) (h1 : 1 ≤ n) (hf : a + n ≤ 64) (g1 : 1 ≤ m) (hg : tt + m ≤ 64) (ha : a + n ≤ tt ∨ tt + m ≤ a) :
    hayloftlaw01_BitsBack.j2 (k + 1) w a n x tt m y (put w a n x : Nat) false = some true := by
  simp only [hayloftlaw01_BitsBack.j2, Bool.false_eq_true, if_false]
  rw [put_val _ tt m y hy g1 hg, get_val _ tt m (put_lt _ _ _ _) g1 hg, get_val w tt m hw g1 hg]
  simp only [Option.bind_some]
  rw [get_put_far w a n x tt m hw hf ha, if_pos rfl, get_val _ a n (put_lt _ _ _ _) h1 hf, get_val _ a n (put_lt _ _ _ _) h1 hf]
  simp only [Option.bind_some]
  rw [get_put_far (put w a n x) tt m y a n (put_lt _ _ _ _) hg (by omega), if_pos rfl, put_val w tt m y hy g1 hg]
  simp only [Option.bind_some]
  rw [put_val _ a n x hx h1 hf]
  simp only [Option.bind_some]
  rw [put_swap w a n x tt m y hw hf hg ha, if_pos rfl, wakes_val]
  rfl
theorem j2_true (k : Nat) (x0 x1 x2 x3 x4 x5 x6 x15 : Int) : hayloftlaw01_BitsBack.j2 (k + 1) x0 x1 x2 x3 x4 x5 x6 x15 true = some true := by
  simp only [hayloftlaw01_BitsBack.j2, if_true]
  rw [wakes_val]
  rfl
theorem j1_val (k : Nat) (w a n x : Nat) (tt m : Int) (y : Nat) (hw : w < 2 ^ 64) (hx : x < 2 ^ 64) (hy : y < 2 ^ 64) (h1 : 1 ≤ n) (hf : a + n ≤ 64) :
    hayloftlaw01_BitsBack.j1 (k + 2) w a n x tt m y (put w a n x : Nat) false = some true := by
  simp only [hayloftlaw01_BitsBack.j1, Bool.false_eq_true, if_false]
  by_cases c1 : m < 1
  · rw [if_pos c1, j2_true]
  rw [if_neg c1]
  by_cases c2 : m > 64
  · rw [if_pos c2, j2_true]
  rw [if_neg c2]
  by_cases c3 : tt < 0
  · rw [if_pos c3, j2_true]
  rw [if_neg c3]
  have e1 : wrap64 (64 - m) = 64 - m := by unfold wrap64; omega
  have e2 : wrap64 ((a : Int) + n) = a + n := by unfold wrap64; omega
  rw [e1, e2]
  by_cases c4 : tt > 64 - m
  · rw [if_pos c4, j2_true]
  rw [if_neg c4]
  have e3 : wrap64 (tt + m) = tt + m := by unfold wrap64; omega
  rw [e3]
  obtain ⟨t, rfl⟩ := Int.eq_ofNat_of_zero_le (show 0 ≤ tt by omega)
  obtain ⟨p, rfl⟩ := Int.eq_ofNat_of_zero_le (show 0 ≤ m by omega)
  by_cases c5 : (t : Int) < a + n
  · rw [if_pos c5]
    by_cases c6 : (a : Int) < t + p
    · rw [decide_eq_true c6, j2_true]
    · rw [decide_eq_false c6]
      exact j2_val k w a n x t p y hw hx hy h1 hf (by omega) (by omega) (by omega)
  · rw [if_neg c5]
    exact j2_val k w a n x t p y hw hx hy h1 hf (by omega) (by omega) (by omega)
theorem j0_true (k : Nat) (w : Nat) (x1 x2 x3 x4 x5 x6 : Int) : hayloftlaw01_BitsBack.j0 (k + 1) w x1 x2 x3 x4 x5 x6 w true = some true := by
  simp only [hayloftlaw01_BitsBack.j0, if_true]
  rw [wakes_val]
  rfl
theorem j0_val (k : Nat) (w a n x : Nat) (tt m : Int) (y : Nat) (hw : w < 2 ^ 64) (hx : x < 2 ^ 64) (hy : y < 2 ^ 64) (h1 : 1 ≤ n) (hf : a + n ≤ 64) :
    hayloftlaw01_BitsBack.j0 (k + 3) w a n x tt m y (put w a n x : Nat) false = some true := by
  simp only [hayloftlaw01_BitsBack.j0, Bool.false_eq_true, if_false]
  by_cases c : (n : Int) < 64
  · have hu : IntKind.u64.wrap (n : Int) = (n : Int) := by rw [wrap_u64]; omega
    rw [if_pos c, get_val _ a n (put_lt _ _ _ _) h1 hf, hu]
    simp only [Option.bind_some]
    rw [if_pos (Int.natCast_nonneg _), pow_wrap n (by omega), and_nat _ _ hx (low_lt n (by omega)), get_put w a n x hw hf, if_pos rfl, if_neg (by omega)]
    exact j1_val k w a n x tt m y hw hx hy h1 hf
  · obtain rfl : n = 64 := by omega
    obtain rfl : a = 0 := by omega
    have hp : put w 0 64 x = x := by
      apply Nat.eq_of_testBit_eq
      intro i
      rw [put_bit w 0 64 x i hw (by omega)]
      by_cases hi : i < 64
      · rw [if_pos (by omega), Nat.sub_zero]
      · have h2 : 2 ^ 64 ≤ 2 ^ i := Nat.pow_le_pow_right (by decide) (by omega)
        rw [if_neg (by omega), Nat.testBit_lt_two_pow (Nat.lt_of_lt_of_le hw h2), Nat.testBit_lt_two_pow (Nat.lt_of_lt_of_le hx h2)]
    have hj := j1_val k w 0 64 x tt m y hw hx hy h1 hf
    rw [hp] at hj
    rw [if_neg c, if_pos (by rfl), hp, bne_self_eq_false]
    exact hj
theorem BitsBack : hayloftlaw01_BitsBack.Pure := by
  intro a0 a1 a2 a3 a4 a5 a6 w0 w1 w2 w3 w4 w5 w6
  obtain ⟨w, rfl, hw⟩ := u64_nat w0
  obtain ⟨x, rfl, hx⟩ := u64_nat w3
  obtain ⟨y, rfl, hy⟩ := u64_nat w6
  have b1 := i64_bd w1
  have b2 := i64_bd w2
  refine ⟨3, ?_⟩
  unfold hayloftlaw01_BitsBack.f
  by_cases c1 : a2 < 1
  · rw [put_not _ _ _ _ (by omega)]; simp only [Option.bind_some]; rw [if_pos c1, j0_true]
  by_cases c2 : a2 > 64
  · rw [put_not _ _ _ _ (by omega)]; simp only [Option.bind_some]; rw [if_neg c1, if_pos c2, j0_true]
  by_cases c3 : a1 < 0
  · rw [put_not _ _ _ _ (by omega)]; simp only [Option.bind_some]; rw [if_neg c1, if_neg c2, if_pos c3, j0_true]
  have e1 : wrap64 (64 - a2) = 64 - a2 := by unfold wrap64; omega
  by_cases c4 : a1 > 64 - a2
  · rw [put_not _ _ _ _ (by omega)]; simp only [Option.bind_some]; rw [if_neg c1, if_neg c2, if_neg c3, e1, decide_eq_true c4, j0_true]
  obtain ⟨a, rfl⟩ := Int.eq_ofNat_of_zero_le (show 0 ≤ a1 by omega)
  obtain ⟨n, rfl⟩ := Int.eq_ofNat_of_zero_le (show 0 ≤ a2 by omega)
  rw [put_val w a n x hx (by omega) (by omega)]
  simp only [Option.bind_some]
  rw [if_neg c1, if_neg c2, if_neg c3, e1, decide_eq_false c4]
  exact j0_val 0 w a n x a4 a5 y hw hx hy (by omega) (by omega)

end Go.Proofs.Ytmjofhlgbecccaa.Pure
