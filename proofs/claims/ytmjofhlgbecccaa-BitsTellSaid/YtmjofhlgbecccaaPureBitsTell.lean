/- A field is put, read and taken as a number with a sign, bit by bit as the document says: for every word, place, width and value; no condition. -/
import Derived.Test.YtmjofhlgbecccaaBTell
import Derived.Test.YtmjofhlgbecccaaBMath
namespace Go.Proofs.Ytmjofhlgbecccaa.PureT
open Go.RowKit Go.Proofs.Ytmjofhlgbecccaa.BTell Go.Proofs.YtmjofhlgbecccaaW.PrintWords Go.Proofs.YtmjofhlgbecccaaW.PrintLast Go.Proofs.Ytmjofhlgbecccaa.BMath

/-- The lowest n bits of x, as a number with a sign. -/
def sg (n : Nat) (x : Int) : Int := if x % 2 ^ n ≥ 2 ^ (n - 1) then x % 2 ^ n - 2 ^ n else x % 2 ^ n
theorem sg_alike (n : Nat) (x y : Int) (h : x % 2 ^ n = y % 2 ^ n) : sg n x = sg n y := by unfold sg; rw [h]
theorem pow_pos (n : Nat) : (0 : Int) < 2 ^ n := by exact_mod_cast Nat.two_pow_pos n
theorem pow_half (n : Nat) (h : 1 ≤ n) : (2 : Int) ^ n = 2 * 2 ^ (n - 1) := by
  obtain ⟨m, rfl⟩ : ∃ m, n = m + 1 := ⟨n - 1, by omega⟩
  rw [Int.pow_succ, Nat.add_sub_cancel]; omega
theorem sg_mod (n : Nat) (x : Int) : sg n x % 2 ^ n = x % 2 ^ n := by
  unfold sg
  split
  · rw [Int.sub_emod_right, Int.emod_emod_of_dvd _ (Int.dvd_refl _)]
  · rw [Int.emod_emod_of_dvd _ (Int.dvd_refl _)]
theorem sg_sg (n : Nat) (x : Int) : sg n (sg n x) = sg n x := sg_alike n _ _ (sg_mod n x)
theorem sg_bd (n : Nat) (x : Int) (h : 1 ≤ n) : -2 ^ (n - 1) ≤ sg n x ∧ sg n x < 2 ^ (n - 1) := by
  have h1 := pow_half n h
  have h2 := Int.emod_nonneg x (Int.ne_of_gt (pow_pos n))
  have h3 := Int.emod_lt_of_pos x (pow_pos n)
  unfold sg
  split <;> omega
theorem pow_split (n : Nat) (h : n ≤ 64) : (2 : Int) ^ n * 2 ^ (64 - n) = 18446744073709551616 := by
  rw [← Int.pow_add, Nat.add_sub_cancel' h]; rfl
/-- The program's way: shifted up, and down again. -/
theorem sg_way (n : Nat) (x : Int) (h1 : 1 ≤ n) (h2 : n ≤ 64) : wrap64 (IntKind.u64.wrap (x * 2 ^ (64 - n))) / 2 ^ (64 - n) = sg n x := by
  have hs := pow_split n h2
  have hp := pow_pos (64 - n)
  have hh := pow_half n h1
  rw [wrap_u64, ← hs, Int.mul_comm x, Int.mul_comm (2 ^ n), Int.mul_emod_mul_of_pos _ _ hp, Int.mul_comm]
  have b1 := Int.emod_nonneg x (Int.ne_of_gt (pow_pos n))
  have b2 := Int.emod_lt_of_pos x (pow_pos n)
  unfold sg
  generalize hy : x % 2 ^ n = y at b1 b2 ⊢
  generalize hq : (2 : Int) ^ n = q at hs hh b2 ⊢
  generalize hr : (2 : Int) ^ (n - 1) = r at hh ⊢
  generalize he : (2 : Int) ^ (64 - n) = p at hs hp ⊢
  have hrp : r * p = 9223372036854775808 := by
    have : 2 * (r * p) = 18446744073709551616 := by rw [← Int.mul_assoc, ← hh, hs]
    omega
  have hyp : y * p < q * p := Int.mul_lt_mul_of_pos_right b2 hp
  have hy0 : 0 ≤ y * p := Int.mul_nonneg b1 (Int.le_of_lt hp)
  by_cases c : y ≥ r
  · have hge : r * p ≤ y * p := Int.mul_le_mul_of_nonneg_right c (Int.le_of_lt hp)
    have hw : wrap64 (y * p) = (y - q) * p := by rw [Int.sub_mul]; unfold wrap64; omega
    rw [if_pos c, hw, Int.mul_ediv_cancel _ (Int.ne_of_gt hp)]
  · have hlt : y * p < r * p := Int.mul_lt_mul_of_pos_right (by omega) hp
    have hw : wrap64 (y * p) = y * p := by unfold wrap64; omega
    rw [if_neg c, hw, Int.mul_ediv_cancel _ (Int.ne_of_gt hp)]
/-- Brought into 1 to 64. -/
theorem clamp (a : Int) : ∃ n : Nat, mn (mx a 1) 64 = n ∧ 1 ≤ n ∧ n ≤ 64 := by
  have : 1 ≤ mn (mx a 1) 64 ∧ mn (mx a 1) 64 ≤ 64 := by unfold mn mx; omega
  exact ⟨(mn (mx a 1) 64).toNat, by omega, by omega, by omega⟩
theorem clamp_nat (n : Nat) (h1 : 1 ≤ n) (h2 : n ≤ 64) : mn (mx (n : Int) 1) 64 = n := by unfold mn mx; omega
theorem wrap_mod (x : Int) (n : Nat) (h : n ≤ 64) : IntKind.u64.wrap x % 2 ^ n = x % 2 ^ n := by
  rw [wrap_u64, ← pow_split n h, Int.emod_emod_of_dvd _ ⟨_, rfl⟩]
theorem one_val (a1 a2 : Int) : bits_one.f a1 a2 = some (decide (1 ≤ a2 ∧ a2 ≤ 64 ∧ 0 ≤ a1 ∧ a1 ≤ 64 - a2)) := by
  unfold bits_one.f
  by_cases h1 : a2 ≥ 1
  · rw [if_pos h1]
    by_cases h2 : a2 ≤ 64
    · rw [if_pos h2]
      have hw : wrap64 (64 - a2) = 64 - a2 := by unfold wrap64; omega
      by_cases h3 : a1 ≥ 0
      · rw [if_pos h3, hw]
        congr 1
        exact decide_eq_decide.2 (by omega)
      · rw [if_neg h3, decide_eq_false (by omega)]
    · rw [if_neg h2, decide_eq_false (by omega)]
  · rw [if_neg h1, decide_eq_false (by omega)]
theorem mask_val (n : Nat) (h1 : 1 ≤ n) (h2 : n ≤ 64) : bits_mask.f n = some (low n : Int) := by
  unfold bits_mask.f
  have hw : wrap64 (64 - (n : Int)) = ((64 - n : Nat) : Int) := by unfold wrap64; omega
  have hu : IntKind.u64.wrap ((64 - n : Nat) : Int) = ((64 - n : Nat) : Int) := by rw [wrap_u64]; omega
  rw [hw, hu, if_pos (Int.natCast_nonneg _), ← top_shift n h2]
  exact congrArg some (shr_nat 18446744073709551615 (64 - n) (by omega))
theorem put_val (w a n x : Nat) (hx : x < 2 ^ 64) (h1 : 1 ≤ n) (hf : a + n ≤ 64) : bits_Put.f w a n x = some ((put w a n x : Nat) : Int) := by
  unfold bits_Put.f
  have hu : IntKind.u64.wrap (a : Int) = (a : Int) := by rw [wrap_u64]; omega
  rw [one_val, decide_eq_true (by omega), mask_val n h1 (by omega), hu]
  simp only [Option.bind_some, if_true]
  rw [if_pos (Int.natCast_nonneg _), shl_nat _ _ (by omega), and_nat _ _ hx (low_lt n (by omega)), shl_nat _ _ (by omega), andn_nat, or_nat _ _ (andn_lt _ _) (Nat.mod_lt _ (by decide))]
  rfl
theorem put_not (a0 a1 a2 a3 : Int) (h : ¬ (1 ≤ a2 ∧ a2 ≤ 64 ∧ 0 ≤ a1 ∧ a1 ≤ 64 - a2)) : bits_Put.f a0 a1 a2 a3 = some a0 := by
  unfold bits_Put.f
  rw [one_val, decide_eq_false h]
  rfl
theorem get_val (w a n : Nat) (hw : w < 2 ^ 64) (h1 : 1 ≤ n) (hf : a + n ≤ 64) : bits_Get.f w a n = some ((get w a n : Nat) : Int) := by
  unfold bits_Get.f
  have hu : IntKind.u64.wrap (a : Int) = (a : Int) := by rw [wrap_u64]; omega
  have hs : w >>> a < 2 ^ 64 := by rw [Nat.shiftRight_eq_div_pow]; exact Nat.lt_of_le_of_lt (Nat.div_le_self _ _) hw
  rw [one_val, decide_eq_true (by omega), mask_val n h1 (by omega), hu]
  simp only [Option.bind_some, if_true]
  rw [if_pos (Int.natCast_nonneg _), shr_nat _ _ (by omega), and_nat _ _ hs (low_lt n (by omega))]
  rfl
theorem get_not (a0 a1 a2 : Int) (h : ¬ (1 ≤ a2 ∧ a2 ≤ 64 ∧ 0 ≤ a1 ∧ a1 ≤ 64 - a2)) : bits_Get.f a0 a1 a2 = some 0 := by
  unfold bits_Get.f
  rw [one_val, decide_eq_false h]
  rfl
theorem wakes_val : hayloftlaw01_wakes.f = some true := by decide +kernel
theorem u64_nat {x : Int} (h : (Lit.int .u64 x).wf = true) : ∃ n : Nat, x = n ∧ n < 2 ^ 64 := by
  simp only [Lit.wf, IntKind.min, IntKind.max, IntKind.bits, IntKind.signed, Bool.and_eq_true] at h
  refine ⟨x.toNat, ?_, ?_⟩ <;> simp at h <;> omega
theorem i64_bd {x : Int} (h : (Lit.int .i64 x).wf = true) : -9223372036854775808 ≤ x ∧ x ≤ 9223372036854775807 := by
  simp only [Lit.wf, IntKind.min, IntKind.max, IntKind.bits, IntKind.signed, Bool.and_eq_true] at h
  simp at h
  omega
/-! ### the document's own functions -/
theorem rone_val (a1 a2 : Int) : hayloftref01_one.f a1 a2 = some (decide (1 ≤ a2 ∧ a2 ≤ 64 ∧ 0 ≤ a1 ∧ a1 ≤ 64 - a2)) := one_val a1 a2
theorem bit_one (x i : Nat) (hx : x < 2 ^ 64) (hi : i ≤ 64) : (Go.bits .and .u64 (shr .u64 (x : Int) (i : Int)) 1 : Int) = (((x >>> i) % 2 : Nat) : Int) := by
  have hs : x >>> i < 2 ^ 64 := by rw [Nat.shiftRight_eq_div_pow]; exact Nat.lt_of_le_of_lt (Nat.div_le_self _ _) hx
  have h := and_nat (x >>> i) 1 hs (by decide)
  rw [Nat.and_one_is_mod] at h
  rw [shr_nat _ _ hi]
  exact h
theorem one_shl (s : Nat) (hs : s ≤ 64) : shl .u64 (1 : Int) (s : Int) = (((1 <<< s) % 2 ^ 64 : Nat) : Int) := shl_nat 1 s hs
theorem one_bit (s j : Nat) : ((1 <<< s) % 2 ^ 64).testBit j = (decide (j < 64) && decide (s = j)) := by
  rw [Nat.testBit_mod_two_pow, Nat.one_shiftLeft, Nat.testBit_two_pow]
theorem odd_bit (x i : Nat) : ((((x >>> i) % 2 : Nat) : Int) = 1) ↔ x.testBit i = true := by
  rw [Nat.testBit_eq_decide_div_mod_eq, Nat.shiftRight_eq_div_pow, decide_eq_true_iff]
  omega
theorem put_step (w a i x : Nat) (hw : w < 2 ^ 64) (hf : a + i + 1 ≤ 64) :
    put w a (i + 1) x = if x.testBit i = true then andn (put w a i x) ((1 <<< (a + i)) % 2 ^ 64) ||| ((1 <<< (a + i)) % 2 ^ 64) else andn (put w a i x) ((1 <<< (a + i)) % 2 ^ 64) := by
  apply Nat.eq_of_testBit_eq
  intro j
  have hb := @lt_bit _ j (put_lt w a i x)
  rw [put_bit _ _ _ _ _ hw (by omega)]
  rw [put_bit _ _ _ _ _ hw (by omega)] at hb
  split
  · next h =>
    split
    · next hx =>
      rw [Nat.testBit_or, andn_bit, one_bit, put_bit _ _ _ _ _ hw (by omega)]
      by_cases he : a + i = j
      · rw [decide_eq_true he, decide_eq_true (by omega), if_neg (by omega)]
        rw [show j - a = i by omega, hx]
        simp
      · rw [decide_eq_false he, if_pos (by omega), decide_eq_true (by omega)]
        simp
    · next hx =>
      rw [andn_bit, one_bit, put_bit _ _ _ _ _ hw (by omega)]
      by_cases he : a + i = j
      · rw [decide_eq_true he, decide_eq_true (show j < 64 by omega), show j - a = i by omega, Bool.eq_false_iff.2 hx]
        simp
      · rw [decide_eq_false he, if_pos (by omega), decide_eq_true (by omega)]
        simp
  · next h =>
    rw [if_neg (by omega)] at hb
    split
    · rw [Nat.testBit_or, andn_bit, one_bit, put_bit _ _ _ _ _ hw (by omega), if_neg (by omega), decide_eq_false (show ¬ a + i = j by omega)]
      by_cases hj : j < 64
      · rw [decide_eq_true hj]; simp
      · have : w.testBit j = false := Bool.eq_false_iff.2 (fun h => hj (hb h))
        rw [this, decide_eq_false hj]; rfl
    · rw [andn_bit, one_bit, put_bit _ _ _ _ _ hw (by omega), if_neg (by omega), decide_eq_false (show ¬ a + i = j by omega)]
      by_cases hj : j < 64
      · rw [decide_eq_true hj]; simp
      · have : w.testBit j = false := Bool.eq_false_iff.2 (fun h => hj (hb h))
        rw [this, decide_eq_false hj]; rfl
theorem rput_loop (w a n x : Nat) (hw : w < 2 ^ 64) (hx : x < 2 ^ 64) (hf : a + n ≤ 64) (d : Nat) : ∀ (k i : Nat), i + d = n → d < k → hayloftref01_Put.l0 k (put w a i x : Nat) a n x i = some ((put w a n x : Nat) : Int) := by
  induction d with
  | zero =>
    intro k i hi hk
    obtain ⟨k, rfl⟩ : ∃ m, k = m + 1 := ⟨k - 1, by omega⟩
    obtain rfl : i = n := by omega
    simp only [hayloftref01_Put.l0]
    rw [if_neg (by omega)]
  | succ d ih =>
    intro k i hi hk
    obtain ⟨k, rfl⟩ : ∃ m, k = m + 1 := ⟨k - 1, by omega⟩
    have e1 : IntKind.u64.wrap (wrap64 ((a : Int) + i)) = ((a + i : Nat) : Int) := by rw [wrap_u64]; unfold wrap64; omega
    have e2 : IntKind.u64.wrap (i : Int) = (i : Int) := by rw [wrap_u64]; omega
    have e3 : wrap64 ((i : Int) + 1) = ((i + 1 : Nat) : Int) := by unfold wrap64; omega
    have hs := put_step w a i x hw (by omega)
    have hlt : (1 <<< (a + i)) % 2 ^ 64 < 2 ^ 64 := Nat.mod_lt _ (by decide)
    simp only [hayloftref01_Put.l0]
    rw [if_pos (by omega), e1, if_pos (Int.natCast_nonneg _), e2, if_pos (Int.natCast_nonneg _), e3, bit_one _ _ hx (by omega), one_shl _ (by omega), andn_nat, or_nat _ _ (andn_lt _ _) hlt]
    by_cases hb : x.testBit i = true
    · rw [if_pos ((odd_bit x i).2 hb)]
      rw [if_pos hb] at hs
      rw [← hs]
      exact ih k (i + 1) (by omega) (by omega)
    · rw [if_neg (fun h => hb ((odd_bit x i).1 h))]
      rw [if_neg hb] at hs
      rw [← hs]
      exact ih k (i + 1) (by omega) (by omega)
theorem put_zero (w a x : Nat) (hw : w < 2 ^ 64) (hf : a ≤ 64) : put w a 0 x = w := by
  apply Nat.eq_of_testBit_eq
  intro j
  rw [put_bit _ _ _ _ _ hw (by omega), if_neg (by omega)]
theorem rput_val (w a n x : Nat) (hw : w < 2 ^ 64) (hx : x < 2 ^ 64) (h1 : 1 ≤ n) (hf : a + n ≤ 64) : hayloftref01_Put.f 66 w a n x = some ((put w a n x : Nat) : Int) := by
  unfold hayloftref01_Put.f
  rw [rone_val, decide_eq_true (by omega)]
  simp only [Option.bind_some, if_true]
  have h := rput_loop w a n x hw hx hf n 66 0 (by omega) (by omega)
  rw [put_zero w a x hw (by omega)] at h
  exact h
theorem rput_not (k : Nat) (a0 a1 a2 a3 : Int) (h : ¬ (1 ≤ a2 ∧ a2 ≤ 64 ∧ 0 ≤ a1 ∧ a1 ≤ 64 - a2)) : hayloftref01_Put.f k a0 a1 a2 a3 = some a0 := by
  unfold hayloftref01_Put.f
  rw [rone_val, decide_eq_false h]
  rfl
theorem shr_succ (x d : Nat) : x >>> (d + 1) = x >>> d / 2 := by
  rw [Nat.shiftRight_eq_div_pow, Nat.shiftRight_eq_div_pow, Nat.pow_succ, Nat.div_div_eq_div_mul]
theorem pow_le {m j : Nat} (h : m ≤ j) : (2 : Int) ^ m ≤ 2 ^ j := by
  have := Nat.pow_le_pow_right (n := 2) (by decide) h
  have e : ((2 ^ m : Nat) : Int) ≤ ((2 ^ j : Nat) : Int) := Int.ofNat_le.2 this
  rw [Int.natCast_pow, Int.natCast_pow] at e
  exact e
theorem get_mod (w a n : Nat) : get w a n = (w >>> a) % 2 ^ n := by
  unfold BMath.get low
  rw [Nat.and_two_pow_sub_one_eq_mod]
theorem get_step (w a n : Nat) : get w a (n + 1) = get w (a + 1) n * 2 + (w >>> a) % 2 := by
  rw [get_mod, get_mod, Nat.pow_succ, Nat.mul_comm (2 ^ n) 2, Nat.mod_mul, shr_succ]
  omega
theorem rget_loop (w a n : Nat) (hw : w < 2 ^ 64) (hf : a + n ≤ 64) (d : Nat) : ∀ (k : Nat) (i : Int), i + 1 = d → d ≤ n → d < k → hayloftref01_Get.l0 k w a (get w (a + d) (n - d) : Nat) i = some ((get w a n : Nat) : Int) := by
  induction d with
  | zero =>
    intro k i hi _ hk
    obtain ⟨k, rfl⟩ : ∃ m, k = m + 1 := ⟨k - 1, by omega⟩
    simp only [hayloftref01_Get.l0]
    rw [if_neg (by omega)]
    rfl
  | succ d ih =>
    intro k i hi hd hk
    obtain ⟨k, rfl⟩ : ∃ m, k = m + 1 := ⟨k - 1, by omega⟩
    obtain rfl : i = (d : Int) := by omega
    have e1 : IntKind.u64.wrap (wrap64 ((a : Int) + d)) = ((a + d : Nat) : Int) := by rw [wrap_u64]; unfold wrap64; omega
    have e3 : wrap64 ((d : Int) - 1) = (d : Int) - 1 := by unfold wrap64; omega
    have hs := get_step w (a + d) (n - (d + 1))
    rw [show n - (d + 1) + 1 = n - d by omega] at hs
    have hl := get_lt w (a + d) (n - d) (by omega)
    have e4 : IntKind.u64.wrap (IntKind.u64.wrap ((get w (a + (d + 1)) (n - (d + 1)) : Nat) * 2 : Int) + (((w >>> (a + d)) % 2 : Nat) : Int)) = ((get w (a + d) (n - d) : Nat) : Int) := by
      rw [wrap_u64, wrap_u64]
      rw [show a + (d + 1) = a + d + 1 by omega]
      omega
    simp only [hayloftref01_Get.l0]
    rw [if_pos (by omega), e1, if_pos (Int.natCast_nonneg _), e3, bit_one _ _ hw (by omega), e4]
    exact ih k _ (by omega) (by omega) (by omega)
theorem rget_val (w a n : Nat) (hw : w < 2 ^ 64) (h1 : 1 ≤ n) (hf : a + n ≤ 64) : hayloftref01_Get.f 66 w a n = some ((get w a n : Nat) : Int) := by
  unfold hayloftref01_Get.f
  rw [rone_val, decide_eq_true (by omega)]
  simp only [Option.bind_some, if_true]
  have h := rget_loop w a n hw hf n 66 ((n : Int) - 1) (by omega) (by omega) (by omega)
  have e0 : get w (a + n) (n - n) = 0 := by rw [get_mod, Nat.sub_self, Nat.pow_zero, Nat.mod_one]
  have e3 : wrap64 ((n : Int) - 1) = (n : Int) - 1 := by unfold wrap64; omega
  rw [e0] at h
  rw [e3]
  exact h
theorem rget_not (k : Nat) (a0 a1 a2 : Int) (h : ¬ (1 ≤ a2 ∧ a2 ≤ 64 ∧ 0 ≤ a1 ∧ a1 ≤ 64 - a2)) : hayloftref01_Get.f k a0 a1 a2 = some 0 := by
  unfold hayloftref01_Get.f
  rw [rone_val, decide_eq_false h]
  rfl
theorem mod_split (z m : Nat) : (z : Int) % 2 ^ (m + 1) = (z : Int) % 2 + 2 * ((z : Int) / 2 % 2 ^ m) := by
  have h : z % (2 * 2 ^ m) = z % 2 + 2 * (z / 2 % 2 ^ m) := Nat.mod_mul
  have e : (((z % (2 * 2 ^ m) : Nat)) : Int) = ((z % 2 + 2 * (z / 2 % 2 ^ m) : Nat) : Int) := congrArg _ h
  rw [Int.natCast_emod, Int.natCast_mul, Int.natCast_pow, Int.natCast_add, Int.natCast_emod, Int.natCast_mul, Int.natCast_emod, Int.natCast_ediv, Int.natCast_pow] at e
  rw [Int.pow_succ, Int.mul_comm]
  exact e
theorem sg_step (m : Nat) (z : Nat) (h : 1 ≤ m) : sg (m + 1) (z : Int) = sg m ((z : Int) / 2) * 2 + (z : Int) % 2 := by
  have h1 := pow_half m h
  have h4 := mod_split z m
  have h3 : (2 : Int) ^ (m + 1) = 2 * 2 ^ m := by rw [Int.pow_succ]; omega
  unfold sg
  rw [Nat.add_sub_cancel, h4, h3]
  generalize (z : Int) / 2 % 2 ^ m = Y
  have := pow_pos m
  generalize (2 : Int) ^ m = q at *
  generalize (2 : Int) ^ (m - 1) = r at *
  split <;> split <;> omega
theorem sg_one (z : Int) : sg 1 z = -(z % 2) := by
  unfold sg
  simp only [Nat.sub_self, Int.pow_zero, Int.pow_one]
  split <;> omega
theorem wrap_step (A z q : Int) (h1 : -q ≤ A) (h2 : A < q) (hq : q ≤ 4611686018427387904) : wrap64 (wrap64 (A * 2) + wrap64 (z % 2)) = A * 2 + z % 2 := by
  unfold wrap64
  omega
theorem rsigned_loop (x n : Nat) (hx : x < 2 ^ 64) (hn : n ≤ 64) (d : Nat) : ∀ (k : Nat) (i : Int), i + 1 = d → d + 1 ≤ n → d < k → hayloftref01_Signed.l0 k x (sg (n - d) ((x >>> d : Nat) : Int)) i = some (sg n x) := by
  induction d with
  | zero =>
    intro k i hi _ hk
    obtain ⟨k, rfl⟩ : ∃ m, k = m + 1 := ⟨k - 1, by omega⟩
    simp only [hayloftref01_Signed.l0]
    rw [if_neg (by omega)]
    rfl
  | succ d ih =>
    intro k i hi hd hk
    obtain ⟨k, rfl⟩ : ∃ m, k = m + 1 := ⟨k - 1, by omega⟩
    obtain rfl : i = (d : Int) := by omega
    have e1 : IntKind.u64.wrap (d : Int) = (d : Int) := by rw [wrap_u64]; omega
    have e3 : wrap64 ((d : Int) - 1) = (d : Int) - 1 := by unfold wrap64; omega
    have hs := sg_step (n - (d + 1)) (x >>> d) (by omega)
    have hz : ((x >>> d : Nat) : Int) / 2 = ((x >>> (d + 1) : Nat) : Int) := by rw [shr_succ]; omega
    rw [show n - (d + 1) + 1 = n - d by omega, hz] at hs
    have hc := sg_bd (n - (d + 1)) ((x >>> (d + 1) : Nat) : Int) (by omega)
    have hq : (2 : Int) ^ (n - (d + 1) - 1) ≤ 4611686018427387904 := pow_le (show n - (d + 1) - 1 ≤ 62 by omega)
    have e4 : wrap64 (wrap64 (sg (n - (d + 1)) ((x >>> (d + 1) : Nat) : Int) * 2) + wrap64 ((((x >>> d) % 2 : Nat) : Int))) = sg (n - d) ((x >>> d : Nat) : Int) := by
      rw [hs, Int.natCast_emod]
      exact wrap_step _ _ _ hc.1 hc.2 hq
    simp only [hayloftref01_Signed.l0]
    rw [if_pos (by omega), e1, if_pos (Int.natCast_nonneg _), e3, bit_one _ _ hx (by omega), e4]
    exact ih k _ (by omega) (by omega) (by omega)
theorem rsigned_val (x n : Nat) (a : Int) (ha : mn (mx a 1) 64 = n) (hx : x < 2 ^ 64) (h1 : 1 ≤ n) (hn : n ≤ 64) : hayloftref01_Signed.f 66 x a = some (sg n x) := by
  unfold hayloftref01_Signed.f
  rw [ha]
  have hs : x >>> (n - 1) < 2 ^ 64 := by rw [Nat.shiftRight_eq_div_pow]; exact Nat.lt_of_le_of_lt (Nat.div_le_self _ _) hx
  have e0 : (x : Int) / 2 ^ ((n : Int) - 1).toNat = ((x >>> (n - 1) : Nat) : Int) := by
    rw [show ((n : Int) - 1).toNat = n - 1 by omega, Nat.shiftRight_eq_div_pow, Int.natCast_ediv, Int.natCast_pow]
    rfl
  have e1 : (Go.bits .and .u64 ((x >>> (n - 1) : Nat) : Int) 1 : Int) = (((x >>> (n - 1)) % 2 : Nat) : Int) := by
    have h := and_nat (x >>> (n - 1)) 1 hs (by decide)
    rw [Nat.and_one_is_mod] at h
    exact h
  have e2 : wrap64 (-wrap64 ((((x >>> (n - 1)) % 2 : Nat) : Int))) = sg (n - (n - 1)) ((x >>> (n - 1) : Nat) : Int) := by
    rw [show n - (n - 1) = 1 by omega, sg_one]
    unfold wrap64
    omega
  rw [e0, e1, e2]
  exact rsigned_loop x n hx hn (n - 1) 66 _ (by omega) (by omega) (by omega)
theorem fits_alike (x : Int) (n : Nat) (a : Int) (ha : mn (mx a 1) 64 = n) (h1 : 1 ≤ n) (hn : n ≤ 64) (hx : -9223372036854775808 ≤ x ∧ x ≤ 9223372036854775807) : hayloftref01_Fits.f x a = some (sg n x == x) := by
  rw [fits_at x a n ha]
  have hh := pow_half n h1
  have hb := sg_bd n x h1
  by_cases c : (n : Int) = 64
  · obtain rfl : n = 64 := by omega
    rw [if_pos c]
    congr 1
    symm
    rw [beq_iff_eq]
    unfold sg
    simp only [show (2 : Int) ^ 64 = 18446744073709551616 from rfl, show (2 : Int) ^ (64 - 1) = 9223372036854775808 from rfl]
    split <;> omega
  · rw [if_neg c, show ((n : Int) - 1).toNat = n - 1 by omega]
    have hp : (2 : Int) ^ (n - 1) ≤ 4611686018427387904 := by
      exact pow_le (show n - 1 ≤ 62 by omega)
    have hq := pow_pos (n - 1)
    rw [show wrap64 (2 ^ (n - 1)) = 2 ^ (n - 1) by unfold wrap64; omega]
    rw [show wrap64 (-2 ^ (n - 1)) = -2 ^ (n - 1) by unfold wrap64; omega]
    rw [show wrap64 (2 ^ (n - 1) - 1) = 2 ^ (n - 1) - 1 by unfold wrap64; omega]
    have hsg : -2 ^ (n - 1) ≤ x → x < 2 ^ (n - 1) → sg n x = x := by
      intro g1 g2
      unfold sg
      by_cases g0 : 0 ≤ x
      · rw [Int.emod_eq_of_lt g0 (by omega), if_neg (by omega)]
      · have he : x % 2 ^ n = x + 2 ^ n := by
          rw [← Int.add_emod_right, Int.emod_eq_of_lt (by omega) (by omega)]
        rw [he, if_pos (by omega)]
        omega
    by_cases c2 : -2 ^ (n - 1) ≤ x
    · rw [if_pos c2]
      congr 1
      by_cases c3 : x ≤ 2 ^ (n - 1) - 1
      · rw [decide_eq_true c3, hsg c2 (by omega), beq_self_eq_true]
      · rw [decide_eq_false c3]
        symm
        rw [beq_eq_false_iff_ne]
        omega
    · rw [if_neg c2]
      congr 1
      symm
      rw [beq_eq_false_iff_ne]
      omega
theorem signed_clamp (x : Int) (n : Nat) (a : Int) (ha : mn (mx a 1) 64 = n) (h1 : 1 ≤ n) (hn : n ≤ 64) : bits_Signed.f x a = some (sg n x) := by
  unfold bits_Signed.f
  rw [ha, show ((64 : Int) - n).toNat = 64 - n by omega, sg_way n x h1 hn]
theorem fits_clamp (x : Int) (n : Nat) (a : Int) (ha : mn (mx a 1) 64 = n) (h1 : 1 ≤ n) (hn : n ≤ 64) : bits_Fits.f x a = some (sg n x == x) := by
  unfold bits_Fits.f
  rw [signed_clamp _ n a ha h1 hn]
  simp only [Option.bind_some]
  rw [sg_alike n _ x (wrap_mod x n hn)]
theorem puts (w x : Nat) (a1 a2 : Int) (hw : w < 2 ^ 64) (hx : x < 2 ^ 64) : ∃ r, bits_Put.f w a1 a2 x = some r ∧ hayloftref01_Put.f 66 w a1 a2 x = some r := by
  by_cases h : 1 ≤ a2 ∧ a2 ≤ 64 ∧ 0 ≤ a1 ∧ a1 ≤ 64 - a2
  · obtain ⟨a, rfl⟩ := Int.eq_ofNat_of_zero_le h.2.2.1
    obtain ⟨n, rfl⟩ := Int.eq_ofNat_of_zero_le (show 0 ≤ a2 by omega)
    exact ⟨_, put_val w a n x hx (by omega) (by omega), rput_val w a n x hw hx (by omega) (by omega)⟩
  · exact ⟨_, put_not _ _ _ _ h, rput_not _ _ _ _ _ h⟩
theorem gets (w : Nat) (a1 a2 : Int) (hw : w < 2 ^ 64) : ∃ r, bits_Get.f w a1 a2 = some r ∧ hayloftref01_Get.f 66 w a1 a2 = some r := by
  by_cases h : 1 ≤ a2 ∧ a2 ≤ 64 ∧ 0 ≤ a1 ∧ a1 ≤ 64 - a2
  · obtain ⟨a, rfl⟩ := Int.eq_ofNat_of_zero_le h.2.2.1
    obtain ⟨n, rfl⟩ := Int.eq_ofNat_of_zero_le (show 0 ≤ a2 by omega)
    exact ⟨_, get_val w a n hw (by omega) (by omega), rget_val w a n hw (by omega) (by omega)⟩
  · exact ⟨_, get_not _ _ _ h, rget_not _ _ _ _ h⟩
theorem BitsTell : hayloftlaw01_BitsTell.Pure := by
  intro a0 a1 a2 a3 w0 w1 w2 w3
  obtain ⟨w, rfl, hw⟩ := u64_nat w0
  obtain ⟨x, rfl, hx⟩ := u64_nat w3
  obtain ⟨n, hn, h1, h2⟩ := clamp a2
  obtain ⟨p, hp, hp'⟩ := puts w x a1 a2 hw hx
  obtain ⟨g, hg, hg'⟩ := gets w a1 a2 hw
  have f2 := rsigned_val x n a2 hn hx h1 h2
  have f1 := signed_clamp x n a2 hn h1 h2
  have f3 := fits_clamp (wrap64 x) n a2 hn h1 h2
  have f4 := fits_alike (wrap64 x) n a2 hn h1 h2 (by unfold wrap64; omega)
  have f5 := wakes_val
  generalize (66 : Nat) = k at hp' hg' f2
  refine ⟨k, ?_⟩
  unfold hayloftlaw01_BitsTell.f
  rw [hp, Option.bind_some, hp', Option.bind_some, if_pos rfl, hg, Option.bind_some, hg', Option.bind_some, if_pos rfl, f1, Option.bind_some, f2, Option.bind_some, if_pos rfl, f3, Option.bind_some, f4, Option.bind_some, beq_self_eq_true, if_pos rfl, f5, Option.bind_some]

end Go.Proofs.Ytmjofhlgbecccaa.PureT
