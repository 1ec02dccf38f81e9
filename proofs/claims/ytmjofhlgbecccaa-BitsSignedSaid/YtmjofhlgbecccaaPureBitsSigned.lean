/- A number that fits into a field comes back out of it, sign and all; one that does not fit does not: for every number, width and place; no condition. -/
import Derived.Test.YtmjofhlgbecccaaPBitsSignedx1
import Derived.Test.YtmjofhlgbecccaaBMath
namespace Go.Proofs.Ytmjofhlgbecccaa.Pure
open Go.RowKit Go.Proofs.Ytmjofhlgbecccaa.PBitsSigned Go.Proofs.YtmjofhlgbecccaaW.PrintWords Go.Proofs.YtmjofhlgbecccaaW.PrintLast Go.Proofs.Ytmjofhlgbecccaa.BMath

/-- The lowest n bits of x, as a number with a sign. -/
def sg (n : Nat) (x : Int) : Int := if x % 2 ^ n ≥ 2 ^ (n - 1) then x % 2 ^ n - 2 ^ n else x % 2 ^ n
theorem sg_alike (n : Nat) (x y : Int) (h : x % 2 ^ n = y % 2 ^ n) : sg n x = sg n y := by unfold sg; rw [h]
theorem pow_pos (n : Nat) : (0 : Int) < 2 ^ n := by exact_mod_cast Nat.two_pow_pos n
theorem pow_half (n : Nat) (h : 1 ≤ n) : (2 : Int) ^ n = 2 * 2 ^ (n - 1) := by
  obtain ⟨m, rfl⟩ : ∃ m, n = m + 1 := ⟨n - 1, by omega⟩
  rw [Int.pow_succ, Nat.add_sub_cancel]; omega
theorem sg_mod (n : Nat) (x : Int) : sg n x % 2 ^ n = x % 2 ^ n := by
  unfold sg
  split
  · rw [Int.sub_emod_right, Int.emod_emod_of_dvd _ (Int.dvd_refl _)]
  · rw [Int.emod_emod_of_dvd _ (Int.dvd_refl _)]
theorem sg_sg (n : Nat) (x : Int) : sg n (sg n x) = sg n x := sg_alike n _ _ (sg_mod n x)
theorem sg_bd (n : Nat) (x : Int) (h : 1 ≤ n) : -2 ^ (n - 1) ≤ sg n x ∧ sg n x < 2 ^ (n - 1) := by
  have h1 := pow_half n h
  have h2 := Int.emod_nonneg x (Int.ne_of_gt (pow_pos n))
  have h3 := Int.emod_lt_of_pos x (pow_pos n)
  unfold sg
  split <;> omega
theorem pow_split (n : Nat) (h : n ≤ 64) : (2 : Int) ^ n * 2 ^ (64 - n) = 18446744073709551616 := by
  rw [← Int.pow_add, Nat.add_sub_cancel' h]; rfl
/-- The program's way: shifted up, and down again. -/
theorem sg_way (n : Nat) (x : Int) (h1 : 1 ≤ n) (h2 : n ≤ 64) : wrap64 (IntKind.u64.wrap (x * 2 ^ (64 - n))) / 2 ^ (64 - n) = sg n x := by
  have hs := pow_split n h2
  have hp := pow_pos (64 - n)
  have hh := pow_half n h1
  rw [wrap_u64, ← hs, Int.mul_comm x, Int.mul_comm (2 ^ n), Int.mul_emod_mul_of_pos _ _ hp, Int.mul_comm]
  have b1 := Int.emod_nonneg x (Int.ne_of_gt (pow_pos n))
  have b2 := Int.emod_lt_of_pos x (pow_pos n)
  unfold sg
  generalize hy : x % 2 ^ n = y at b1 b2 ⊢
  generalize hq : (2 : Int) ^ n = q at hs hh b2 ⊢
  generalize hr : (2 : Int) ^ (n - 1) = r at hh ⊢
  generalize he : (2 : Int) ^ (64 - n) = p at hs hp ⊢
  have hrp : r * p = 9223372036854775808 := by
    have : 2 * (r * p) = 18446744073709551616 := by rw [← Int.mul_assoc, ← hh, hs]
    omega
  have hyp : y * p < q * p := Int.mul_lt_mul_of_pos_right b2 hp
  have hy0 : 0 ≤ y * p := Int.mul_nonneg b1 (Int.le_of_lt hp)
  by_cases c : y ≥ r
  · have hge : r * p ≤ y * p := Int.mul_le_mul_of_nonneg_right c (Int.le_of_lt hp)
    have hw : wrap64 (y * p) = (y - q) * p := by rw [Int.sub_mul]; unfold wrap64; omega
    rw [if_pos c, hw, Int.mul_ediv_cancel _ (Int.ne_of_gt hp)]
  · have hlt : y * p < r * p := Int.mul_lt_mul_of_pos_right (by omega) hp
    have hw : wrap64 (y * p) = y * p := by unfold wrap64; omega
    rw [if_neg c, hw, Int.mul_ediv_cancel _ (Int.ne_of_gt hp)]
/-- Brought into 1 to 64. -/
theorem clamp (a : Int) : ∃ n : Nat, mn (mx a 1) 64 = n ∧ 1 ≤ n ∧ n ≤ 64 := by
  have : 1 ≤ mn (mx a 1) 64 ∧ mn (mx a 1) 64 ≤ 64 := by unfold mn mx; omega
  exact ⟨(mn (mx a 1) 64).toNat, by omega, by omega, by omega⟩
theorem clamp_nat (n : Nat) (h1 : 1 ≤ n) (h2 : n ≤ 64) : mn (mx (n : Int) 1) 64 = n := by unfold mn mx; omega
theorem one_val (a1 a2 : Int) : bits_one.f a1 a2 = some (decide (1 ≤ a2 ∧ a2 ≤ 64 ∧ 0 ≤ a1 ∧ a1 ≤ 64 - a2)) := by
  unfold bits_one.f
  by_cases h1 : a2 ≥ 1
  · rw [if_pos h1]
    by_cases h2 : a2 ≤ 64
    · rw [if_pos h2]
      have hw : wrap64 (64 - a2) = 64 - a2 := by unfold wrap64; omega
      by_cases h3 : a1 ≥ 0
      · rw [if_pos h3, hw]
        congr 1
        exact decide_eq_decide.2 (by omega)
      · rw [if_neg h3, decide_eq_false (by omega)]
    · rw [if_neg h2, decide_eq_false (by omega)]
  · rw [if_neg h1, decide_eq_false (by omega)]
theorem mask_val (n : Nat) (h1 : 1 ≤ n) (h2 : n ≤ 64) : bits_mask.f n = some (low n : Int) := by
  unfold bits_mask.f
  have hw : wrap64 (64 - (n : Int)) = ((64 - n : Nat) : Int) := by unfold wrap64; omega
  have hu : IntKind.u64.wrap ((64 - n : Nat) : Int) = ((64 - n : Nat) : Int) := by rw [wrap_u64]; omega
  rw [hw, hu, if_pos (Int.natCast_nonneg _), ← top_shift n h2]
  exact congrArg some (shr_nat 18446744073709551615 (64 - n) (by omega))
theorem put_val (w a n x : Nat) (hx : x < 2 ^ 64) (h1 : 1 ≤ n) (hf : a + n ≤ 64) : bits_Put.f w a n x = some ((put w a n x : Nat) : Int) := by
  unfold bits_Put.f
  have hu : IntKind.u64.wrap (a : Int) = (a : Int) := by rw [wrap_u64]; omega
  rw [one_val, decide_eq_true (by omega), mask_val n h1 (by omega), hu]
  simp only [Option.bind_some, if_true]
  rw [if_pos (Int.natCast_nonneg _), shl_nat _ _ (by omega), and_nat _ _ hx (low_lt n (by omega)), shl_nat _ _ (by omega), andn_nat, or_nat _ _ (andn_lt _ _) (Nat.mod_lt _ (by decide))]
  rfl
theorem put_not (a0 a1 a2 a3 : Int) (h : ¬ (1 ≤ a2 ∧ a2 ≤ 64 ∧ 0 ≤ a1 ∧ a1 ≤ 64 - a2)) : bits_Put.f a0 a1 a2 a3 = some a0 := by
  unfold bits_Put.f
  rw [one_val, decide_eq_false h]
  rfl
theorem get_val (w a n : Nat) (hw : w < 2 ^ 64) (h1 : 1 ≤ n) (hf : a + n ≤ 64) : bits_Get.f w a n = some ((get w a n : Nat) : Int) := by
  unfold bits_Get.f
  have hu : IntKind.u64.wrap (a : Int) = (a : Int) := by rw [wrap_u64]; omega
  have hs : w >>> a < 2 ^ 64 := by rw [Nat.shiftRight_eq_div_pow]; exact Nat.lt_of_le_of_lt (Nat.div_le_self _ _) hw
  rw [one_val, decide_eq_true (by omega), mask_val n h1 (by omega), hu]
  simp only [Option.bind_some, if_true]
  rw [if_pos (Int.natCast_nonneg _), shr_nat _ _ (by omega), and_nat _ _ hs (low_lt n (by omega))]
  rfl
theorem get_not (a0 a1 a2 : Int) (h : ¬ (1 ≤ a2 ∧ a2 ≤ 64 ∧ 0 ≤ a1 ∧ a1 ≤ 64 - a2)) : bits_Get.f a0 a1 a2 = some 0 := by
  unfold bits_Get.f
  rw [one_val, decide_eq_false h]
  rfl
theorem wakes_val : hayloftlaw01_wakes.f = some true := by decide +kernel
theorem u64_nat {x : Int} (h : (Lit.int .u64 x).wf = true) : ∃ n : Nat, x = n ∧ n < 2 ^ 64 := by
  simp only [Lit.wf, IntKind.min, IntKind.max, IntKind.bits, IntKind.signed, Bool.and_eq_true] at h
  refine ⟨x.toNat, ?_, ?_⟩ <;> simp at h <;> omega
theorem i64_bd {x : Int} (h : (Lit.int .i64 x).wf = true) : -9223372036854775808 ≤ x ∧ x ≤ 9223372036854775807 := by
  simp only [Lit.wf, IntKind.min, IntKind.max, IntKind.bits, IntKind.signed, Bool.and_eq_true] at h
  simp at h
  omega
theorem signed_val (x : Int) (n : Nat) (h1 : 1 ≤ n) (h2 : n ≤ 64) : bits_Signed.f x n = some (sg n x) := by
  unfold bits_Signed.f
  rw [clamp_nat n h1 h2, show ((64 : Int) - n).toNat = 64 - n by omega, sg_way n x h1 h2]
theorem wrap_mod (x : Int) (n : Nat) (h : n ≤ 64) : IntKind.u64.wrap x % 2 ^ n = x % 2 ^ n := by
  rw [wrap_u64, ← pow_split n h, Int.emod_emod_of_dvd _ ⟨_, rfl⟩]
theorem fits_val (x : Int) (n : Nat) (h1 : 1 ≤ n) (h2 : n ≤ 64) : bits_Fits.f x n = some (sg n x == x) := by
  unfold bits_Fits.f
  rw [signed_val _ n h1 h2]
  simp only [Option.bind_some]
  rw [sg_alike n _ x (wrap_mod x n h2)]
theorem low_mod (x n : Nat) : ((x &&& low n : Nat) : Int) = (x : Int) % 2 ^ n := by
  unfold low
  rw [Nat.and_two_pow_sub_one_eq_mod, Int.natCast_emod, Int.natCast_pow]
  rfl
theorem u64_of (x : Int) : ∃ m : Nat, IntKind.u64.wrap x = m ∧ m < 2 ^ 64 := by
  rw [wrap_u64]
  exact ⟨(x % 18446744073709551616).toNat, by omega, by omega⟩
theorem back (n a m : Nat) (y : Int) (h1 : 1 ≤ n) (hf : a + n ≤ 64) (hlt : m < 2 ^ 64) (hw : (m : Int) % 2 ^ n = y % 2 ^ n) :
    (bits_Put.f 0 a n m).bind (fun t117 => (bits_Get.f t117 a n).bind fun t118 => bits_Signed.f t118 n) = some (sg n y) := by
  have hp : bits_Put.f ((0 : Nat) : Int) a n m = some ((put 0 a n m : Nat) : Int) := put_val 0 a n m hlt h1 hf
  rw [Int.natCast_zero] at hp
  rw [hp]
  simp only [Option.bind_some]
  rw [get_val _ a n (put_lt _ _ _ _) h1 hf, get_put 0 a n m (by decide) hf]
  simp only [Option.bind_some]
  rw [signed_val _ n h1 (by omega), low_mod, sg_alike n _ y]
  rw [Int.emod_emod_of_dvd _ (Int.dvd_refl _), hw]
theorem j0_val (n : Nat) (a2 x : Int) (h1 : 1 ≤ n) (h2 : n ≤ 64) (b : Bool) (hb : b = false → 0 ≤ a2 ∧ a2 ≤ 64 - (n : Int)) :
    hayloftlaw01_BitsSigned.j0 1 n a2 (sg n x) b = some true := by
  have hf : bits_Fits.f (sg n x) n = some true := by rw [fits_val _ n h1 h2, sg_sg, beq_self_eq_true]
  cases b with
  | true =>
    simp only [hayloftlaw01_BitsSigned.j0, if_true]
    rw [hf]
    simp only [Option.bind_some, if_true]
    rw [wakes_val]
    simp only [Option.bind_some]
  | false =>
    have hb' := hb rfl
    simp only [hayloftlaw01_BitsSigned.j0, Bool.false_eq_true, if_false]
    rw [hf]
    simp only [Option.bind_some, if_true]
    obtain ⟨a, rfl⟩ := Int.eq_ofNat_of_zero_le hb'.1
    obtain ⟨m, hm, hlt⟩ := u64_of (sg n x)
    have hw := wrap_mod (sg n x) n h2
    rw [hm] at hw ⊢
    have hk := back n a m (sg n x) h1 (by omega) hlt hw
    rw [sg_sg] at hk
    cases hp : bits_Put.f 0 a n m with
    | none => rw [hp] at hk; cases hk
    | some p =>
      rw [hp] at hk
      simp only [Option.bind_some] at hk ⊢
      cases hg : bits_Get.f p a n with
      | none => rw [hg] at hk; cases hk
      | some g =>
        rw [hg] at hk
        simp only [Option.bind_some] at hk ⊢
        rw [hk]
        simp only [Option.bind_some, if_true]
        rw [wakes_val]
        simp only [Option.bind_some]
theorem BitsSigned : hayloftlaw01_BitsSigned.Pure := by
  intro a0 a1 a2 _ _ _
  obtain ⟨n, hn, h1, h2⟩ := clamp a1
  refine ⟨1, ?_⟩
  unfold hayloftlaw01_BitsSigned.f
  rw [hn, fits_val _ n h1 h2, signed_val _ n h1 h2, sg_alike n _ a0 (wrap_mod a0 n h2)]
  simp only [Option.bind_some, bne_self_eq_false, Bool.false_eq_true, if_false]
  by_cases c : a2 < 0
  · rw [if_pos c]
    exact j0_val n a2 a0 h1 h2 true (fun h => by cases h)
  · rw [if_neg c]
    exact j0_val n a2 a0 h1 h2 _ (fun h => by have := of_decide_eq_false h; omega)

end Go.Proofs.Ytmjofhlgbecccaa.Pure
