/- The document's fields of words: Get, Put, Signed. -/
import Derived.Test.YtcibkoodnfkogaaBu1
import Derived.Deep.LoopGhost
namespace Go.Proofs.Ytcibkoodnfkogaa
open Go.RowKit
set_option linter.unusedVariables false
set_option linter.unusedSimpArgs false
theorem get_step (X p m : Nat) : (X / 2 ^ p) % (2 ^ (m + 1)) = (X / 2 ^ (p + 1) % 2 ^ m) * 2 + X / 2 ^ p % 2 := by
  rw [Nat.pow_succ 2 m, Nat.mul_comm (2 ^ m) 2, Nat.mod_mul, Nat.pow_succ, ← Nat.div_div_eq_div_mul, Nat.mul_comm 2]
  omega
theorem bit_and (X p : Nat) (h : X < 18446744073709551616) : bits .and .u64 ((X : Int) / 2 ^ p) 1 = ((X / 2 ^ p % 2 : Nat) : Int) := by
  have e : ((X : Int) / 2 ^ p) = ((X / 2 ^ p : Nat) : Int) := by rw [Int.natCast_ediv, Int.natCast_pow]; rfl
  have hlt : X / 2 ^ p < 18446744073709551616 := Nat.lt_of_le_of_lt (Nat.div_le_self _ _) h
  rw [e]
  have := and_lit (X / 2 ^ p) 1 hlt (by decide)
  rw [Nat.and_one_is_mod] at this
  exact this
set_option maxHeartbeats 4000000 in
set_option maxRecDepth 100000 in
theorem rget_any (X at_ n : Nat) (w : World) (h1 : X < 18446744073709551616) (hn : 1 ≤ n) (hf : at_ + n ≤ 64) :
    Calls Try.prog 138 #[.int .u64 X, .int .i64 at_, .int .i64 n] w fun e w' => e = .returned (.int .u64 ((X / 2 ^ at_ % 2 ^ n : Nat) : Int)) ∧ w = w' := by
  have t1 : ¬ (n : Int) < 1 := by omega
  have t2 : (n : Int) ≤ 64 := by omega
  have t3 : (0 : Int) ≤ (at_ : Int) := by omega
  have t4 : (at_ : Int) ≤ 64 - (n : Int) := by omega
  have t5 : (1 : Int) ≤ (n : Int) := by omega
  go_enter Try.func138, Try.ntmps138
  go_wp2
  go_loopg [7, 8] n (fun gk v7 v8 wr => ∃ k : Nat, k ≤ n ∧ v8 = .int .i64 ((k : Int) - 1) ∧ v7 = .int .u64 ((X / 2 ^ (at_ + k) % 2 ^ (n - k) : Nat) : Int) ∧ Hid (gk = k) ∧ wr = w)
  case atStart => exact ⟨n, Nat.le_refl _, rfl, by simp [Nat.mod_one], hid rfl, rfl⟩
  case round =>
    obtain ⟨k, hk, rfl, rfl, hg, rfl⟩ := hrel
    cases k with
    | zero =>
      go_wp2
      go_ret
      exact ⟨by simp, rfl⟩
    | succ k =>
      have hb : X / 2 ^ (at_ + (k + 1)) % 2 ^ (n - (k + 1)) < 9223372036854775808 := by
        refine Nat.lt_of_lt_of_le (Nat.mod_lt _ (Nat.two_pow_pos _)) ?_
        rw [show (9223372036854775808 : Nat) = 2 ^ 63 by decide]
        exact Nat.pow_le_pow_right (by decide) (by omega)
      generalize hV : X / 2 ^ (at_ + (k + 1)) % 2 ^ (n - (k + 1)) = V at *
      replace hV := hid hV
      have hk0 : (0 : Int) ≤ (k : Int) := by omega
      have hk1 : (at_ : Int) + (k : Int) < 64 := by omega
      have hst : Hid (IntKind.u64.wrap ((V : Int) * 2 + bits .and .u64 ((X : Int) / 2 ^ (at_ + k)) 1) = ((X / 2 ^ (at_ + k) % 2 ^ (n - k) : Nat) : Int)) := hid (by
        rw [bit_and X _ h1, show n - k = (n - (k + 1)) + 1 by omega, get_step, show at_ + k + 1 = at_ + (k + 1) by omega, hV.out, wrap_u64]
        have := Nat.mod_lt (X / 2 ^ (at_ + k)) (show 0 < 2 by decide)
        generalize X / 2 ^ (at_ + k) % 2 = b at *
        omega)
      go_wp2
      go_roundg k
      case measure => have := hg.out; omega
      case rel => exact ⟨k, by omega, rfl, by rw [hst.out], hid rfl, rfl⟩
/-- A word below a place does not meet the bit at it. -/
theorem andNot_high (W s : Nat) (hs : s < 64) (hW : W < 2 ^ s) : bits .andNot .u64 (W : Int) (IntKind.u64.wrap (2 ^ s)) = (W : Int) := by
  have hp : (2 : Nat) ^ s < 18446744073709551616 := by
    have := Nat.pow_lt_pow_right (a := 2) (by decide) hs
    rw [p64] at this
    exact this
  have hw : IntKind.u64.wrap (2 ^ s) = (((2 ^ s : Nat)) : Int) := by
    rw [wrap_u64, show ((2 : Int) ^ s) = ((2 ^ s : Nat) : Int) by rw [Int.natCast_pow]; rfl]
    generalize (2 : Nat) ^ s = m at hp
    omega
  rw [hw]
  have hn : (BitVec.ofNat 64 W &&& ~~~BitVec.ofNat 64 (2 ^ s)).toNat = W := by
    apply Nat.eq_of_testBit_eq
    intro i
    rw [BitVec.testBit_toNat, BitVec.getLsbD_and, BitVec.getLsbD_not, BitVec.getLsbD_ofNat, BitVec.getLsbD_ofNat]
    by_cases hi : i < 64
    · rw [decide_eq_true hi, Bool.true_and, Bool.true_and, Bool.true_and]
      by_cases his : i = s
      · subst his
        rw [Nat.testBit_lt_two_pow hW]
        rfl
      · rw [Nat.testBit_two_pow_of_ne (fun e => his e.symm)]
        simp
    · rw [Nat.testBit_lt_two_pow (Nat.lt_of_lt_of_le hW (Nat.pow_le_pow_right (by decide) (by omega)))]
      simp [hi]
  have hwr := wraps_u64 (W : Int) (Int.natCast_nonneg _) (by rw [show (2 : Int) ^ 64 = 18446744073709551616 by decide]; generalize (2 : Nat) ^ s = m at *; omega)
  have hx : bits .andNot .u64 (W : Int) ((2 ^ s : Nat) : Int) = IntKind.u64.wrap (((BitVec.ofNat 64 W &&& ~~~BitVec.ofNat 64 (2 ^ s)).toNat : Nat) : Int) := by
    simp only [Go.bits, BitVec.ofInt_natCast]
    rfl
  rw [hx, hn, hwr]
theorem or_high (W s : Nat) (hs : s < 64) (hW : W < 2 ^ s) : bits .or .u64 (W : Int) (IntKind.u64.wrap (2 ^ s)) = ((W + 2 ^ s : Nat) : Int) := by
  have hp : (2 : Nat) ^ s < 18446744073709551616 := by
    have := Nat.pow_lt_pow_right (a := 2) (by decide) hs
    rw [p64] at this
    exact this
  have hw : IntKind.u64.wrap (2 ^ s) = (((2 ^ s : Nat)) : Int) := by
    rw [wrap_u64, show ((2 : Int) ^ s) = ((2 ^ s : Nat) : Int) by rw [Int.natCast_pow]; rfl]
    generalize (2 : Nat) ^ s = m at hp
    omega
  rw [hw, or_lit W (2 ^ s) (by omega) hp]
  have h1 : 2 ^ s = 1 <<< s := by rw [Nat.shiftLeft_eq, Nat.one_mul]
  rw [h1, Nat.or_comm, ← Nat.shiftLeft_add_eq_or_of_lt hW, Nat.add_comm]
theorem put_step (W x at_ i : Nat) : W + x % 2 ^ (i + 1) * 2 ^ at_ = (W + x % 2 ^ i * 2 ^ at_) + x / 2 ^ i % 2 * 2 ^ (at_ + i) := by
  rw [Nat.pow_succ, Nat.mod_mul, Nat.add_mul, Nat.pow_add, Nat.add_assoc]
  congr 2
  rw [Nat.mul_comm (2 ^ i) (x / 2 ^ i % 2), Nat.mul_assoc, Nat.mul_comm (2 ^ i) (2 ^ at_)]
theorem put_lt (W x at_ i : Nat) (hW : W < 2 ^ at_) : W + x % 2 ^ i * 2 ^ at_ < 2 ^ (at_ + i) := by
  have h := Nat.mod_lt x (Nat.two_pow_pos i)
  have h2 : (x % 2 ^ i + 1) * 2 ^ at_ ≤ 2 ^ i * 2 ^ at_ := Nat.mul_le_mul_right _ h
  rw [Nat.pow_add, Nat.mul_comm (2 ^ at_) (2 ^ i)]
  rw [Nat.add_mul, Nat.one_mul] at h2
  omega
set_option maxHeartbeats 4000000 in
set_option maxRecDepth 100000 in
theorem rput_any (W x at_ n : Nat) (w : World) (hx : x < 18446744073709551616) (hn : 1 ≤ n) (hf : at_ + n ≤ 64) (hW : W < 2 ^ at_) :
    Calls Try.prog 112 #[.int .u64 W, .int .i64 at_, .int .i64 n, .int .u64 x] w fun e w' => e = .returned (.int .u64 ((W + x % 2 ^ n * 2 ^ at_ : Nat) : Int)) ∧ w = w' := by
  have t1 : ¬ (n : Int) < 1 := by omega
  have t2 : (n : Int) ≤ 64 := by omega
  have t3 : (0 : Int) ≤ (at_ : Int) := by omega
  have t4 : (at_ : Int) ≤ 64 - (n : Int) := by omega
  have t5 : (1 : Int) ≤ (n : Int) := by omega
  go_enter Try.func112, Try.ntmps112
  go_wp2
  go_loopg [0, 9] n (fun gk v0 v9 wr => ∃ i : Nat, i ≤ n ∧ v9 = .int .i64 (i : Int) ∧ v0 = .int .u64 ((W + x % 2 ^ i * 2 ^ at_ : Nat) : Int) ∧ Hid (gk + i = n) ∧ wr = w)
  case atStart => exact ⟨0, by omega, rfl, by simp [Nat.mod_one], hid (by omega), rfl⟩
  case round =>
    obtain ⟨i, hi, rfl, rfl, hg, rfl⟩ := hrel
    by_cases hlt : i < n
    · have hlt2 := put_lt W x at_ i hW
      have hst := put_step W x at_ i
      have ha := andNot_high (W + x % 2 ^ i * 2 ^ at_) (at_ + i) (by omega) hlt2
      have ho := or_high (W + x % 2 ^ i * 2 ^ at_) (at_ + i) (by omega) hlt2
      have hb := bit_and x i hx
      generalize W + x % 2 ^ i * 2 ^ at_ = V at *
      have hi0 : (0 : Int) ≤ (i : Int) := by omega
      have hi1 : (i : Int) < (n : Int) := by omega
      have hi2 : (at_ : Int) + (i : Int) < 64 := by omega
      have hi3 : (i : Int) < 64 := by omega
      have hlt3 := hid hlt2
      have hst3 := hid hst
      clear hlt2 hst
      by_cases hbit : x / 2 ^ i % 2 = 1
      · rw [hbit] at hb
        have hfin : Hid (((V + 2 ^ (at_ + i) : Nat) : Int) = ((W + x % 2 ^ (i + 1) * 2 ^ at_ : Nat) : Int)) := hid (by rw [hst3.out, hbit, Nat.one_mul])
        clear hbit
        go_wp2
        go_roundg (n - (i + 1))
        case measure => have := hg.out; omega
        case rel => exact ⟨i + 1, by omega, by go_num, by rw [← hfin.out]; try rfl, by show _ + _ = _; omega, rfl⟩
      · have hb0 : x / 2 ^ i % 2 = 0 := by omega
        rw [hb0] at hb
        have hfin : Hid ((V : Int) = ((W + x % 2 ^ (i + 1) * 2 ^ at_ : Nat) : Int)) := hid (by rw [hst3.out, hb0, Nat.zero_mul, Nat.add_zero])
        clear hbit hb0
        go_wp2
        go_roundg (n - (i + 1))
        case measure => have := hg.out; omega
        case rel => exact ⟨i + 1, by omega, by go_num, by rw [← hfin.out], by show _ + _ = _; omega, rfl⟩
    · obtain rfl : i = n := by omega
      go_wp2
      go_ret
      exact ⟨rfl, rfl⟩
end Go.Proofs.Ytcibkoodnfkogaa
