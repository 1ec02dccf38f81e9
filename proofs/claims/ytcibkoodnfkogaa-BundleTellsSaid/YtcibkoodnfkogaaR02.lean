/- The document's Signed at 32, Word and Op. -/
import Derived.Test.YtcibkoodnfkogaaR01
import Derived.Test.YtcibkoodnfkogaaR03c
namespace Go.Proofs.Ytcibkoodnfkogaa
open Go.RowKit
set_option linter.unusedVariables false
set_option linter.unusedSimpArgs false
theorem sgn_end (X : Nat) (h : X < 4294967296) : (X : Int) - (X / 2147483648 : Nat) * 4294967296 = wrap32 (X : Int) := by
  unfold wrap32; omega
set_option maxHeartbeats 4000000 in
set_option maxRecDepth 100000 in
theorem rsigned_any (X : Nat) (w : World) (h : X < 4294967296) :
    Calls Try.prog 139 #[.int .u64 X, .int .i64 32] w fun e w' => e = .returned (.int .i64 (wrap32 X)) ∧ w = w' := by
  have hend := hid (sgn_end X h)
  have b31 : bits .and .u64 ((X : Int) / 2147483648) 1 = ((X / 2147483648 : Nat) : Int) := by
    have := bit_and X 31 (by omega)
    rw [show X / 2 ^ 31 % 2 = X / 2147483648 by rw [show (2 : Nat) ^ 31 = 2147483648 by decide]; omega] at this
    exact this
  have hB0 : X / 2147483648 ≤ 1 := by omega
  generalize hB : X / 2147483648 = B at *
  replace hB := hid hB
  go_enter Try.func139, Try.ntmps139
  go_wp2
  go_loopg [5, 6] 31 (fun gk v5 v6 wr => ∃ k : Nat, k ≤ 31 ∧ v6 = .int .i64 ((k : Int) - 1) ∧ v5 = .int .i64 (((X / 2 ^ k : Nat) : Int) - (B : Int) * ((2 ^ (32 - k) : Nat) : Int)) ∧ Hid (gk = k) ∧ wr = w)
  case atStart => exact ⟨31, by omega, rfl, by rw [show X / 2 ^ 31 = B from hB.out, show 2 ^ (32 - 31) = 2 from rfl]; congr 1; omega, hid rfl, rfl⟩
  case round =>
    obtain ⟨k, hk, rfl, rfl, hg, rfl⟩ := hrel
    cases k with
    | zero =>
      have hz : Hid (((X / 2 ^ 0 : Nat) : Int) - (B : Int) * ((2 ^ (32 - 0) : Nat) : Int) = wrap32 X) := hid (by rw [← hend.out, Nat.pow_zero, Nat.div_one]; rfl)
      generalize ((X / 2 ^ 0 : Nat) : Int) - (B : Int) * ((2 ^ (32 - 0) : Nat) : Int) = S at *
      go_wp2
      go_ret
      exact ⟨ret_int hz.out, rfl⟩
    | succ k =>
      have hbk := bit_and X k (by omega)
      have hb2 : X / 2 ^ k % 2 ≤ 1 := by omega
      have e1 : X / 2 ^ k = X / 2 ^ (k + 1) * 2 + X / 2 ^ k % 2 := by rw [Nat.pow_succ, ← Nat.div_div_eq_div_mul]; omega
      have e2 : 2 ^ (32 - k) = 2 ^ (32 - (k + 1)) * 2 := by rw [← Nat.pow_succ]; congr 1; omega
      have q1 : X / 2 ^ (k + 1) ≤ X := Nat.div_le_self _ _
      have q2 : 2 ^ (32 - (k + 1)) ≤ 2147483648 := by
        rw [show (2147483648 : Nat) = 2 ^ 31 by decide]
        exact Nat.pow_le_pow_right (by decide) (by omega)
      have hS1 : ((X / 2 ^ (k + 1) : Nat) : Int) - (B : Int) * ((2 ^ (32 - (k + 1)) : Nat) : Int) ≤ 4294967296 ∧ -4294967296 ≤ ((X / 2 ^ (k + 1) : Nat) : Int) - (B : Int) * ((2 ^ (32 - (k + 1)) : Nat) : Int) := by
        obtain rfl | rfl : B = 0 ∨ B = 1 := by omega
        all_goals omega
      have hfin : Hid ((((X / 2 ^ (k + 1) : Nat) : Int) - (B : Int) * ((2 ^ (32 - (k + 1)) : Nat) : Int)) * 2 + ((X / 2 ^ k % 2 : Nat) : Int) = ((X / 2 ^ k : Nat) : Int) - (B : Int) * ((2 ^ (32 - k) : Nat) : Int)) := hid (by
        rw [e2, e1]
        obtain rfl | rfl : B = 0 ∨ B = 1 := by omega
        all_goals omega)
      generalize ((X / 2 ^ (k + 1) : Nat) : Int) - (B : Int) * ((2 ^ (32 - (k + 1)) : Nat) : Int) = S at *
      generalize X / 2 ^ k % 2 = b at *
      obtain ⟨hS1, hS2⟩ := hS1
      clear e1 e2 q1 q2
      have hk0 : (0 : Int) ≤ (k : Int) := by omega
      have hk1 : (k : Int) < 64 := by omega
      obtain rfl | rfl : b = 0 ∨ b = 1 := by omega
      all_goals
        go_wp2
        go_roundg k
        case measure => have := hg.out; omega
        case rel => exact ⟨k, by omega, by go_num, by rw [← hfin.out]; try go_num, hid rfl, rfl⟩
theorem rput_int (W x a n p q : Int) (w : World) (W0 : 0 ≤ W) (x0 : 0 ≤ x) (x1 : x < 18446744073709551616) (a0 : 0 ≤ a) (n1 : 1 ≤ n) (f : a + n ≤ 64) (hp : p = ((2 ^ n.toNat : Nat) : Int)) (hq : q = ((2 ^ a.toNat : Nat) : Int)) (hW : W < q) :
    Calls Try.prog 112 #[.int .u64 W, .int .i64 a, .int .i64 n, .int .u64 x] w fun e w' => e = .returned (.int .u64 (W + x % p * q)) ∧ w = w' := by
  obtain ⟨W, rfl⟩ := Int.eq_ofNat_of_zero_le W0
  obtain ⟨x, rfl⟩ := Int.eq_ofNat_of_zero_le x0
  obtain ⟨a, rfl⟩ := Int.eq_ofNat_of_zero_le a0
  obtain ⟨n, rfl⟩ := Int.eq_ofNat_of_zero_le (show 0 ≤ n by omega)
  subst hp hq
  have h := rput_any W x a n w (by omega) (by omega) (by omega) (by have := hW; rw [Int.toNat_natCast] at this; exact Int.ofNat_lt.1 this)
  have e : ((W + x % 2 ^ n * 2 ^ a : Nat) : Int) = (W : Int) + (x : Int) % ((2 ^ (n : Int).toNat : Nat) : Int) * ((2 ^ (a : Int).toNat : Nat) : Int) := by
    rw [Int.toNat_natCast, Int.toNat_natCast, Int.natCast_add, Int.natCast_mul, Int.natCast_emod]
  rw [e] at h
  exact h
theorem rget_int (X a n p q : Int) (w : World) (x0 : 0 ≤ X) (x1 : X < 18446744073709551616) (a0 : 0 ≤ a) (n1 : 1 ≤ n) (f : a + n ≤ 64) (hp : p = ((2 ^ n.toNat : Nat) : Int)) (hq : q = ((2 ^ a.toNat : Nat) : Int)) :
    Calls Try.prog 138 #[.int .u64 X, .int .i64 a, .int .i64 n] w fun e w' => e = .returned (.int .u64 (X / q % p)) ∧ w = w' := by
  obtain ⟨X, rfl⟩ := Int.eq_ofNat_of_zero_le x0
  obtain ⟨a, rfl⟩ := Int.eq_ofNat_of_zero_le a0
  obtain ⟨n, rfl⟩ := Int.eq_ofNat_of_zero_le (show 0 ≤ n by omega)
  subst hp hq
  have h := rget_any X a n w (by omega) (by omega) (by omega)
  have e : ((X / 2 ^ a % 2 ^ n : Nat) : Int) = (X : Int) / ((2 ^ (a : Int).toNat : Nat) : Int) % ((2 ^ (n : Int).toNat : Nat) : Int) := by
    rw [Int.toNat_natCast, Int.toNat_natCast, Int.natCast_emod, Int.natCast_ediv]
  rw [e] at h
  exact h
theorem rsigned_int (X : Int) (w : World) (h0 : 0 ≤ X) (h1 : X < 4294967296) :
    Calls Try.prog 139 #[.int .u64 X, .int .i64 32] w fun e w' => e = .returned (.int .i64 (wrap32 X)) ∧ w = w' := by
  obtain ⟨X, rfl⟩ := Int.eq_ofNat_of_zero_le h0
  exact rsigned_any X w (by omega)
end Go.Proofs.Ytcibkoodnfkogaa
