/- The document's Digits. -/
import Derived.Test.YtpiagggnjppkhaaDoorTx1
import Derived.Lib.ItoaMem
namespace Go.Proofs.YtpiagggnjppkhaaDoor
open Go.RowKit
set_option linter.unusedVariables false
set_option linter.unusedSimpArgs false
/-- A number's last digit. -/
def dgt (m : Nat) : UInt8 := UInt8.ofNat (48 + m % 10)
def hiD (m : Nat) : List UInt8 := if m < 10 then [] else Lib.decDigits (m / 10)
theorem dec_hi (m : Nat) : Lib.decDigits m = hiD m ++ [dgt m] := by
  unfold hiD
  rw [Lib.decDigits]
  by_cases h : m < 10
  · rw [dif_pos h, if_pos h]; unfold dgt; rw [Nat.mod_eq_of_lt h]; rfl
  · rw [dif_neg h, if_neg h]; rfl
theorem hi_step (m : Nat) (h : ¬ m < 10) : hiD m = hiD (m / 10) ++ [dgt (m / 10)] := by
  rw [← dec_hi, hiD, if_neg h]
theorem enc_dig (m : Nat) : Utf8.encode (48 + (m : Int) % 10) = ⟨⟨[dgt m]⟩⟩ := by
  have h1 : (48 + (m : Int) % 10) = ((48 + m % 10 : Nat) : Int) := by omega
  rw [h1]
  have hlt : 48 + m % 10 < 58 := by omega
  unfold dgt
  generalize 48 + m % 10 = c at hlt
  unfold Utf8.encode
  have hv : Utf8.valid (c : Int) = true := by unfold Utf8.valid; simp; omega
  simp only [hv, if_true, Int.toNat_natCast]
  rw [if_pos (by omega)]
theorem enc_dig2 (m : Nat) : Utf8.encode (48 + (m : Int) / 10 % 10) = ⟨⟨[dgt (m / 10)]⟩⟩ := by
  have := enc_dig (m / 10)
  rwa [Int.natCast_ediv] at this
set_option maxHeartbeats 4000000 in
set_option maxRecDepth 100000 in
theorem digits_pos (n : Nat) (w : World) (h : n ≤ 9223372036854775807) :
    Calls Tryd.prog 29 #[.int .i64 n] w fun e w' => e = .returned (.string ⟨⟨Lib.decDigits n⟩⟩) ∧ w = w' := by
  have h0 : ¬ (n : Int) < 0 := by omega
  have hi : (n : Int) ≤ 9223372036854775807 := by omega
  have hn0 : (0 : Int) ≤ (n : Int) := by omega
  have hE := enc_dig n
  have hlen : Hid ((Lib.decDigits n).length ≤ 20) := hid (dec_len 19 n (by have : (10 : Nat) ^ (19 + 1) = 100000000000000000000 := by decide
                                                                           omega))
  go_enter Tryd.func29, Tryd.ntmps29
  go_wp2
  go_loopg [0, 3] n (fun gk v0 v3 wr => ∃ (m : Nat) (s : List UInt8), Hid (gk = m) ∧ m ≤ n ∧ v0 = .int .i64 m ∧ v3 = .string ⟨⟨s⟩⟩ ∧ Hid (Lib.decDigits n = hiD m ++ s) ∧ wr = w)
  case atStart => exact ⟨n, [dgt n], hid rfl, Nat.le_refl _, rfl, rfl, hid (dec_hi n), rfl⟩
  case round =>
    obtain ⟨m, s, hgm, hm, rfl, rfl, hs, rfl⟩ := hrel
    have hsl : s.length ≤ 20 := by have := hlen.out; rw [hs.out, List.length_append] at this; omega
    clear hE
    have hE2 := enc_dig2 m
    have hm0 : (0 : Int) ≤ (m : Int) := by omega
    have hmi : (m : Int) ≤ 9223372036854775807 := by omega
    by_cases h9 : m < 10
    · have h9i : ¬ (9 : Int) < (m : Int) := by omega
      have hf : Hid (Lib.decDigits n = s) := hid (by rw [hs.out, hiD, if_pos h9]; rfl)
      clear hE2
      go_wp2
      go_ret
      exact ⟨by rw [hf.out]; rfl, rfl⟩
    · have h9i : (9 : Int) < (m : Int) := by omega
      have hf : Hid (Lib.decDigits n = hiD (m / 10) ++ ([dgt (m / 10)] ++ s)) := hid (by rw [hs.out, hi_step m h9, List.append_assoc])
      go_wp2
      go_roundg (m / 10)
      case measure => have := hgm.out; omega
      case rel => exact ⟨m / 10, [dgt (m / 10)] ++ s, hid rfl, by omega, by simp, by rw [cat], hf, rfl⟩
theorem dec_min : Lib.itoa (-9223372036854775808) = [45, 57, 50, 50, 51, 51, 55, 50, 48, 51, 54, 56, 53, 52, 55, 55, 53, 56, 48, 56] := by
  have h : ∀ (m : Nat), Lib.decDigits m = if m < 10 then [UInt8.ofNat (48 + m)] else Lib.decDigits (m / 10) ++ [UInt8.ofNat (48 + m % 10)] := fun m => by
    rw [Lib.decDigits]
    split <;> rfl
  unfold Lib.itoa
  rw [if_pos (by decide)]
  show 45 :: Lib.decDigits 9223372036854775808 = _
  iterate 19 (rw [h]; simp only [Nat.reduceLT, Nat.reduceDiv, Nat.reduceMod, Nat.reduceAdd, if_false])
  rfl
set_option maxHeartbeats 4000000 in
set_option maxRecDepth 100000 in
theorem digits_any (n : Int) (w : World) (h0 : -9223372036854775808 ≤ n) (h1 : n ≤ 9223372036854775807) :
    Calls Tryd.prog 29 #[.int .i64 n] w fun e w' => e = .returned (.string ⟨⟨Lib.itoa n⟩⟩) ∧ w = w' := by
  by_cases hn : n < 0
  · by_cases hm : n = -9223372036854775808
    · subst hm
      have e1 := hid dec_min
      go_enter Tryd.func29, Tryd.ntmps29
      go_wp2
      go_ret
      exact ⟨by rw [e1.out]; rfl, rfl⟩
    · obtain ⟨m, hmn⟩ : ∃ m : Nat, -n = m := ⟨(-n).toNat, by omega⟩
      have hmb : (n == -9223372036854775808) = false := by rw [Bool.eq_false_iff]; intro h; exact hm (eq_of_beq h)
      have hlo : -9223372036854775807 ≤ n := by omega
      have hlo2 : -n ≤ 9223372036854775807 := by omega
      have KD := hid (fun w => digits_pos m w (by omega))
      have hi : Hid (Lib.itoa n = 45 :: Lib.decDigits m) := hid (by unfold Lib.itoa; rw [if_pos hn, show n.natAbs = m by omega])
      have hl := dec_len 19 m (by have : (10 : Nat) ^ (19 + 1) = 100000000000000000000 := by decide
                                  omega)
      generalize Lib.decDigits m = D at *
      have hD20 : D.length ≤ 20 := hl
      clear hl hm
      go_enter Tryd.func29, Tryd.ntmps29
      go_wp2_with fail
      with_reducible refine (KD.out _).mono ?_
      rintro e w' ⟨rfl, rfl⟩
      go_wp2
      go_ret
      refine ⟨?_, rfl⟩
      rw [hi.out]
      show Ending.returned (Value.string _) = Ending.returned (Value.string _)
      exact congrArg (fun s => Ending.returned (Value.string s)) (cat [45] D)
  · obtain ⟨m, rfl⟩ := Int.eq_ofNat_of_zero_le (show 0 ≤ n by omega)
    have hi : Lib.itoa (m : Int) = Lib.decDigits m := Lib.itoa_nonneg m
    rw [hi]
    exact digits_pos m w (by omega)
end Go.Proofs.YtpiagggnjppkhaaDoor
