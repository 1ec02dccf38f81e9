/- OpsSum: the walk. -/
import Derived.Test.YtpiagggnjppkhaaDoorWk
namespace Go.Proofs.YtpiagggnjppkhaaDoor
open Go.RowKit
set_option linter.unusedVariables false
set_option linter.unusedSimpArgs false
theorem bits_and_comm (a b : Int) : Go.bits .and .i64 a b = Go.bits .and .i64 b a := by
  show IntKind.i64.wrap ((BitVec.ofInt 64 a &&& BitVec.ofInt 64 b).toNat : Int) = IntKind.i64.wrap ((BitVec.ofInt 64 b &&& BitVec.ofInt 64 a).toNat : Int)
  rw [BitVec.and_comm]
theorem bits_or_comm (a b : Int) : Go.bits .or .i64 a b = Go.bits .or .i64 b a := by
  show IntKind.i64.wrap ((BitVec.ofInt 64 a ||| BitVec.ofInt 64 b).toNat : Int) = IntKind.i64.wrap ((BitVec.ofInt 64 b ||| BitVec.ofInt 64 a).toNat : Int)
  rw [BitVec.or_comm]
theorem bits_xor_comm (a b : Int) : Go.bits .xor .i64 a b = Go.bits .xor .i64 b a := by
  show IntKind.i64.wrap ((BitVec.ofInt 64 a ^^^ BitVec.ofInt 64 b).toNat : Int) = IntKind.i64.wrap ((BitVec.ofInt 64 b ^^^ BitVec.ofInt 64 a).toNat : Int)
  rw [BitVec.xor_comm]
def sumK : List Int := [2, 4, 5, 6, 12, 10]
theorem rck_comm (a b k : Int) (h : k ∈ sumK) : rckN k a b = rckN k b a := by
  have h2 : k = 2 ∨ k = 4 ∨ k = 5 ∨ k = 6 ∨ k = 12 ∨ k = 10 := by simpa [sumK] using h
  rcases h2 with rfl | rfl | rfl | rfl | rfl | rfl
  · show wrap64 (a + b) = wrap64 (b + a); rw [Int.add_comm]
  · exact bits_and_comm a b
  · exact bits_or_comm a b
  · exact bits_xor_comm a b
  · show wrap64 (a * b) = wrap64 (b * a); rw [Int.mul_comm]
  · show (if a = b then (1 : Int) else 0) = if b = a then 1 else 0
    by_cases h : a = b
    · rw [if_pos h, if_pos h.symm]
    · rw [if_neg h, if_neg (fun e => h e.symm)]
theorem rck_back (a b : Int) (h0 : -9223372036854775808 ≤ a) (h1 : a ≤ 9223372036854775807) : rckN 3 (rckN 2 a b) b = a := by
  show wrap64 (wrap64 (a + b) - b) = a
  unfold wrap64
  omega
theorem rck_shl (a b : Int) : rckN 7 a (b % 64) = rckN 7 a b := by
  show wrap64 (IntKind.u64.wrap (IntKind.u64.wrap a * 2 ^ (b % 64 % 64).toNat)) = wrap64 (IntKind.u64.wrap (IntKind.u64.wrap a * 2 ^ (b % 64).toNat))
  rw [show b % 64 % 64 = b % 64 by omega]
theorem rck_shr (a : Int) : rckN 8 a 64 = a := by
  show a / 2 ^ ((64 : Int) % 64).toNat = a
  simp
theorem div_back (a b : Int) (h0 : -9223372036854775808 ≤ a) (h1 : a ≤ 9223372036854775807) : wrap64 (wrap64 (wrap64 (a.tdiv b) * b) + a.tmod b) = a := by
  obtain ⟨k2, hk2⟩ := w64_k (a.tdiv b)
  obtain ⟨k1, hk1⟩ := w64_k (wrap64 (a.tdiv b) * b)
  have hd : a.tmod b = a - b * a.tdiv b := Int.tmod_def a b
  refine w64_eq (k := -(k2 * b + k1)) ?_ h0 h1
  rw [hk1, hk2, hd, Int.sub_mul]
  have e1 : 18446744073709551616 * k2 * b = 18446744073709551616 * (k2 * b) := by rw [Int.mul_assoc]
  have e2 : a.tdiv b * b = b * a.tdiv b := Int.mul_comm _ _
  rw [e1, e2]
  omega
theorem rest_sign (a b : Int) : (a.tmod b == 0 || (decide (a.tmod b < 0) == decide (a < 0))) = true := by
  by_cases h : a.tmod b = 0
  · simp [h]
  · have e : decide (a.tmod b < 0) = decide (a < 0) := by
      by_cases ha : 0 ≤ a
      · have := Int.tmod_nonneg b ha
        rw [decide_eq_false (by omega), decide_eq_false (by omega)]
      · have h2 : 0 ≤ (-a).tmod b := Int.tmod_nonneg b (by omega)
        rw [Int.neg_tmod] at h2
        rw [decide_eq_true (show a < 0 by omega), decide_eq_true (show a.tmod b < 0 by omega)]
    rw [e]
    simp
theorem one_of_three (a b : Int) : rckN 9 a b + rckN 9 b a + rckN 10 a b = 1 := by
  show (if a < b then (1 : Int) else 0) + (if b < a then 1 else 0) + (if a = b then 1 else 0) = 1
  rcases Int.lt_trichotomy a b with h | h | h
  · rw [if_pos h, if_neg (by omega), if_neg (by omega)]; rfl
  · rw [if_neg (by omega), if_neg (by omega), if_pos h]; rfl
  · rw [if_neg (by omega), if_pos h, if_neg (by omega)]; rfl
theorem rck9_bd (a b : Int) : 0 ≤ rckN 9 a b ∧ rckN 9 a b ≤ 1 := by
  show 0 ≤ (if a < b then (1 : Int) else 0) ∧ (if a < b then (1 : Int) else 0) ≤ 1
  split <;> omega
theorem rck10_bd (a b : Int) : 0 ≤ rckN 10 a b ∧ rckN 10 a b ≤ 1 := by
  show 0 ≤ (if a = b then (1 : Int) else 0) ∧ (if a = b then (1 : Int) else 0) ≤ 1
  split <;> omega
theorem is_any (k a b : Int) (w : World) (hb0 : -9223372036854775808 ≤ b) (hb1 : b ≤ 9223372036854775807) :
    Calls Tryd.prog 10 #[.int .i8 k, .int .i64 a, .int .i64 b] w fun e w' => e = .returned (.int .i64 (rckN k a b)) ∧ w = w' := by
  have C1 := hid (fun w => reckon_any k a b w hb0 hb1)
  clear hb0 hb1
  go_enter Tryd.func10, Tryd.ntmps10
  go_wp2_with fail
  with_reducible refine (C1.out _).mono ?_
  rintro e w1 ⟨rfl, rfl⟩
  go_wp2
  go_ret
  exact ⟨rfl, rfl⟩
set_option maxHeartbeats 4000000 in
set_option maxRecDepth 100000 in
theorem OpsSum_walk (a b : Int) (w : World) (htab : Lib.TabIs Tryd.prog w "internal/strconv.uint64pow10" .u64 Lib.pow10Tab) (haa : -9223372036854775808 ≤ a ∧ a ≤ 9223372036854775807) (hbb : -9223372036854775808 ≤ b ∧ b ≤ 9223372036854775807) :
    Calls Tryd.prog 4 #[.int .i64 a, .int .i64 b] w fun e w' => e = .returned (.bool true) ∧ Below w.heap.size w w' := by
  obtain ⟨ha0, ha1⟩ := haa
  obtain ⟨hb0, hb1⟩ := hbb
  have CI := hid (fun k x y w (h : -9223372036854775808 ≤ y ∧ y ≤ 9223372036854775807) => is_any k x y w h.1 h.2)
  have C1 := hid (fun k w => reckon_any k a b w hb0 hb1)
  have CW := hid (fun w h => wakes03_any w h)
  have HT := hid htab
  have E1 := hid (rck_back a b ha0 ha1)
  have E2 := hid (rck_shl a b)
  have E3 := hid (rck_shr a)
  have E5 := hid (div_back a b ha0 ha1)
  have E6 := hid (rest_sign a b)
  have E7 := hid (one_of_three a b)
  have A63 := and63i b
  have hKM := hid (fun k h => rck_comm a b k h)
  clear htab
  go_enter Tryd.func4, Tryd.ntmps4
  go_wp2
  go_loopg [14] 6 (fun gk v14 wr => ∃ i : Nat, i ≤ 6 ∧ v14 = .int .i64 i ∧ Hid (gk + i = 6) ∧ wr = w.alloc (.cells #[.int .i8 2, .int .i8 4, .int .i8 5, .int .i8 6, .int .i8 12, .int .i8 10] 22))
  case atStart => exact ⟨0, by omega, rfl, by exact Nat.add_zero _, rfl⟩
  case round =>
    obtain ⟨i, hi, rfl, hg, rfl⟩ := hrel
    by_cases hi6 : i < 6
    · obtain ⟨k, hk, hcell⟩ : ∃ k : Int, k ∈ sumK ∧ (w.alloc (.cells #[.int .i8 2, .int .i8 4, .int .i8 5, .int .i8 6, .int .i8 12, .int .i8 10] 22)).cell? ⟨w.heap.size, i, none⟩ = some (.int .i8 k) := by
        obtain rfl | rfl | rfl | rfl | rfl | rfl : i = 0 ∨ i = 1 ∨ i = 2 ∨ i = 3 ∨ i = 4 ∨ i = 5 := by omega
        · exact ⟨2, by decide, by rw [cell_of_row _ _ _ _ _ _ (heap_alloc_new _ _)]; rfl⟩
        · exact ⟨4, by decide, by rw [cell_of_row _ _ _ _ _ _ (heap_alloc_new _ _)]; rfl⟩
        · exact ⟨5, by decide, by rw [cell_of_row _ _ _ _ _ _ (heap_alloc_new _ _)]; rfl⟩
        · exact ⟨6, by decide, by rw [cell_of_row _ _ _ _ _ _ (heap_alloc_new _ _)]; rfl⟩
        · exact ⟨12, by decide, by rw [cell_of_row _ _ _ _ _ _ (heap_alloc_new _ _)]; rfl⟩
        · exact ⟨10, by decide, by rw [cell_of_row _ _ _ _ _ _ (heap_alloc_new _ _)]; rfl⟩
      have hcm := hid (hKM.out k hk)
      clear hk A63
      go_wp2_with fail
      with_reducible refine (CI.out _ _ _ _ ⟨hb0, hb1⟩).mono ?_
      rintro e w1 ⟨rfl, rfl⟩
      go_wp2_with fail
      with_reducible refine (CI.out _ _ _ _ ⟨ha0, ha1⟩).mono ?_
      rintro e w1 ⟨rfl, rfl⟩
      rw [hcm.out]
      go_wp2
      go_roundg (6 - (i + 1))
      case measure => have := hg.out; omega
      case rel => exact ⟨i + 1, by omega, by go_num, by show _ + _ = _; omega, rfl⟩
    · obtain rfl : i = 6 := by omega
      go_wp2_with fail
      with_reducible refine (CI.out _ _ _ _ ⟨hb0, hb1⟩).mono ?_
      rintro e w1 ⟨rfl, rfl⟩
      go_wp2_with fail
      with_reducible refine (CI.out _ _ _ _ ⟨hb0, hb1⟩).mono ?_
      rintro e w1 ⟨rfl, rfl⟩
      rw [E1.out]
      go_wp2_with fail
      with_reducible refine (CI.out _ _ _ _ ⟨hb0, hb1⟩).mono ?_
      rintro e w1 ⟨rfl, rfl⟩
      go_wp2_with fail
      with_reducible refine (CI.out _ _ _ _ (by omega)).mono ?_
      rintro e w1 ⟨rfl, rfl⟩
      rw [E2.out]
      clear A63
      go_wp2_with fail
      with_reducible refine (CI.out _ _ _ _ (by omega)).mono ?_
      rintro e w1 ⟨rfl, rfl⟩
      rw [E3.out]
      go_wp2_with fail
      with_reducible refine (CI.out _ _ _ _ ⟨hb0, hb1⟩).mono ?_
      rintro e w1 ⟨rfl, rfl⟩
      rw [show rckN 11 a b = a from rfl]
      go_wp2_with fail
      with_reducible refine (C1.out _ _).mono ?_
      rintro e w1 ⟨rfl, rfl⟩
      go_wp2_with fail
      with_reducible refine (C1.out _ _).mono ?_
      rintro e w1 ⟨rfl, rfl⟩
      by_cases hz : b = 0
      · subst hz
        rw [show rckN 13 a 0 = 0 from rfl, show rckE 13 0 = 101 from rfl, show rckN 14 a 0 = 0 from rfl, show rckE 14 0 = 101 from rfl]
        go_wp2_with fail
        with_reducible refine (CW.out _ (Tab.keep HT.out (balloc (Below.refl _ _) _))).mono ?_
        rintro e w1 ⟨rfl, hb⟩
        go_wp2
        go_ret
        exact ⟨rfl, btrans (balloc (Below.refl _ _) _) hb⟩
      · have hz2 : (b == 0) = false := by simpa using hz
        rw [show rckN 13 a b = wrap64 (a.tdiv b) by show (if b = 0 then 0 else wrap64 (a.tdiv b)) = _; rw [if_neg hz], show rckE 13 b = 0 by show (if b = 0 then (101 : Int) else 0) = _; rw [if_neg hz],
          show rckN 14 a b = a.tmod b by show (if b = 0 then 0 else a.tmod b) = _; rw [if_neg hz], show rckE 14 b = 0 by show (if b = 0 then (101 : Int) else 0) = _; rw [if_neg hz]]
        generalize a.tmod b = r at *
        generalize wrap64 (a.tdiv b) = q at *
        have E5b := E5.out
        have F9 := hid (rck9_bd a b)
        have G9 := hid (rck9_bd b a)
        have F10 := hid (rck10_bd a b)
        by_cases hr0 : r = 0
        · have hr1 : (r == 0) = true := by rw [hr0]; rfl
          clear hr0 E6
          go_wp2_with fail
          with_reducible refine (CI.out _ _ _ _ ⟨hb0, hb1⟩).mono ?_
          rintro e w1 ⟨rfl, rfl⟩
          go_wp2_with fail
          with_reducible refine (CI.out _ _ _ _ ⟨ha0, ha1⟩).mono ?_
          rintro e w1 ⟨rfl, rfl⟩
          obtain ⟨f0, f1⟩ := F9.out
          obtain ⟨g0, g1⟩ := G9.out
          obtain ⟨t0, t1⟩ := F10.out
          go_wp2_with fail
          with_reducible refine (CI.out _ _ _ _ ⟨hb0, hb1⟩).mono ?_
          rintro e w1 ⟨rfl, rfl⟩
          have hE7 := E7.out
          generalize rckN 9 a b = x9 at *
          generalize rckN 9 b a = y9 at *
          generalize rckN 10 a b = z9 at *
          clear E1 E2 E3 E5 E7 F9 G9 F10 hKM
          go_wp2_with fail
          with_reducible refine (CW.out _ (Tab.keep HT.out (balloc (Below.refl _ _) _))).mono ?_
          rintro e w1 ⟨rfl, hb⟩
          go_wp2
          go_ret
          exact ⟨rfl, btrans (balloc (Below.refl _ _) _) hb⟩
        · have hr1 : (r == 0) = false := by rw [Bool.eq_false_iff]; intro h; exact hr0 (eq_of_beq h)
          have hr2 : (decide (r < 0) == decide (a < 0)) = true := by have := E6.out; rw [hr1, Bool.false_or] at this; exact this
          have hr3 : r < 0 ↔ a < 0 := by simpa using hr2
          clear hr0 E6
          go_wp2_with fail
          with_reducible refine (CI.out _ _ _ _ ⟨hb0, hb1⟩).mono ?_
          rintro e w1 ⟨rfl, rfl⟩
          go_wp2_with fail
          with_reducible refine (CI.out _ _ _ _ ⟨ha0, ha1⟩).mono ?_
          rintro e w1 ⟨rfl, rfl⟩
          obtain ⟨f0, f1⟩ := F9.out
          obtain ⟨g0, g1⟩ := G9.out
          obtain ⟨t0, t1⟩ := F10.out
          go_wp2_with fail
          with_reducible refine (CI.out _ _ _ _ ⟨hb0, hb1⟩).mono ?_
          rintro e w1 ⟨rfl, rfl⟩
          have hE7 := E7.out
          generalize rckN 9 a b = x9 at *
          generalize rckN 9 b a = y9 at *
          generalize rckN 10 a b = z9 at *
          clear E1 E2 E3 E5 E7 F9 G9 F10 hKM
          go_wp2_with fail
          with_reducible refine (CW.out _ (Tab.keep HT.out (balloc (Below.refl _ _) _))).mono ?_
          rintro e w1 ⟨rfl, hb⟩
          go_wp2
          go_ret
          exact ⟨rfl, btrans (balloc (Below.refl _ _) _) hb⟩
end Go.Proofs.YtpiagggnjppkhaaDoor
