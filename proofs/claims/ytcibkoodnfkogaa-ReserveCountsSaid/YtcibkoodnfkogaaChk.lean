/- The contracts of bits.Fits at 32 bits and of ops.Check. -/
import Derived.Test.YtcibkoodnfkogaaOf2
namespace Go.Proofs.Ytcibkoodnfkogaa
open Go.RowKit
set_option linter.unusedVariables false
set_option linter.unusedSimpArgs false

def fits32 (n : Int) : Bool := decide (-2147483648 ≤ n) && decide (n ≤ 2147483647)
/-- Is it an operation? -/
def chk (o : Op) : Bool := isK o.k && decide (o.d ≤ 31) && decide (o.a ≤ 31) && decide (o.b ≤ 31) && fits32 o.n &&
  ((shp o.k).d || o.d == 0) && ((shp o.k).a || o.a == 0) && ((shp o.k).b || (shp o.k).num || o.b == 0) && ((shp o.k).imm || o.n == 0)

theorem wrap_u64 (n : Int) : IntKind.u64.wrap n = n % 18446744073709551616 := by simp [IntKind.wrap, IntKind.bits, IntKind.signed]
theorem sg32 (x : Int) (h0 : -9223372036854775808 ≤ x) (h1 : x ≤ 9223372036854775807) : (wrap64 (x % 18446744073709551616 * 4294967296 % 18446744073709551616) / 4294967296 == x) = fits32 x := by
  rw [Bool.eq_iff_iff]
  simp only [fits32, beq_iff_eq, Bool.and_eq_true, decide_eq_true_eq]
  unfold wrap64
  omega
set_option maxHeartbeats 4000000 in
set_option maxRecDepth 100000 in
theorem fits_any (x : Int) (w : World) (h0 : -9223372036854775808 ≤ x) (h1 : x ≤ 9223372036854775807) :
    Calls Try.prog 106 #[.int .i64 x, .int .i64 32] w fun e w' => e = .returned (.bool (fits32 x)) ∧ Below w.heap.size w w' := by
  go_enter Try.func106, Try.ntmps106
  go_wp2
  go_ret
  refine ⟨ret_bool ?_, Below.refl _ _⟩
  rw [← sg32 x h0 h1]
  simp only [wrap_u64]
/-- The error of an operation. -/
def chkE (o : Op) : Int := if chk o then 0 else 30
set_option maxHeartbeats 4000000 in
set_option maxRecDepth 100000 in
theorem check_any (o : Op) (w : World) (ho : o.wf) :
    Calls Try.prog 72 #[o.val] w fun e w' => e = .returned (.int .i64 (chkE o)) ∧ Below w.heap.size w w' := by
  obtain ⟨k, d, a, b, n⟩ := o
  obtain ⟨_, _, d0, d1, a0, a1, b0, b1, n0, n1⟩ := ho
  simp only [Op.val] at *
  cases hk : isK k
  · go_enter Try.func72, Try.ntmps72
    go_wp2_with (go_at_call 105; refine (of_any _ _).mono ?_; rintro e w' ⟨rfl, hb⟩; obtain ⟨hc, hf⟩ := bcell hb; have hz := bsize hb)
    go_ret
    refine ⟨ret_int (by simp [chkE, chk, hk]), ?_⟩
    have hB := below_old hb
    ((with_reducible (repeat (first | assumption | exact Below.refl _ _ | refine bset ?_ (Nat.le_refl _) _ | refine balloc ?_ _ | refine bdrew ?_ | refine bdrewN ?_ _))); done)
  cases hn : fits32 n
  · go_enter Try.func72, Try.ntmps72
    go_wp2_with (first | (go_at_call 105; refine (of_any _ _).mono ?_; rintro e w' ⟨rfl, hb⟩; obtain ⟨hc, hf⟩ := bcell hb; have hz := bsize hb) | (go_at_call 106; refine (fits_any _ _ (by omega) (by omega)).mono ?_; rintro e w' ⟨rfl, hb2⟩; obtain ⟨hc2, hf2⟩ := bcell hb2; have hz2 := bsize hb2))
    all_goals go_ret
    all_goals refine ⟨ret_int (by simp [chkE, chk, hn]), ?_⟩
    all_goals have hB := below_old hb
    all_goals first | (have hB := below_step hB hb2; ((with_reducible (repeat (first | assumption | exact Below.refl _ _ | refine bset ?_ (Nat.le_refl _) _ | refine balloc ?_ _ | refine bdrew ?_ | refine bdrewN ?_ _))); done)) | ((with_reducible (repeat (first | assumption | exact Below.refl _ _ | refine bset ?_ (Nat.le_refl _) _ | refine balloc ?_ _ | refine bdrew ?_ | refine bdrewN ?_ _))); done)
  by_cases hd : d ≤ 31
  · by_cases ha : a ≤ 31
    · by_cases hbb : b ≤ 31
      · go_enter Try.func72, Try.ntmps72
        go_wp2_with (first | (go_at_call 105; refine (of_any _ _).mono ?_; rintro e w' ⟨rfl, hb⟩; obtain ⟨hc, hf⟩ := bcell hb; have hz := bsize hb) | (go_at_call 106; refine (fits_any _ _ (by omega) (by omega)).mono ?_; rintro e w' ⟨rfl, hb2⟩; obtain ⟨hc2, hf2⟩ := bcell hb2; have hz2 := bsize hb2))
        all_goals go_ret
        all_goals refine ⟨ret_int ?_, ?_⟩
        all_goals first | (show Below _ _ _; have hB := below_old hb; have hB := below_step hB hb2; ((with_reducible (repeat (first | assumption | exact Below.refl _ _ | refine bset ?_ (Nat.le_refl _) _ | refine balloc ?_ _ | refine bdrew ?_ | refine bdrewN ?_ _))); done)) | (clear hb hc hf hb2 hc2 hf2; simp_all [chkE, chk])
      · have hq : chkE ⟨k, d, a, b, n⟩ = 30 := by unfold chkE chk; rw [if_neg (by simp; omega)]
        rw [hq]
        clear hq
        go_enter Try.func72, Try.ntmps72
        go_wp2_with (go_at_call 105; refine (of_any _ _).mono ?_; rintro e w' ⟨rfl, hb⟩; obtain ⟨hc, hf⟩ := bcell hb; have hz := bsize hb)
        all_goals go_ret
        all_goals refine ⟨rfl, ?_⟩
        all_goals have hB := below_old hb
        all_goals ((with_reducible (repeat (first | assumption | exact Below.refl _ _ | refine bset ?_ (Nat.le_refl _) _ | refine balloc ?_ _ | refine bdrew ?_ | refine bdrewN ?_ _))); done)
    · have hq : chkE ⟨k, d, a, b, n⟩ = 30 := by unfold chkE chk; rw [if_neg (by simp; omega)]
      rw [hq]
      clear hq
      go_enter Try.func72, Try.ntmps72
      go_wp2_with (go_at_call 105; refine (of_any _ _).mono ?_; rintro e w' ⟨rfl, hb⟩; obtain ⟨hc, hf⟩ := bcell hb; have hz := bsize hb)
      all_goals go_ret
      all_goals refine ⟨rfl, ?_⟩
      all_goals have hB := below_old hb
      all_goals ((with_reducible (repeat (first | assumption | exact Below.refl _ _ | refine bset ?_ (Nat.le_refl _) _ | refine balloc ?_ _ | refine bdrew ?_ | refine bdrewN ?_ _))); done)
  · have hq : chkE ⟨k, d, a, b, n⟩ = 30 := by unfold chkE chk; rw [if_neg (by simp; omega)]
    rw [hq]
    clear hq
    go_enter Try.func72, Try.ntmps72
    go_wp2_with (go_at_call 105; refine (of_any _ _).mono ?_; rintro e w' ⟨rfl, hb⟩; obtain ⟨hc, hf⟩ := bcell hb; have hz := bsize hb)
    all_goals go_ret
    all_goals refine ⟨rfl, ?_⟩
    all_goals have hB := below_old hb
    all_goals ((with_reducible (repeat (first | assumption | exact Below.refl _ _ | refine bset ?_ (Nat.le_refl _) _ | refine balloc ?_ _ | refine bdrew ?_ | refine bdrewN ?_ _))); done)
end Go.Proofs.Ytcibkoodnfkogaa
