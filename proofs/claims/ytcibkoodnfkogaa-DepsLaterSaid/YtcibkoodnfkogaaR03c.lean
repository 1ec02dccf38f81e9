/- The contracts of the document's own functions of layer 3: Check, Writes. -/
import Derived.Test.YtcibkoodnfkogaaR03b
namespace Go.Proofs.Ytcibkoodnfkogaa
open Go.RowKit
set_option linter.unusedVariables false
set_option linter.unusedSimpArgs false
set_option maxHeartbeats 4000000 in
set_option maxRecDepth 100000 in
theorem rcheck_bad (o : Op) (w : World) (h : isK o.k = false ∨ 31 < o.d ∨ 31 < o.a ∨ 31 < o.b ∨ o.n < -2147483648 ∨ 2147483647 < o.n) :
    Calls Try.prog 88 #[o.val] w fun e w' => e = .returned (.int .i64 30) ∧ Below w.heap.size w w' := by
  obtain ⟨k, d, a, b, n⟩ := o
  simp only [Op.val] at *
  cases hk : isK k
  · clear h
    go_enter Try.func88, Try.ntmps88
    go_wp2_with (go_at_call 114; refine (rof_any _ _).mono ?_; rintro e w' ⟨rfl, hb⟩; obtain ⟨hc, hf⟩ := bcell hb; have hz := bsize hb)
    go_ret
    refine ⟨rfl, ?_⟩
    have hB := below_old hb
    ((with_reducible (repeat (first | assumption | exact Below.refl _ _ | refine bset ?_ (Nat.le_refl _) _ | refine balloc ?_ _ | refine bdrew ?_ | refine bdrewN ?_ _))); done)
  rw [hk] at h
  by_cases h1 : 31 < d
  · clear h
    go_enter Try.func88, Try.ntmps88
    go_wp2_with (go_at_call 114; refine (rof_any _ _).mono ?_; rintro e w' ⟨rfl, hb⟩; obtain ⟨hc, hf⟩ := bcell hb; have hz := bsize hb)
    go_ret
    refine ⟨rfl, ?_⟩
    have hB := below_old hb
    ((with_reducible (repeat (first | assumption | exact Below.refl _ _ | refine bset ?_ (Nat.le_refl _) _ | refine balloc ?_ _ | refine bdrew ?_ | refine bdrewN ?_ _))); done)
  by_cases h2 : 31 < a
  · clear h
    go_enter Try.func88, Try.ntmps88
    go_wp2_with (go_at_call 114; refine (rof_any _ _).mono ?_; rintro e w' ⟨rfl, hb⟩; obtain ⟨hc, hf⟩ := bcell hb; have hz := bsize hb)
    go_ret
    refine ⟨rfl, ?_⟩
    have hB := below_old hb
    ((with_reducible (repeat (first | assumption | exact Below.refl _ _ | refine bset ?_ (Nat.le_refl _) _ | refine balloc ?_ _ | refine bdrew ?_ | refine bdrewN ?_ _))); done)
  by_cases h3 : 31 < b
  · clear h
    go_enter Try.func88, Try.ntmps88
    go_wp2_with (go_at_call 114; refine (rof_any _ _).mono ?_; rintro e w' ⟨rfl, hb⟩; obtain ⟨hc, hf⟩ := bcell hb; have hz := bsize hb)
    go_ret
    refine ⟨rfl, ?_⟩
    have hB := below_old hb
    ((with_reducible (repeat (first | assumption | exact Below.refl _ _ | refine bset ?_ (Nat.le_refl _) _ | refine balloc ?_ _ | refine bdrew ?_ | refine bdrewN ?_ _))); done)
  by_cases h4 : n < -2147483648
  · clear h
    go_enter Try.func88, Try.ntmps88
    go_wp2_with (go_at_call 114; refine (rof_any _ _).mono ?_; rintro e w' ⟨rfl, hb⟩; obtain ⟨hc, hf⟩ := bcell hb; have hz := bsize hb)
    go_ret
    refine ⟨rfl, ?_⟩
    have hB := below_old hb
    ((with_reducible (repeat (first | assumption | exact Below.refl _ _ | refine bset ?_ (Nat.le_refl _) _ | refine balloc ?_ _ | refine bdrew ?_ | refine bdrewN ?_ _))); done)
  · have h5 : 2147483647 < n := by simp [h1, h2, h3, h4] at h; exact h
    clear h
    go_enter Try.func88, Try.ntmps88
    go_wp2_with (go_at_call 114; refine (rof_any _ _).mono ?_; rintro e w' ⟨rfl, hb⟩; obtain ⟨hc, hf⟩ := bcell hb; have hz := bsize hb)
    go_ret
    refine ⟨rfl, ?_⟩
    have hB := below_old hb
    ((with_reducible (repeat (first | assumption | exact Below.refl _ _ | refine bset ?_ (Nat.le_refl _) _ | refine balloc ?_ _ | refine bdrew ?_ | refine bdrewN ?_ _))); done)
set_option maxHeartbeats 4000000 in
set_option maxRecDepth 100000 in
theorem rcheck_good (o : Op) (w : World) (hk : isK o.k = true) (h1 : o.d ≤ 31) (h2 : o.a ≤ 31) (h3 : o.b ≤ 31) (h4 : -2147483648 ≤ o.n) (h5 : o.n ≤ 2147483647) :
    Calls Try.prog 88 #[o.val] w fun e w' => e = .returned (.int .i64 (chkE o)) ∧ Below w.heap.size w w' := by
  obtain ⟨k, d, a, b, n⟩ := o
  simp only [Op.val] at *
  have hn : fits32 n = true := by unfold fits32; rw [decide_eq_true h4, decide_eq_true h5]; rfl
  go_enter Try.func88, Try.ntmps88
  go_wp2_with (go_at_call 114; refine (rof_any _ _).mono ?_; rintro e w' ⟨rfl, hb⟩; obtain ⟨hc, hf⟩ := bcell hb; have hz := bsize hb)
  all_goals go_ret
  all_goals refine ⟨ret_int ?_, ?_⟩
  all_goals first | (show Below _ _ _; have hB := below_old hb; ((with_reducible (repeat (first | assumption | exact Below.refl _ _ | refine bset ?_ (Nat.le_refl _) _ | refine balloc ?_ _ | refine bdrew ?_ | refine bdrewN ?_ _))); done)) | (clear hb hc hf; simp_all [chkE, chk])
/-- hayloftref03.Check. -/
theorem rcheck_any (o : Op) (w : World) :
    Calls Try.prog 88 #[o.val] w fun e w' => e = .returned (.int .i64 (chkE o)) ∧ Below w.heap.size w w' := by
  by_cases h : isK o.k = false ∨ 31 < o.d ∨ 31 < o.a ∨ 31 < o.b ∨ o.n < -2147483648 ∨ 2147483647 < o.n
  · have e : chkE o = 30 := by
      unfold chkE chk fits32
      rw [if_neg]
      simp
      intro a1 a2 a3 a4 a5 a6
      rw [a1] at h
      simp at h
      omega
    rw [e]
    exact rcheck_bad o w h
  · simp only [not_or, Bool.not_eq_false, Int.not_lt] at h
    exact rcheck_good o w h.1 h.2.1 h.2.2.1 h.2.2.2.1 h.2.2.2.2.1 h.2.2.2.2.2
set_option maxHeartbeats 4000000 in
set_option maxRecDepth 100000 in
theorem rwrites_any (o : Op) (w : World) :
    Calls Try.prog 104 #[o.val] w fun e w' => e = .returned (.tuple #[.int .u8 (wrN o), .bool (wrB o)]) ∧ Below w.heap.size w w' := by
  have hck := fun w => rcheck_any o w
  obtain ⟨k, d, a, b, n⟩ := o
  simp only [Op.val] at *
  cases hk : chk ⟨k, d, a, b, n⟩
  · have e1 : wrB ⟨k, d, a, b, n⟩ = false := by unfold wrB; rw [hk, Bool.and_false]
    have e2 : wrN ⟨k, d, a, b, n⟩ = 0 := by unfold wrN; rw [e1]; rfl
    have e3 : chkE ⟨k, d, a, b, n⟩ = 30 := by unfold chkE; rw [hk]; rfl
    rw [e1, e2]
    rw [e3] at hck
    have HC := hid hck
    clear e1 e2 e3 hck hk
    go_enter Try.func104, Try.ntmps104
    go_wp2_with (first | (go_at_call 114; refine (rof_any _ _).mono ?_; rintro e w' ⟨rfl, hb⟩; obtain ⟨hc, hf⟩ := bcell hb; have hz := bsize hb) | (go_at_call 88; refine (HC.out _).mono ?_; rintro e w' ⟨rfl, hb2⟩; obtain ⟨hc2, hf2⟩ := bcell hb2; have hz2 := bsize hb2))
    go_ret2
    refine ⟨rfl, ?_⟩
    have hB := below_old hb
    have hB := below_step hB hb2
    ((with_reducible (repeat (first | assumption | exact Below.refl _ _ | refine bset ?_ (Nat.le_refl _) _ | refine balloc ?_ _ | refine bdrew ?_ | refine bdrewN ?_ _))); done)
  cases hd : (shp k).d
  · have e1 : wrB ⟨k, d, a, b, n⟩ = false := by unfold wrB; rw [hd]; rfl
    have e2 : wrN ⟨k, d, a, b, n⟩ = 0 := by unfold wrN; rw [e1]; rfl
    have e3 : chkE ⟨k, d, a, b, n⟩ = 0 := by unfold chkE; rw [hk]; rfl
    rw [e1, e2]
    rw [e3] at hck
    have HC := hid hck
    clear e1 e2 e3 hck hk
    go_enter Try.func104, Try.ntmps104
    go_wp2_with (first | (go_at_call 114; refine (rof_any _ _).mono ?_; rintro e w' ⟨rfl, hb⟩; obtain ⟨hc, hf⟩ := bcell hb; have hz := bsize hb) | (go_at_call 88; refine (HC.out _).mono ?_; rintro e w' ⟨rfl, hb2⟩; obtain ⟨hc2, hf2⟩ := bcell hb2; have hz2 := bsize hb2))
    go_ret2
    refine ⟨rfl, ?_⟩
    have hB := below_old hb
    have hB := below_step hB hb2
    ((with_reducible (repeat (first | assumption | exact Below.refl _ _ | refine bset ?_ (Nat.le_refl _) _ | refine balloc ?_ _ | refine bdrew ?_ | refine bdrewN ?_ _))); done)
  · have e1 : wrB ⟨k, d, a, b, n⟩ = true := by unfold wrB; rw [hd, hk]; rfl
    have e2 : wrN ⟨k, d, a, b, n⟩ = d := by unfold wrN; rw [e1]; rfl
    have e3 : chkE ⟨k, d, a, b, n⟩ = 0 := by unfold chkE; rw [hk]; rfl
    rw [e1, e2]
    rw [e3] at hck
    have HC := hid hck
    clear e1 e2 e3 hck hk
    go_enter Try.func104, Try.ntmps104
    go_wp2_with (first | (go_at_call 114; refine (rof_any _ _).mono ?_; rintro e w' ⟨rfl, hb⟩; obtain ⟨hc, hf⟩ := bcell hb; have hz := bsize hb) | (go_at_call 88; refine (HC.out _).mono ?_; rintro e w' ⟨rfl, hb2⟩; obtain ⟨hc2, hf2⟩ := bcell hb2; have hz2 := bsize hb2))
    go_ret2
    refine ⟨rfl, ?_⟩
    have hB := below_old hb
    have hB := below_step hB hb2
    ((with_reducible (repeat (first | assumption | exact Below.refl _ _ | refine bset ?_ (Nat.le_refl _) _ | refine balloc ?_ _ | refine bdrew ?_ | refine bdrewN ?_ _))); done)
end Go.Proofs.Ytcibkoodnfkogaa
