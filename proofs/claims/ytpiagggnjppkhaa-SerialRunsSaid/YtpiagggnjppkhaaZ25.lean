/- The contract of the document's own table of kinds (hayloftref03.Of). -/
import Derived.Test.YtpiagggnjppkhaaZ1
import Derived.Test.YtpiagggnjppkhaaZ15
import Derived.Test.YtpiagggnjppkhaaZ3
namespace Go.Proofs.Ytpiagggnjppkhaa
open Go.RowKit
set_option linter.unusedVariables false
set_option linter.unusedSimpArgs false
section
open Go.RowKit
/-- A row of the document's table. -/
def Shp.row (s : Shp) : Value := .agg #[.string s.name, .int .i64 s.cls, .bool s.d, .bool s.a, .bool s.b, .bool s.num, .bool s.imm]
set_option maxHeartbeats 4000000 in
set_option maxRecDepth 100000 in
theorem turns_some (k : Int) (w : World) (h : k = 18 ∨ k = 19 ∨ k = 20 ∨ k = 21 ∨ k = 22 ∨ k = 23) :
    Calls Try.prog 119 #[.int .i8 k] w fun e w' => e = .returned (.tuple #[(shp k).row, .bool true]) ∧ Below w.heap.size w w' := by
  rcases h with rfl | rfl | rfl | rfl | rfl | rfl
  all_goals
    go_enter Try.func119, Try.ntmps119
    go_wp2
    refine bodyPost_ret (v := .tuple #[.agg #[_, _, _, _, _, _, _], .bool true]) (by simp [results, Try.results119, go_sem]; first | rfl | exact ⟨rfl, rfl, rfl, rfl, rfl, rfl, rfl⟩) rfl ⟨rfl, ?_⟩
    ((with_reducible (repeat (first | assumption | exact Below.refl _ _ | refine bset ?_ (Nat.le_refl _) _ | refine balloc ?_ _ | refine bdrew ?_ | refine bdrewN ?_ _))); done)
set_option maxHeartbeats 4000000 in
set_option maxRecDepth 100000 in
theorem turns_none (k : Int) (w : World) (h18 : (k == 18) = false) (h19 : (k == 19) = false) (h20 : (k == 20) = false) (h21 : (k == 21) = false) (h22 : (k == 22) = false) (h23 : (k == 23) = false) :
    Calls Try.prog 119 #[.int .i8 k] w fun e w' => e = .returned (.tuple #[noShp.row, .bool false]) ∧ Below w.heap.size w w' := by
  go_enter Try.func119, Try.ntmps119
  go_wp2
  refine bodyPost_ret (v := .tuple #[noShp.row, .bool false]) (by simp [results, Try.results119, go_sem, noShp, Shp.row]) rfl ⟨rfl, ?_⟩
  ((with_reducible (repeat (first | assumption | exact Below.refl _ _ | refine bset ?_ (Nat.le_refl _) _ | refine balloc ?_ _ | refine bdrew ?_ | refine bdrewN ?_ _))); done)
set_option maxHeartbeats 4000000 in
set_option maxRecDepth 100000 in
theorem rof_low (k : Int) (w : World) (h : k = 0 ∨ k = 1 ∨ k = 11 ∨ k = 15 ∨ k = 16 ∨ k = 17) :
    Calls Try.prog 116 #[.int .i8 k] w fun e w' => e = .returned (.tuple #[(shp k).row, .bool true]) ∧ Below w.heap.size w w' := by
  rcases h with rfl | rfl | rfl | rfl | rfl | rfl
  all_goals
    go_enter Try.func116, Try.ntmps116
    go_wp2
    refine bodyPost_ret (v := .tuple #[.agg #[_, _, _, _, _, _, _], .bool true]) (by simp [results, Try.results116, go_sem]; first | rfl | exact ⟨rfl, rfl, rfl, rfl, rfl, rfl, rfl⟩) rfl ⟨rfl, ?_⟩
    ((with_reducible (repeat (first | assumption | exact Below.refl _ _ | refine bset ?_ (Nat.le_refl _) _ | refine balloc ?_ _ | refine bdrew ?_ | refine bdrewN ?_ _))); done)
set_option maxHeartbeats 4000000 in
set_option maxRecDepth 100000 in
theorem rof_mid (k : Int) (w : World) (h : k = 2 ∨ k = 3 ∨ k = 4 ∨ k = 5 ∨ k = 6 ∨ k = 7) :
    Calls Try.prog 116 #[.int .i8 k] w fun e w' => e = .returned (.tuple #[(shp k).row, .bool true]) ∧ Below w.heap.size w w' := by
  rcases h with rfl | rfl | rfl | rfl | rfl | rfl
  all_goals
    go_enter Try.func116, Try.ntmps116
    go_wp2
    refine bodyPost_ret (v := .tuple #[.agg #[_, _, _, _, _, _, _], .bool true]) (by simp [results, Try.results116, go_sem]; first | rfl | exact ⟨rfl, rfl, rfl, rfl, rfl, rfl, rfl⟩) rfl ⟨rfl, ?_⟩
    ((with_reducible (repeat (first | assumption | exact Below.refl _ _ | refine bset ?_ (Nat.le_refl _) _ | refine balloc ?_ _ | refine bdrew ?_ | refine bdrewN ?_ _))); done)
set_option maxHeartbeats 4000000 in
set_option maxRecDepth 100000 in
theorem rof_mid2 (k : Int) (w : World) (h : k = 8 ∨ k = 9 ∨ k = 10 ∨ k = 12 ∨ k = 13 ∨ k = 14) :
    Calls Try.prog 116 #[.int .i8 k] w fun e w' => e = .returned (.tuple #[(shp k).row, .bool true]) ∧ Below w.heap.size w w' := by
  rcases h with rfl | rfl | rfl | rfl | rfl | rfl
  all_goals
    go_enter Try.func116, Try.ntmps116
    go_wp2
    refine bodyPost_ret (v := .tuple #[.agg #[_, _, _, _, _, _, _], .bool true]) (by simp [results, Try.results116, go_sem]; first | rfl | exact ⟨rfl, rfl, rfl, rfl, rfl, rfl, rfl⟩) rfl ⟨rfl, ?_⟩
    ((with_reducible (repeat (first | assumption | exact Below.refl _ _ | refine bset ?_ (Nat.le_refl _) _ | refine balloc ?_ _ | refine bdrew ?_ | refine bdrewN ?_ _))); done)
end
/- The contracts of the document's own functions of layer 3: Of, Class, Check, Writes. -/
section
open Go.RowKit
set_option maxHeartbeats 4000000 in
set_option maxRecDepth 100000 in
theorem rof_high (k : Int) (w : World) (h : k = 18 ∨ k = 19 ∨ k = 20 ∨ k = 21 ∨ k = 22 ∨ k = 23) :
    Calls Try.prog 116 #[.int .i8 k] w fun e w' => e = .returned (.tuple #[(shp k).row, .bool true]) ∧ Below w.heap.size w w' := by
  rcases h with rfl | rfl | rfl | rfl | rfl | rfl
  all_goals
    go_enter Try.func116, Try.ntmps116
    go_wp2_with (go_at_call 119; refine (turns_some _ _ (by decide)).mono ?_; rintro e w' ⟨rfl, hb⟩; obtain ⟨hc, hf⟩ := bcell hb; have hz := bsize hb; simp only [Shp.row])
    refine bodyPost_ret (v := .tuple #[.agg #[_, _, _, _, _, _, _], .bool true]) (by simp [results, Try.results116, go_sem, hc]) rfl ⟨rfl, ?_⟩
    have hB := below_old hb
    ((with_reducible (repeat (first | assumption | exact Below.refl _ _ | refine bset ?_ (Nat.le_refl _) _ | refine balloc ?_ _ | refine bdrew ?_ | refine bdrewN ?_ _))); done)
set_option maxHeartbeats 4000000 in
set_option maxRecDepth 100000 in
theorem rof_none (k : Int) (w : World) (h : ¬ (0 ≤ k ∧ k < 24)) :
    Calls Try.prog 116 #[.int .i8 k] w fun e w' => e = .returned (.tuple #[noShp.row, .bool false]) ∧ Below w.heap.size w w' := by
  have ht := fun w => turns_none k w (ne_beq (by omega)) (ne_beq (by omega)) (ne_beq (by omega)) (ne_beq (by omega)) (ne_beq (by omega)) (ne_beq (by omega))
  have HT := hid ht
  have h0 := ne_beq (show ¬ k = 0 by omega)
  have h1 := ne_beq (show ¬ k = 1 by omega)
  have h2 := ne_beq (show ¬ k = 2 by omega)
  have h3 := ne_beq (show ¬ k = 3 by omega)
  have h4 := ne_beq (show ¬ k = 4 by omega)
  have h5 := ne_beq (show ¬ k = 5 by omega)
  have h6 := ne_beq (show ¬ k = 6 by omega)
  have h7 := ne_beq (show ¬ k = 7 by omega)
  have h8 := ne_beq (show ¬ k = 8 by omega)
  have h9 := ne_beq (show ¬ k = 9 by omega)
  have h10 := ne_beq (show ¬ k = 10 by omega)
  have h11 := ne_beq (show ¬ k = 11 by omega)
  have h12 := ne_beq (show ¬ k = 12 by omega)
  have h13 := ne_beq (show ¬ k = 13 by omega)
  have h14 := ne_beq (show ¬ k = 14 by omega)
  have h15 := ne_beq (show ¬ k = 15 by omega)
  have h16 := ne_beq (show ¬ k = 16 by omega)
  have h17 := ne_beq (show ¬ k = 17 by omega)
  clear h ht
  go_enter Try.func116, Try.ntmps116
  go_wp2_with (go_at_call 119; refine (HT.out _).mono ?_; rintro e w' ⟨rfl, hb⟩; obtain ⟨hc, hf⟩ := bcell hb; have hz := bsize hb; simp only [noShp, Shp.row])
  refine bodyPost_ret (v := .tuple #[noShp.row, .bool false]) (by simp [results, Try.results116, go_sem, hc, noShp, Shp.row]) rfl ⟨rfl, ?_⟩
  have hB := below_old hb
  ((with_reducible (repeat (first | assumption | exact Below.refl _ _ | refine bset ?_ (Nat.le_refl _) _ | refine balloc ?_ _ | refine bdrew ?_ | refine bdrewN ?_ _))); done)
/-- hayloftref03.Of. -/
theorem rof_any (k : Int) (w : World) : Calls Try.prog 116 #[.int .i8 k] w fun e w' => e = .returned (.tuple #[.agg #[.string (shp k).name, .int .i64 (shp k).cls, .bool (shp k).d, .bool (shp k).a, .bool (shp k).b, .bool (shp k).num, .bool (shp k).imm], .bool (isK k)]) ∧ Below w.heap.size w w' := by
  by_cases h : 0 ≤ k ∧ k < 24
  · have e : isK k = true := by unfold isK; rw [decide_eq_true h.1, decide_eq_true h.2]; rfl
    rw [e]
    by_cases h1 : k = 0 ∨ k = 1 ∨ k = 11 ∨ k = 15 ∨ k = 16 ∨ k = 17
    · exact rof_low k w h1
    by_cases h2 : k = 2 ∨ k = 3 ∨ k = 4 ∨ k = 5 ∨ k = 6 ∨ k = 7
    · exact rof_mid k w h2
    by_cases h3 : k = 8 ∨ k = 9 ∨ k = 10 ∨ k = 12 ∨ k = 13 ∨ k = 14
    · exact rof_mid2 k w h3
    exact rof_high k w (by omega)
  · have e : isK k = false := by
      unfold isK
      by_cases h0 : 0 ≤ k
      · rw [decide_eq_false (fun h1 => h ⟨h0, h1⟩), Bool.and_false]
      · rw [decide_eq_false h0, Bool.false_and]
    rw [e, shp_none k h]
    exact rof_none k w h
set_option maxHeartbeats 4000000 in
set_option maxRecDepth 100000 in
theorem rclass_any (k : Int) (w : World) :
    Calls Try.prog 104 #[.int .i8 k] w fun e w' => e = .returned (.tuple #[.int .i64 (clsN k), .bool (clsB k)]) ∧ Below w.heap.size w w' := by
  have hs := shp_cls k
  cases hk : isK k
  · have e1 : clsB k = false := by unfold clsB; rw [hk]; rfl
    have e2 : clsN k = 0 := by unfold clsN; rw [e1]; rfl
    rw [e1, e2]
    clear e1 e2
    go_enter Try.func104, Try.ntmps104
    go_wp2_with (go_at_call 116; refine (rof_any _ _).mono ?_; rintro e w' ⟨rfl, hb⟩)
    go_ret2
    refine ⟨rfl, ?_⟩
    ((with_reducible (repeat (first | assumption | exact Below.refl _ _ | refine bset ?_ (Nat.le_refl _) _ | refine balloc ?_ _ | refine bdrew ?_ | refine bdrewN ?_ _))); done)
  by_cases h0 : (shp k).cls < 0
  · have e1 : clsB k = false := by unfold clsB; rw [decide_eq_false (by omega), Bool.and_false]
    have e2 : clsN k = 0 := by unfold clsN; rw [e1]; rfl
    rw [e1, e2]
    clear e1 e2
    go_enter Try.func104, Try.ntmps104
    go_wp2_with (go_at_call 116; refine (rof_any _ _).mono ?_; rintro e w' ⟨rfl, hb⟩)
    go_ret2
    refine ⟨rfl, ?_⟩
    ((with_reducible (repeat (first | assumption | exact Below.refl _ _ | refine bset ?_ (Nat.le_refl _) _ | refine balloc ?_ _ | refine bdrew ?_ | refine bdrewN ?_ _))); done)
  · have e1 : clsB k = true := by unfold clsB; rw [hk, decide_eq_true (by omega)]; rfl
    have e2 : clsN k = (shp k).cls := by unfold clsN; rw [e1]; rfl
    rw [e1, e2]
    clear e1 e2 hs
    go_enter Try.func104, Try.ntmps104
    go_wp2_with (go_at_call 116; refine (rof_any _ _).mono ?_; rintro e w' ⟨rfl, hb⟩)
    go_ret2
    refine ⟨rfl, ?_⟩
    ((with_reducible (repeat (first | assumption | exact Below.refl _ _ | refine bset ?_ (Nat.le_refl _) _ | refine balloc ?_ _ | refine bdrew ?_ | refine bdrewN ?_ _))); done)
end
/- The contracts of the document's own functions of layer 3: Check, Writes. -/
section
open Go.RowKit
set_option maxHeartbeats 4000000 in
set_option maxRecDepth 100000 in
theorem rcheck_bad (o : Op) (w : World) (h : isK o.k = false ∨ 31 < o.d ∨ 31 < o.a ∨ 31 < o.b ∨ o.n < -2147483648 ∨ 2147483647 < o.n) :
    Calls Try.prog 112 #[o.val] w fun e w' => e = .returned (.int .i64 30) ∧ Below w.heap.size w w' := by
  obtain ⟨k, d, a, b, n⟩ := o
  simp only [Op.val] at *
  cases hk : isK k
  · clear h
    go_enter Try.func112, Try.ntmps112
    go_wp2_with (go_at_call 116; refine (rof_any _ _).mono ?_; rintro e w' ⟨rfl, hb⟩; obtain ⟨hc, hf⟩ := bcell hb; have hz := bsize hb)
    go_ret
    refine ⟨rfl, ?_⟩
    have hB := below_old hb
    ((with_reducible (repeat (first | assumption | exact Below.refl _ _ | refine bset ?_ (Nat.le_refl _) _ | refine balloc ?_ _ | refine bdrew ?_ | refine bdrewN ?_ _))); done)
  rw [hk] at h
  by_cases h1 : 31 < d
  · clear h
    go_enter Try.func112, Try.ntmps112
    go_wp2_with (go_at_call 116; refine (rof_any _ _).mono ?_; rintro e w' ⟨rfl, hb⟩; obtain ⟨hc, hf⟩ := bcell hb; have hz := bsize hb)
    go_ret
    refine ⟨rfl, ?_⟩
    have hB := below_old hb
    ((with_reducible (repeat (first | assumption | exact Below.refl _ _ | refine bset ?_ (Nat.le_refl _) _ | refine balloc ?_ _ | refine bdrew ?_ | refine bdrewN ?_ _))); done)
  by_cases h2 : 31 < a
  · clear h
    go_enter Try.func112, Try.ntmps112
    go_wp2_with (go_at_call 116; refine (rof_any _ _).mono ?_; rintro e w' ⟨rfl, hb⟩; obtain ⟨hc, hf⟩ := bcell hb; have hz := bsize hb)
    go_ret
    refine ⟨rfl, ?_⟩
    have hB := below_old hb
    ((with_reducible (repeat (first | assumption | exact Below.refl _ _ | refine bset ?_ (Nat.le_refl _) _ | refine balloc ?_ _ | refine bdrew ?_ | refine bdrewN ?_ _))); done)
  by_cases h3 : 31 < b
  · clear h
    go_enter Try.func112, Try.ntmps112
    go_wp2_with (go_at_call 116; refine (rof_any _ _).mono ?_; rintro e w' ⟨rfl, hb⟩; obtain ⟨hc, hf⟩ := bcell hb; have hz := bsize hb)
    go_ret
    refine ⟨rfl, ?_⟩
    have hB := below_old hb
    ((with_reducible (repeat (first | assumption | exact Below.refl _ _ | refine bset ?_ (Nat.le_refl _) _ | refine balloc ?_ _ | refine bdrew ?_ | refine bdrewN ?_ _))); done)
  by_cases h4 : n < -2147483648
  · clear h
    go_enter Try.func112, Try.ntmps112
    go_wp2_with (go_at_call 116; refine (rof_any _ _).mono ?_; rintro e w' ⟨rfl, hb⟩; obtain ⟨hc, hf⟩ := bcell hb; have hz := bsize hb)
    go_ret
    refine ⟨rfl, ?_⟩
    have hB := below_old hb
    ((with_reducible (repeat (first | assumption | exact Below.refl _ _ | refine bset ?_ (Nat.le_refl _) _ | refine balloc ?_ _ | refine bdrew ?_ | refine bdrewN ?_ _))); done)
  · have h5 : 2147483647 < n := by simp [h1, h2, h3, h4] at h; exact h
    clear h
    go_enter Try.func112, Try.ntmps112
    go_wp2_with (go_at_call 116; refine (rof_any _ _).mono ?_; rintro e w' ⟨rfl, hb⟩; obtain ⟨hc, hf⟩ := bcell hb; have hz := bsize hb)
    go_ret
    refine ⟨rfl, ?_⟩
    have hB := below_old hb
    ((with_reducible (repeat (first | assumption | exact Below.refl _ _ | refine bset ?_ (Nat.le_refl _) _ | refine balloc ?_ _ | refine bdrew ?_ | refine bdrewN ?_ _))); done)
set_option maxHeartbeats 4000000 in
set_option maxRecDepth 100000 in
theorem rcheck_good (o : Op) (w : World) (hk : isK o.k = true) (h1 : o.d ≤ 31) (h2 : o.a ≤ 31) (h3 : o.b ≤ 31) (h4 : -2147483648 ≤ o.n) (h5 : o.n ≤ 2147483647) :
    Calls Try.prog 112 #[o.val] w fun e w' => e = .returned (.int .i64 (chkE o)) ∧ Below w.heap.size w w' := by
  obtain ⟨k, d, a, b, n⟩ := o
  simp only [Op.val] at *
  have hn : fits32 n = true := by unfold fits32; rw [decide_eq_true h4, decide_eq_true h5]; rfl
  go_enter Try.func112, Try.ntmps112
  go_wp2_with (go_at_call 116; refine (rof_any _ _).mono ?_; rintro e w' ⟨rfl, hb⟩; obtain ⟨hc, hf⟩ := bcell hb; have hz := bsize hb)
  all_goals go_ret
  all_goals refine ⟨ret_int ?_, ?_⟩
  all_goals first | (show Below _ _ _; have hB := below_old hb; ((with_reducible (repeat (first | assumption | exact Below.refl _ _ | refine bset ?_ (Nat.le_refl _) _ | refine balloc ?_ _ | refine bdrew ?_ | refine bdrewN ?_ _))); done)) | (clear hb hc hf; simp_all [chkE, chk])
/-- hayloftref03.Check. -/
theorem rcheck_any (o : Op) (w : World) :
    Calls Try.prog 112 #[o.val] w fun e w' => e = .returned (.int .i64 (chkE o)) ∧ Below w.heap.size w w' := by
  by_cases h : isK o.k = false ∨ 31 < o.d ∨ 31 < o.a ∨ 31 < o.b ∨ o.n < -2147483648 ∨ 2147483647 < o.n
  · have e : chkE o = 30 := by
      unfold chkE chk fits32
      rw [if_neg]
      simp
      intro a1 a2 a3 a4 a5 a6
      rw [a1] at h
      simp at h
      omega
    rw [e]
    exact rcheck_bad o w h
  · simp only [not_or, Bool.not_eq_false, Int.not_lt] at h
    exact rcheck_good o w h.1 h.2.1 h.2.2.1 h.2.2.2.1 h.2.2.2.2.1 h.2.2.2.2.2
end
/- The document's Op, all, End for programs. -/
section
open Go.RowKit
set_option maxHeartbeats 4000000 in
set_option maxRecDepth 100000 in
theorem rop_any (o : Op) (w : World) :
    Calls Try.prog 97 #[o.val] w fun e w' => e = .returned (.bool (opOk o)) ∧ Below w.heap.size w w' := by
  by_cases h1 : o.k < 1
  · have e0 := hid (show opOk o = false by unfold opOk; rw [decide_eq_false (by omega)]; rfl)
    go_enter Try.func97, Try.ntmps97
    go_wp2
    go_ret
    refine ⟨ret_bool e0.out.symm, ?_⟩
    ((with_reducible (repeat (first | assumption | exact Below.refl _ _ | refine bset ?_ (Nat.le_refl _) _ | refine balloc ?_ _ | refine bdrew ?_ | refine bdrewN ?_ _))); done)
  by_cases h2 : 17 < o.k
  · have e0 := hid (show opOk o = false by unfold opOk; rw [decide_eq_false (show ¬ o.k ≤ 17 by omega), Bool.and_false]; rfl)
    have h3 : ¬ o.k ≤ 17 := by omega
    have h4 : 1 ≤ o.k := by omega
    go_enter Try.func97, Try.ntmps97
    go_wp2
    go_ret
    refine ⟨ret_bool e0.out.symm, ?_⟩
    ((with_reducible (repeat (first | assumption | exact Below.refl _ _ | refine bset ?_ (Nat.le_refl _) _ | refine balloc ?_ _ | refine bdrew ?_ | refine bdrewN ?_ _))); done)
  have h4 : 1 ≤ o.k := by omega
  have h5 : o.k ≤ 17 := by omega
  have hck := hid (fun w => rcheck_any o w)
  cases h3 : chk o
  · have e0 := hid (show opOk o = false by unfold opOk; rw [h3, Bool.and_false])
    have e1 : chkE o = 30 := by unfold chkE; rw [h3]; rfl
    rw [e1] at hck
    clear e1 h3
    go_enter Try.func97, Try.ntmps97
    go_wp2_with fail
    with_reducible refine (hck.out _).mono ?_
    rintro e w1 ⟨rfl, hb⟩
    obtain ⟨hc, hf⟩ := bcell hb
    go_wp2
    go_ret
    refine ⟨ret_bool e0.out.symm, btrans (a := w) ?_ hb⟩
    ((with_reducible (repeat (first | assumption | exact Below.refl _ _ | refine bset ?_ (Nat.le_refl _) _ | refine balloc ?_ _ | refine bdrew ?_ | refine bdrewN ?_ _))); done)
  · have e0 := hid (show opOk o = true by unfold opOk; rw [h3, decide_eq_true h4, decide_eq_true h5]; rfl)
    have e1 : chkE o = 0 := by unfold chkE; rw [h3]; rfl
    rw [e1] at hck
    clear e1 h3
    go_enter Try.func97, Try.ntmps97
    go_wp2_with fail
    with_reducible refine (hck.out _).mono ?_
    rintro e w1 ⟨rfl, hb⟩
    obtain ⟨hc, hf⟩ := bcell hb
    go_wp2
    go_ret
    refine ⟨ret_bool e0.out.symm, btrans (a := w) ?_ hb⟩
    ((with_reducible (repeat (first | assumption | exact Below.refl _ _ | refine bset ?_ (Nat.le_refl _) _ | refine balloc ?_ _ | refine bdrew ?_ | refine bdrewN ?_ _))); done)
set_option maxHeartbeats 4000000 in
set_option maxRecDepth 100000 in
theorem rall_any (A : Option Addr) (l : List Op) (cap : Nat) (w : World) (hl : OpsIn w A l) (hm : l.length ≤ 1000000000000000000) :
    Calls Try.prog 72 #[.slice A l.length cap] w fun e w' => e = .returned (.bool (allOk l)) ∧ Below w.heap.size w w' := by
  have HL := hid hl
  clear hl
  go_enter Try.func72, Try.ntmps72
  go_wp2
  go_loopg [3] l.length (fun g v wr => ∃ i : Nat, i ≤ l.length ∧ v = .int .i64 i ∧ Hid (g + i = l.length) ∧ Hid (∀ j (hj : j < i) (hj2 : j < l.length), opOk l[j] = true) ∧ Below w.heap.size w wr)
  case atStart => exact ⟨0, by omega, rfl, by exact Nat.add_zero _, fun j hj => by omega, Below.refl _ _⟩
  case round =>
    obtain ⟨i, hi, rfl, hg, hall, hbw⟩ := hrel
    by_cases hlt : i < l.length
    · obtain ⟨g, off, rfl, hop⟩ := (OpsIn.keep HL.out hbw).get i hlt
      obtain ⟨c0, c1, c2, c3, c4⟩ := hop
      have hb0 := hid hbw
      have hij : (i : Int) < (l.length : Int) := by omega
      have hi0 : (0 : Int) ≤ (i : Int) := by omega
      have HC := hid (fun w => rop_any l[i] w)
      clear hbw
      cases h3 : opOk l[i]
      · have e0 := hid (allOk_no hlt h3)
        rw [h3] at HC
        clear h3
        go_wp2_with (go_at_call 97; (with_reducible refine (HC.out _).mono ?_); rintro e w' ⟨rfl, hb⟩)
        go_ret
        exact ⟨ret_bool e0.out.symm, btrans hb0.out hb⟩
      · have e0 := hid h3
        rw [h3] at HC
        clear h3
        go_wp2_with (go_at_call 97; (with_reducible refine (HC.out _).mono ?_); rintro e w' ⟨rfl, hb⟩)
        go_roundg (l.length - (i + 1))
        case measure => have := hg.out; omega
        case rel =>
          refine ⟨i + 1, by omega, by go_num, by show _ + _ = _; omega, fun j hj hj2 => ?_, btrans hb0.out hb⟩
          by_cases h : j < i
          · exact hall.out j h hj2
          · obtain rfl : j = i := by omega
            exact e0.out
    · obtain rfl : i = l.length := by omega
      have e0 := hid (allOk_yes (l := l) fun j hj => hall.out j hj hj)
      go_wp2
      go_ret
      exact ⟨ret_bool e0.out.symm, hbw⟩
end
/- The document's End. -/
section
open Go.RowKit
/-- Is an end one of a program of n blocks? -/
def endF (en a th el : Int) (m : Nat) (n : Int) : Bool :=
  (decide (0 ≤ en) && decide (en ≤ 3)) && fitsB a (endA en) 32 && fitsB th (endT en) n && fitsB el (endO en) n && (endY en || m == 0)
theorem endB_eq (b : Blk) (n : Int) : endB b n = endF b.en b.a b.th b.el b.body.length n := rfl
set_option maxHeartbeats 4000000 in
set_option maxRecDepth 100000 in
theorem rend_any (A A2 : Option Addr) (c c2 l1 l2 : Nat) (en a th el n : Int) (w : World) (ha : 0 ≤ a) :
    Calls Try.prog 73 #[.agg #[.slice A l1 c, .int .i8 en, .int .u8 a, .slice A2 l2 c2, .int .i64 th, .int .i64 el], .int .i64 n] w fun e w' => e = .returned (.bool (endF en a th el l2 n)) ∧ Below w.heap.size w w' := by
  suffices H : ∀ r, r = endF en a th el l2 n → Calls Try.prog 73 #[.agg #[.slice A l1 c, .int .i8 en, .int .u8 a, .slice A2 l2 c2, .int .i64 th, .int .i64 el], .int .i64 n] w fun e w' => e = .returned (.bool r) ∧ Below w.heap.size w w' from H _ rfl
  intro r hr
  by_cases h0 : en < 0
  · (have e0 := hid (show r = false by rw [hr]; clear hr; simp [endF, fitsB, endA, endT, endO, endY, *] <;> omega); clear hr; go_enter Try.func73, Try.ntmps73; go_wp2; go_ret; refine ⟨ret_bool e0.out.symm, ?_⟩; ((with_reducible (repeat (first | assumption | exact Below.refl _ _ | refine bset ?_ (Nat.le_refl _) _ | refine balloc ?_ _ | refine bdrew ?_ | refine bdrewN ?_ _))); done))
  by_cases h1 : 3 < en
  · (have e0 := hid (show r = false by rw [hr]; clear hr; simp [endF, fitsB, endA, endT, endO, endY, *] <;> omega); clear hr; go_enter Try.func73, Try.ntmps73; go_wp2; go_ret; refine ⟨ret_bool e0.out.symm, ?_⟩; ((with_reducible (repeat (first | assumption | exact Below.refl _ _ | refine bset ?_ (Nat.le_refl _) _ | refine balloc ?_ _ | refine bdrew ?_ | refine bdrewN ?_ _))); done))
  have h : en = 0 ∨ en = 1 ∨ en = 2 ∨ en = 3 := by omega
  clear h0 h1
  rcases h with rfl | rfl | rfl | rfl
  · by_cases c0 : ¬ (a = 0)
    · (have e0 := hid (show r = false by rw [hr]; clear hr; simp [endF, fitsB, endA, endT, endO, endY, *] <;> omega); clear hr; go_enter Try.func73, Try.ntmps73; go_wp2; go_ret; refine ⟨ret_bool e0.out.symm, ?_⟩; ((with_reducible (repeat (first | assumption | exact Below.refl _ _ | refine bset ?_ (Nat.le_refl _) _ | refine balloc ?_ _ | refine bdrew ?_ | refine bdrewN ?_ _))); done))
    replace c0 : a = 0 := by omega
    subst c0
    by_cases c1 : ¬ (0 ≤ th)
    · replace c1 : th < 0 := by omega
      (have e0 := hid (show r = false by rw [hr]; clear hr; simp [endF, fitsB, endA, endT, endO, endY, *] <;> omega); clear hr; go_enter Try.func73, Try.ntmps73; go_wp2; go_ret; refine ⟨ret_bool e0.out.symm, ?_⟩; ((with_reducible (repeat (first | assumption | exact Below.refl _ _ | refine bset ?_ (Nat.le_refl _) _ | refine balloc ?_ _ | refine bdrew ?_ | refine bdrewN ?_ _))); done))
    replace c1 : 0 ≤ th := by omega
    by_cases c2 : ¬ (th < n)
    · replace c2 : n ≤ th := by omega
      (have e0 := hid (show r = false by rw [hr]; clear hr; simp [endF, fitsB, endA, endT, endO, endY, *] <;> omega); clear hr; go_enter Try.func73, Try.ntmps73; go_wp2; go_ret; refine ⟨ret_bool e0.out.symm, ?_⟩; ((with_reducible (repeat (first | assumption | exact Below.refl _ _ | refine bset ?_ (Nat.le_refl _) _ | refine balloc ?_ _ | refine bdrew ?_ | refine bdrewN ?_ _))); done))
    replace c2 : th < n := by omega
    by_cases c3 : ¬ (el = 0)
    · (have e0 := hid (show r = false by rw [hr]; clear hr; simp [endF, fitsB, endA, endT, endO, endY, *] <;> omega); clear hr; go_enter Try.func73, Try.ntmps73; go_wp2; go_ret; refine ⟨ret_bool e0.out.symm, ?_⟩; ((with_reducible (repeat (first | assumption | exact Below.refl _ _ | refine bset ?_ (Nat.le_refl _) _ | refine balloc ?_ _ | refine bdrew ?_ | refine bdrewN ?_ _))); done))
    replace c3 : el = 0 := by omega
    subst c3
    by_cases c4 : ¬ ((l2 : Int) = 0)
    · have cb : ((l2 : Int) == 0) = false := by simpa using c4
      (have e0 := hid (show r = false by rw [hr]; clear hr; simp [endF, fitsB, endA, endT, endO, endY, *] <;> omega); clear hr; go_enter Try.func73, Try.ntmps73; go_wp2; go_ret; refine ⟨ret_bool e0.out.symm, ?_⟩; ((with_reducible (repeat (first | assumption | exact Below.refl _ _ | refine bset ?_ (Nat.le_refl _) _ | refine balloc ?_ _ | refine bdrew ?_ | refine bdrewN ?_ _))); done))
    replace c4 : (l2 : Int) = 0 := by omega
    (have e0 := hid (show r = true by rw [hr]; clear hr; simp [endF, fitsB, endA, endT, endO, endY, *] <;> omega); clear hr; go_enter Try.func73, Try.ntmps73; go_wp2; go_ret; refine ⟨ret_bool e0.out.symm, ?_⟩; ((with_reducible (repeat (first | assumption | exact Below.refl _ _ | refine bset ?_ (Nat.le_refl _) _ | refine balloc ?_ _ | refine bdrew ?_ | refine bdrewN ?_ _))); done))
  · by_cases c0 : ¬ (a < 32)
    · replace c0 : 32 ≤ a := by omega
      (have e0 := hid (show r = false by rw [hr]; clear hr; simp [endF, fitsB, endA, endT, endO, endY, *] <;> omega); clear hr; go_enter Try.func73, Try.ntmps73; go_wp2; go_ret; refine ⟨ret_bool e0.out.symm, ?_⟩; ((with_reducible (repeat (first | assumption | exact Below.refl _ _ | refine bset ?_ (Nat.le_refl _) _ | refine balloc ?_ _ | refine bdrew ?_ | refine bdrewN ?_ _))); done))
    replace c0 : a < 32 := by omega
    by_cases c1 : ¬ (0 ≤ th)
    · replace c1 : th < 0 := by omega
      (have e0 := hid (show r = false by rw [hr]; clear hr; simp [endF, fitsB, endA, endT, endO, endY, *] <;> omega); clear hr; go_enter Try.func73, Try.ntmps73; go_wp2; go_ret; refine ⟨ret_bool e0.out.symm, ?_⟩; ((with_reducible (repeat (first | assumption | exact Below.refl _ _ | refine bset ?_ (Nat.le_refl _) _ | refine balloc ?_ _ | refine bdrew ?_ | refine bdrewN ?_ _))); done))
    replace c1 : 0 ≤ th := by omega
    by_cases c2 : ¬ (th < n)
    · replace c2 : n ≤ th := by omega
      (have e0 := hid (show r = false by rw [hr]; clear hr; simp [endF, fitsB, endA, endT, endO, endY, *] <;> omega); clear hr; go_enter Try.func73, Try.ntmps73; go_wp2; go_ret; refine ⟨ret_bool e0.out.symm, ?_⟩; ((with_reducible (repeat (first | assumption | exact Below.refl _ _ | refine bset ?_ (Nat.le_refl _) _ | refine balloc ?_ _ | refine bdrew ?_ | refine bdrewN ?_ _))); done))
    replace c2 : th < n := by omega
    by_cases c3 : ¬ (0 ≤ el)
    · replace c3 : el < 0 := by omega
      (have e0 := hid (show r = false by rw [hr]; clear hr; simp [endF, fitsB, endA, endT, endO, endY, *] <;> omega); clear hr; go_enter Try.func73, Try.ntmps73; go_wp2; go_ret; refine ⟨ret_bool e0.out.symm, ?_⟩; ((with_reducible (repeat (first | assumption | exact Below.refl _ _ | refine bset ?_ (Nat.le_refl _) _ | refine balloc ?_ _ | refine bdrew ?_ | refine bdrewN ?_ _))); done))
    replace c3 : 0 ≤ el := by omega
    by_cases c4 : ¬ (el < n)
    · replace c4 : n ≤ el := by omega
      (have e0 := hid (show r = false by rw [hr]; clear hr; simp [endF, fitsB, endA, endT, endO, endY, *] <;> omega); clear hr; go_enter Try.func73, Try.ntmps73; go_wp2; go_ret; refine ⟨ret_bool e0.out.symm, ?_⟩; ((with_reducible (repeat (first | assumption | exact Below.refl _ _ | refine bset ?_ (Nat.le_refl _) _ | refine balloc ?_ _ | refine bdrew ?_ | refine bdrewN ?_ _))); done))
    replace c4 : el < n := by omega
    by_cases c5 : ¬ ((l2 : Int) = 0)
    · have cb : ((l2 : Int) == 0) = false := by simpa using c5
      (have e0 := hid (show r = false by rw [hr]; clear hr; simp [endF, fitsB, endA, endT, endO, endY, *] <;> omega); clear hr; go_enter Try.func73, Try.ntmps73; go_wp2; go_ret; refine ⟨ret_bool e0.out.symm, ?_⟩; ((with_reducible (repeat (first | assumption | exact Below.refl _ _ | refine bset ?_ (Nat.le_refl _) _ | refine balloc ?_ _ | refine bdrew ?_ | refine bdrewN ?_ _))); done))
    replace c5 : (l2 : Int) = 0 := by omega
    (have e0 := hid (show r = true by rw [hr]; clear hr; simp [endF, fitsB, endA, endT, endO, endY, *] <;> omega); clear hr; go_enter Try.func73, Try.ntmps73; go_wp2; go_ret; refine ⟨ret_bool e0.out.symm, ?_⟩; ((with_reducible (repeat (first | assumption | exact Below.refl _ _ | refine bset ?_ (Nat.le_refl _) _ | refine balloc ?_ _ | refine bdrew ?_ | refine bdrewN ?_ _))); done))
  · by_cases c0 : ¬ (a < 32)
    · replace c0 : 32 ≤ a := by omega
      (have e0 := hid (show r = false by rw [hr]; clear hr; simp [endF, fitsB, endA, endT, endO, endY, *] <;> omega); clear hr; go_enter Try.func73, Try.ntmps73; go_wp2; go_ret; refine ⟨ret_bool e0.out.symm, ?_⟩; ((with_reducible (repeat (first | assumption | exact Below.refl _ _ | refine bset ?_ (Nat.le_refl _) _ | refine balloc ?_ _ | refine bdrew ?_ | refine bdrewN ?_ _))); done))
    replace c0 : a < 32 := by omega
    by_cases c1 : ¬ (th = 0)
    · (have e0 := hid (show r = false by rw [hr]; clear hr; simp [endF, fitsB, endA, endT, endO, endY, *] <;> omega); clear hr; go_enter Try.func73, Try.ntmps73; go_wp2; go_ret; refine ⟨ret_bool e0.out.symm, ?_⟩; ((with_reducible (repeat (first | assumption | exact Below.refl _ _ | refine bset ?_ (Nat.le_refl _) _ | refine balloc ?_ _ | refine bdrew ?_ | refine bdrewN ?_ _))); done))
    replace c1 : th = 0 := by omega
    subst c1
    by_cases c2 : ¬ (el = 0)
    · (have e0 := hid (show r = false by rw [hr]; clear hr; simp [endF, fitsB, endA, endT, endO, endY, *] <;> omega); clear hr; go_enter Try.func73, Try.ntmps73; go_wp2; go_ret; refine ⟨ret_bool e0.out.symm, ?_⟩; ((with_reducible (repeat (first | assumption | exact Below.refl _ _ | refine bset ?_ (Nat.le_refl _) _ | refine balloc ?_ _ | refine bdrew ?_ | refine bdrewN ?_ _))); done))
    replace c2 : el = 0 := by omega
    subst c2
    by_cases c3 : ¬ ((l2 : Int) = 0)
    · have cb : ((l2 : Int) == 0) = false := by simpa using c3
      (have e0 := hid (show r = false by rw [hr]; clear hr; simp [endF, fitsB, endA, endT, endO, endY, *] <;> omega); clear hr; go_enter Try.func73, Try.ntmps73; go_wp2; go_ret; refine ⟨ret_bool e0.out.symm, ?_⟩; ((with_reducible (repeat (first | assumption | exact Below.refl _ _ | refine bset ?_ (Nat.le_refl _) _ | refine balloc ?_ _ | refine bdrew ?_ | refine bdrewN ?_ _))); done))
    replace c3 : (l2 : Int) = 0 := by omega
    (have e0 := hid (show r = true by rw [hr]; clear hr; simp [endF, fitsB, endA, endT, endO, endY, *] <;> omega); clear hr; go_enter Try.func73, Try.ntmps73; go_wp2; go_ret; refine ⟨ret_bool e0.out.symm, ?_⟩; ((with_reducible (repeat (first | assumption | exact Below.refl _ _ | refine bset ?_ (Nat.le_refl _) _ | refine balloc ?_ _ | refine bdrew ?_ | refine bdrewN ?_ _))); done))
  · by_cases c0 : ¬ (a < 32)
    · replace c0 : 32 ≤ a := by omega
      (have e0 := hid (show r = false by rw [hr]; clear hr; simp [endF, fitsB, endA, endT, endO, endY, *] <;> omega); clear hr; go_enter Try.func73, Try.ntmps73; go_wp2; go_ret; refine ⟨ret_bool e0.out.symm, ?_⟩; ((with_reducible (repeat (first | assumption | exact Below.refl _ _ | refine bset ?_ (Nat.le_refl _) _ | refine balloc ?_ _ | refine bdrew ?_ | refine bdrewN ?_ _))); done))
    replace c0 : a < 32 := by omega
    by_cases c1 : ¬ (0 ≤ th)
    · replace c1 : th < 0 := by omega
      (have e0 := hid (show r = false by rw [hr]; clear hr; simp [endF, fitsB, endA, endT, endO, endY, *] <;> omega); clear hr; go_enter Try.func73, Try.ntmps73; go_wp2; go_ret; refine ⟨ret_bool e0.out.symm, ?_⟩; ((with_reducible (repeat (first | assumption | exact Below.refl _ _ | refine bset ?_ (Nat.le_refl _) _ | refine balloc ?_ _ | refine bdrew ?_ | refine bdrewN ?_ _))); done))
    replace c1 : 0 ≤ th := by omega
    by_cases c2 : ¬ (th < n)
    · replace c2 : n ≤ th := by omega
      (have e0 := hid (show r = false by rw [hr]; clear hr; simp [endF, fitsB, endA, endT, endO, endY, *] <;> omega); clear hr; go_enter Try.func73, Try.ntmps73; go_wp2; go_ret; refine ⟨ret_bool e0.out.symm, ?_⟩; ((with_reducible (repeat (first | assumption | exact Below.refl _ _ | refine bset ?_ (Nat.le_refl _) _ | refine balloc ?_ _ | refine bdrew ?_ | refine bdrewN ?_ _))); done))
    replace c2 : th < n := by omega
    by_cases c3 : ¬ (el = 0)
    · (have e0 := hid (show r = false by rw [hr]; clear hr; simp [endF, fitsB, endA, endT, endO, endY, *] <;> omega); clear hr; go_enter Try.func73, Try.ntmps73; go_wp2; go_ret; refine ⟨ret_bool e0.out.symm, ?_⟩; ((with_reducible (repeat (first | assumption | exact Below.refl _ _ | refine bset ?_ (Nat.le_refl _) _ | refine balloc ?_ _ | refine bdrew ?_ | refine bdrewN ?_ _))); done))
    replace c3 : el = 0 := by omega
    subst c3
    (have e0 := hid (show r = true by rw [hr]; clear hr; simp [endF, fitsB, endA, endT, endO, endY, *] <;> omega); clear hr; go_enter Try.func73, Try.ntmps73; go_wp2; go_ret; refine ⟨ret_bool e0.out.symm, ?_⟩; ((with_reducible (repeat (first | assumption | exact Below.refl _ _ | refine bset ?_ (Nat.le_refl _) _ | refine balloc ?_ _ | refine bdrew ?_ | refine bdrewN ?_ _))); done))
end
end Go.Proofs.Ytpiagggnjppkhaa
