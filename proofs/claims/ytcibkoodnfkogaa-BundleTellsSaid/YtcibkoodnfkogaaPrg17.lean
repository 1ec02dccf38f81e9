/- What the document says of a few programs. -/
import Derived.Test.YtcibkoodnfkogaaPrg13
import Derived.Test.YtcibkoodnfkogaaPrg5
import Derived.Test.YtcibkoodnfkogaaLike
namespace Go.Proofs.Ytcibkoodnfkogaa
open Go.RowKit
set_option linter.unusedVariables false
set_option linter.unusedSimpArgs false
def bHalt : Blk := ⟨[], 2, 0, [], 0, 0⟩
def bGone : Blk := ⟨[], 0, 0, [], 1, 0⟩
def bNop : Blk := ⟨[⟨0, 0, 0, 0, 0⟩], 2, 0, [], 0, 0⟩
theorem wf_blk0 (b : Blk) (h : b.ops = [] ∨ b.ops = [⟨0, 0, 0, 0, 0⟩]) (hb : b.body = []) (e0 : 0 ≤ b.en) (e1 : b.en ≤ 3) (a0 : b.a = 0) (t0 : 0 ≤ b.th) (t1 : b.th ≤ 1) (l0 : b.el = 0) : b.wf := by
  refine ⟨?_, ?_, by omega, by omega, by omega, by omega, by omega, by omega, by omega, by omega, ?_, by rw [hb]; simp⟩
  · rcases h with h | h <;> rw [h] <;> intro o ho
    · cases ho
    · simp only [List.mem_cons, List.not_mem_nil, or_false] at ho
      subst ho
      constructor <;> decide
  · rw [hb]; intro o ho; cases ho
  · rcases h with h | h <;> rw [h] <;> simp
theorem wf_one {b : Blk} (h : b.wf) : ∀ x ∈ [b], x.wf := fun x hx => by
  simp only [List.mem_cons, List.not_mem_nil, or_false] at hx
  subst hx
  exact h
def tabT : List Int := [1, 0, 1, 1, 1, 1, 1, 1, 1, 1, 1, 1, 0]
def tabU : List Int := [1, 0, 1, 0, 1, 1, 1, 1, 1, 1, 1, 1, 0]
theorem one_blk {w : World} {g : Nat} {b : Blk} (h : BlkAt w g 0 b) : BlksIn w (some ⟨g, 0, none⟩) [b] := fun _ => ⟨g, 0, rfl, fun i x hi => by
  cases i with
  | zero => simp only [List.getElem?_cons_zero, Option.some.injEq] at hi; subst hi; simpa using h
  | succ i => simp at hi⟩
theorem one_op {w : World} {g : Nat} {x : Op} (h : OpAt w g 0 x) : OpsIn w (some ⟨g, 0, none⟩) [x] := fun _ => ⟨g, 0, rfl, fun i y hi => by
  cases i with
  | zero => simp only [List.getElem?_cons_zero, Option.some.injEq] at hi; subst hi; simpa using h
  | succ i => simp at hi⟩
set_option maxHeartbeats 4000000 in
set_option maxRecDepth 100000 in
theorem wakes04_any (w : World) : Calls Try.prog 37 #[] w fun e w' => e = .returned (.bool true) ∧ Below w.heap.size w w' := by
  have wH : bHalt.wf := wf_blk0 _ (.inl rfl) rfl (by decide) (by decide) rfl (by decide) (by decide) rfl
  have wG : bGone.wf := wf_blk0 _ (.inl rfl) rfl (by decide) (by decide) rfl (by decide) (by decide) rfl
  have wN : bNop.wf := wf_blk0 _ (.inr rfl) rfl (by decide) (by decide) rfl (by decide) (by decide) rfl
  have C1 : Hid (∀ (w : World) (g : Nat), BlksIn w (some ⟨g, 0, none⟩) [bHalt] → Calls Try.prog 35 #[.agg #[.slice (some ⟨g, 0, none⟩) 1 1]] w fun e w' => e = .returned (.int .i64 0) ∧ Below w.heap.size w w') := hid fun w g h => by
    have := prg_check_any (some ⟨g, 0, none⟩) [bHalt] 1 w h (wf_one wH) (by decide)
    rw [show prgE [bHalt] = 0 by decide +kernel] at this
    exact this
  have C2 : Hid (∀ (w : World) (g : Nat), BlksIn w (some ⟨g, 0, none⟩) [bHalt] → Calls Try.prog 40 #[.agg #[.slice (some ⟨g, 0, none⟩) 1 1]] w fun e w' => e = .returned (.int .i64 1) ∧ Below w.heap.size w w') := hid fun w g h => by
    have := pops_any (some ⟨g, 0, none⟩) [bHalt] 1 w h (wf_one wH) (by decide)
    rw [show (([bHalt].length : Nat) : Int) + (sumB [bHalt] : Nat) = 1 by decide +kernel] at this
    exact this
  have C3 : Hid (∀ (w : World), Calls Try.prog 35 #[.agg #[.slice none 0 0]] w fun e w' => e = .returned (.int .i64 50) ∧ Below w.heap.size w w') := hid fun w => by
    have := prg_check_any none [] 0 w (fun h => absurd rfl h) (fun b hb => by cases hb) (by decide)
    rw [show prgE [] = 50 by decide +kernel] at this
    exact this
  have C4 : Hid (∀ (w : World) (g : Nat), BlksIn w (some ⟨g, 0, none⟩) [bGone] → Calls Try.prog 35 #[.agg #[.slice (some ⟨g, 0, none⟩) 1 1]] w fun e w' => e = .returned (.int .i64 50) ∧ Below w.heap.size w w') := hid fun w g h => by
    have := prg_check_any (some ⟨g, 0, none⟩) [bGone] 1 w h (wf_one wG) (by decide)
    rw [show prgE [bGone] = 50 by decide +kernel] at this
    exact this
  have C5 : Hid (∀ (w : World) (g : Nat), BlksIn w (some ⟨g, 0, none⟩) [bNop] → Calls Try.prog 35 #[.agg #[.slice (some ⟨g, 0, none⟩) 1 1]] w fun e w' => e = .returned (.int .i64 30) ∧ Below w.heap.size w w') := hid fun w g h => by
    have := prg_check_any (some ⟨g, 0, none⟩) [bNop] 1 w h (wf_one wN) (by decide)
    rw [show prgE [bNop] = 30 by decide +kernel] at this
    exact this
  have C6 : Hid (∀ (w : World) (g : Nat), BlksIn w (some ⟨g, 0, none⟩) [bHalt] → Calls Try.prog 36 #[.agg #[.slice (some ⟨g, 0, none⟩) 1 1], tabX 1 0 1 1 1 1 1 1 1 1 1 1 0] w fun e w' => e = .returned (.int .i64 0) ∧ Below w.heap.size w w') := hid fun w g h => by
    have := needs_any (some ⟨g, 0, none⟩) [bHalt] 1 tabT w h (wf_one wH) (by decide) rfl
    rw [show needE [bHalt] tabT = 0 by decide +kernel] at this
    exact this
  have C7 : Hid (∀ (w : World) (g : Nat), BlksIn w (some ⟨g, 0, none⟩) [bHalt] → Calls Try.prog 36 #[.agg #[.slice (some ⟨g, 0, none⟩) 1 1], tabX 1 0 1 0 1 1 1 1 1 1 1 1 0] w fun e w' => e = .returned (.int .i64 21) ∧ Below w.heap.size w w') := hid fun w g h => by
    have := needs_any (some ⟨g, 0, none⟩) [bHalt] 1 tabU w h (wf_one wH) (by decide) rfl
    rw [show needE [bHalt] tabU = 21 by decide +kernel] at this
    exact this
  clear wH wG wN
  go_enter Try.func37, Try.ntmps37
  go_wp2_with fail
  obtain ⟨W, hW⟩ : ∃ W : World, W = ((((((((w.alloc (.cells #[.slice none 0 0, .int .i8 2, .int .u8 0, .slice none 0 0, .int .i64 0, .int .i64 0] 70)).alloc (.cells #[.slice (some ⟨w.heap.size, 0, none⟩) 1 1] 61)).alloc (.cells #[.slice none 0 0, .int .i8 0, .int .u8 0, .slice none 0 0, .int .i64 1, .int .i64 0] 70)).alloc (.cells #[.slice (some ⟨w.heap.size + 1 + 1, 0, none⟩) 1 1] 61)).alloc (.cells #[.int .i8 0, .int .u8 0, .int .u8 0, .int .u8 0, .int .i64 0] 55)).alloc (.cells #[.slice (some ⟨w.heap.size + 1 + 1 + 1 + 1, 0, none⟩) 1 1, .int .i8 2, .int .u8 0, .slice none 0 0, .int .i64 0, .int .i64 0] 70)).alloc (.cells #[.slice (some ⟨w.heap.size + 1 + 1 + 1 + 1 + 1, 0, none⟩) 1 1] 61)).alloc (.cells #[.int .i64 1, .int .i64 0, .int .i64 1, .int .i64 1, .int .i64 1, .int .i64 1, .int .i64 1, .int .i64 1, .int .i64 1, .int .i64 1, .int .i64 1, .int .i64 1, .int .i64 0] 28)).alloc (.cells #[.int .i64 1, .int .i64 0, .int .i64 1, .int .i64 0, .int .i64 1, .int .i64 1, .int .i64 1, .int .i64 1, .int .i64 1, .int .i64 1, .int .i64 1, .int .i64 1, .int .i64 0] 28) := ⟨_, rfl⟩
  have a1 : W.cell? ⟨w.heap.size + 1, 0, none⟩ = some (.slice (some ⟨w.heap.size, 0, none⟩) 1 1) := by subst hW; go_simp
  have a2 : W.cell? ⟨w.heap.size + 1 + 1 + 1, 0, none⟩ = some (.slice (some ⟨w.heap.size + 1 + 1, 0, none⟩) 1 1) := by subst hW; go_simp
  have a3 : W.cell? ⟨w.heap.size + 1 + 1 + 1 + 1 + 1 + 1, 0, none⟩ = some (.slice (some ⟨w.heap.size + 1 + 1 + 1 + 1 + 1, 0, none⟩) 1 1) := by subst hW; go_simp
  have bH : Hid (BlksIn W (some ⟨w.heap.size, 0, none⟩) [bHalt]) := hid (one_blk ⟨none, 0, none, 0, by subst hW; go_simp; try rfl, by subst hW; go_simp; try rfl, by subst hW; go_simp; try rfl, by subst hW; go_simp; try rfl, by subst hW; go_simp; try rfl, by subst hW; go_simp; try rfl, (fun h => absurd rfl h), (fun h => absurd rfl h), by decide, by decide, (fun _ => rfl), fun _ => rfl⟩)
  have bG : Hid (BlksIn W (some ⟨w.heap.size + 1 + 1, 0, none⟩) [bGone]) := hid (one_blk ⟨none, 0, none, 0, by subst hW; go_simp; try rfl, by subst hW; go_simp; try rfl, by subst hW; go_simp; try rfl, by subst hW; go_simp; try rfl, by subst hW; go_simp; try rfl, by subst hW; go_simp; try rfl, (fun h => absurd rfl h), (fun h => absurd rfl h), by decide, by decide, (fun _ => rfl), fun _ => rfl⟩)
  have oN : OpsIn W (some ⟨w.heap.size + 1 + 1 + 1 + 1, 0, none⟩) [⟨0, 0, 0, 0, 0⟩] := one_op ⟨by subst hW; go_simp, by subst hW; go_simp, by subst hW; go_simp, by subst hW; go_simp, by subst hW; go_simp⟩
  have bN : Hid (BlksIn W (some ⟨w.heap.size + 1 + 1 + 1 + 1 + 1, 0, none⟩) [bNop]) := hid (one_blk ⟨some ⟨w.heap.size + 1 + 1 + 1 + 1, 0, none⟩, 1, none, 0, by subst hW; go_simp; try rfl, by subst hW; go_simp; try rfl, by subst hW; go_simp; try rfl, by subst hW; go_simp; try rfl, by subst hW; go_simp; try rfl, by subst hW; go_simp; try rfl, oN, (fun h => absurd rfl h), by decide, by decide, (fun h => by cases h), fun _ => rfl⟩)
  have tT : Hid (TabIn W (w.heap.size + 1 + 1 + 1 + 1 + 1 + 1 + 1) tabT) := by
    intro j hj
    subst hW
    obtain rfl | rfl | rfl | rfl | rfl | rfl | rfl | rfl | rfl | rfl | rfl | rfl | rfl : j = 0 ∨ j = 1 ∨ j = 2 ∨ j = 3 ∨ j = 4 ∨ j = 5 ∨ j = 6 ∨ j = 7 ∨ j = 8 ∨ j = 9 ∨ j = 10 ∨ j = 11 ∨ j = 12 := by omega
    all_goals (go_simp; try rfl)
  have tU : Hid (TabIn W (w.heap.size + 1 + 1 + 1 + 1 + 1 + 1 + 1 + 1) tabU) := by
    intro j hj
    subst hW
    obtain rfl | rfl | rfl | rfl | rfl | rfl | rfl | rfl | rfl | rfl | rfl | rfl | rfl : j = 0 ∨ j = 1 ∨ j = 2 ∨ j = 3 ∨ j = 4 ∨ j = 5 ∨ j = 6 ∨ j = 7 ∨ j = 8 ∨ j = 9 ∨ j = 10 ∨ j = 11 ∨ j = 12 := by omega
    all_goals (go_simp; try rfl)
  have B0 : Hid (Below w.heap.size w W) := hid (by subst hW; ((with_reducible (repeat (first | assumption | exact Below.refl _ _ | refine bset ?_ (Nat.le_refl _) _ | refine balloc ?_ _ | refine bdrew ?_ | refine bdrewN ?_ _))); done))
  rw [← hW]
  clear hW oN
  with_reducible refine (C1.out _ _ bH.out).mono ?_
  rintro e w1 ⟨rfl, hb⟩
  replace a1 := cell_keep a1 hb
  replace a2 := cell_keep a2 hb
  replace a3 := cell_keep a3 hb
  replace bH := hid (bH.out.keep hb)
  replace bG := hid (bG.out.keep hb)
  replace bN := hid (bN.out.keep hb)
  replace tT := hid (tT.out.keep hb)
  replace tU := hid (tU.out.keep hb)
  replace B0 := hid (btrans B0.out hb)
  clear hb W
  obtain ⟨W, rfl⟩ : ∃ W : World, W = w1 := ⟨_, rfl⟩
  go_wp2_with fail
  with_reducible refine (C2.out _ _ bH.out).mono ?_
  rintro e w2 ⟨rfl, hb⟩
  replace a1 := cell_keep a1 hb
  replace a2 := cell_keep a2 hb
  replace a3 := cell_keep a3 hb
  replace bH := hid (bH.out.keep hb)
  replace bG := hid (bG.out.keep hb)
  replace bN := hid (bN.out.keep hb)
  replace tT := hid (tT.out.keep hb)
  replace tU := hid (tU.out.keep hb)
  replace B0 := hid (btrans B0.out hb)
  clear hb W
  obtain ⟨W, rfl⟩ : ∃ W : World, W = w2 := ⟨_, rfl⟩
  go_wp2_with fail
  with_reducible refine (C3.out _).mono ?_
  rintro e w3 ⟨rfl, hb⟩
  replace a1 := cell_keep a1 hb
  replace a2 := cell_keep a2 hb
  replace a3 := cell_keep a3 hb
  replace bH := hid (bH.out.keep hb)
  replace bG := hid (bG.out.keep hb)
  replace bN := hid (bN.out.keep hb)
  replace tT := hid (tT.out.keep hb)
  replace tU := hid (tU.out.keep hb)
  replace B0 := hid (btrans B0.out hb)
  clear hb W
  obtain ⟨W, rfl⟩ : ∃ W : World, W = w3 := ⟨_, rfl⟩
  go_wp2_with fail
  with_reducible refine (C4.out _ _ bG.out).mono ?_
  rintro e w4 ⟨rfl, hb⟩
  replace a1 := cell_keep a1 hb
  replace a2 := cell_keep a2 hb
  replace a3 := cell_keep a3 hb
  replace bH := hid (bH.out.keep hb)
  replace bG := hid (bG.out.keep hb)
  replace bN := hid (bN.out.keep hb)
  replace tT := hid (tT.out.keep hb)
  replace tU := hid (tU.out.keep hb)
  replace B0 := hid (btrans B0.out hb)
  clear hb W
  obtain ⟨W, rfl⟩ : ∃ W : World, W = w4 := ⟨_, rfl⟩
  go_wp2_with fail
  with_reducible refine (C5.out _ _ bN.out).mono ?_
  rintro e w5 ⟨rfl, hb⟩
  replace a1 := cell_keep a1 hb
  replace a2 := cell_keep a2 hb
  replace a3 := cell_keep a3 hb
  replace bH := hid (bH.out.keep hb)
  replace bG := hid (bG.out.keep hb)
  replace bN := hid (bN.out.keep hb)
  replace tT := hid (tT.out.keep hb)
  replace tU := hid (tU.out.keep hb)
  replace B0 := hid (btrans B0.out hb)
  clear hb W
  obtain ⟨W, rfl⟩ : ∃ W : World, W = w5 := ⟨_, rfl⟩
  have y0 : W.cell? ⟨w.heap.size + 1 + 1 + 1 + 1 + 1 + 1 + 1, 0, none⟩ = some (.int .i64 1) := tT.out 0 (by omega)
  have y1 : W.cell? ⟨w.heap.size + 1 + 1 + 1 + 1 + 1 + 1 + 1, 1, none⟩ = some (.int .i64 0) := tT.out 1 (by omega)
  have y2 : W.cell? ⟨w.heap.size + 1 + 1 + 1 + 1 + 1 + 1 + 1, 2, none⟩ = some (.int .i64 1) := tT.out 2 (by omega)
  have y3 : W.cell? ⟨w.heap.size + 1 + 1 + 1 + 1 + 1 + 1 + 1, 3, none⟩ = some (.int .i64 1) := tT.out 3 (by omega)
  have y4 : W.cell? ⟨w.heap.size + 1 + 1 + 1 + 1 + 1 + 1 + 1, 4, none⟩ = some (.int .i64 1) := tT.out 4 (by omega)
  have y5 : W.cell? ⟨w.heap.size + 1 + 1 + 1 + 1 + 1 + 1 + 1, 5, none⟩ = some (.int .i64 1) := tT.out 5 (by omega)
  have y6 : W.cell? ⟨w.heap.size + 1 + 1 + 1 + 1 + 1 + 1 + 1, 6, none⟩ = some (.int .i64 1) := tT.out 6 (by omega)
  have y7 : W.cell? ⟨w.heap.size + 1 + 1 + 1 + 1 + 1 + 1 + 1, 7, none⟩ = some (.int .i64 1) := tT.out 7 (by omega)
  have y8 : W.cell? ⟨w.heap.size + 1 + 1 + 1 + 1 + 1 + 1 + 1, 8, none⟩ = some (.int .i64 1) := tT.out 8 (by omega)
  have y9 : W.cell? ⟨w.heap.size + 1 + 1 + 1 + 1 + 1 + 1 + 1, 9, none⟩ = some (.int .i64 1) := tT.out 9 (by omega)
  have y10 : W.cell? ⟨w.heap.size + 1 + 1 + 1 + 1 + 1 + 1 + 1, 10, none⟩ = some (.int .i64 1) := tT.out 10 (by omega)
  have y11 : W.cell? ⟨w.heap.size + 1 + 1 + 1 + 1 + 1 + 1 + 1, 11, none⟩ = some (.int .i64 1) := tT.out 11 (by omega)
  have y12 : W.cell? ⟨w.heap.size + 1 + 1 + 1 + 1 + 1 + 1 + 1, 12, none⟩ = some (.int .i64 0) := tT.out 12 (by omega)
  go_wp2_with fail
  with_reducible refine (C6.out _ _ bH.out).mono ?_
  rintro e w6 ⟨rfl, hb⟩
  clear y0 y1 y2 y3 y4 y5 y6 y7 y8 y9 y10 y11 y12
  replace a1 := cell_keep a1 hb
  replace a2 := cell_keep a2 hb
  replace a3 := cell_keep a3 hb
  replace bH := hid (bH.out.keep hb)
  replace bG := hid (bG.out.keep hb)
  replace bN := hid (bN.out.keep hb)
  replace tT := hid (tT.out.keep hb)
  replace tU := hid (tU.out.keep hb)
  replace B0 := hid (btrans B0.out hb)
  clear hb W
  obtain ⟨W, rfl⟩ : ∃ W : World, W = w6 := ⟨_, rfl⟩
  have y0 : W.cell? ⟨w.heap.size + 1 + 1 + 1 + 1 + 1 + 1 + 1 + 1, 0, none⟩ = some (.int .i64 1) := tU.out 0 (by omega)
  have y1 : W.cell? ⟨w.heap.size + 1 + 1 + 1 + 1 + 1 + 1 + 1 + 1, 1, none⟩ = some (.int .i64 0) := tU.out 1 (by omega)
  have y2 : W.cell? ⟨w.heap.size + 1 + 1 + 1 + 1 + 1 + 1 + 1 + 1, 2, none⟩ = some (.int .i64 1) := tU.out 2 (by omega)
  have y3 : W.cell? ⟨w.heap.size + 1 + 1 + 1 + 1 + 1 + 1 + 1 + 1, 3, none⟩ = some (.int .i64 0) := tU.out 3 (by omega)
  have y4 : W.cell? ⟨w.heap.size + 1 + 1 + 1 + 1 + 1 + 1 + 1 + 1, 4, none⟩ = some (.int .i64 1) := tU.out 4 (by omega)
  have y5 : W.cell? ⟨w.heap.size + 1 + 1 + 1 + 1 + 1 + 1 + 1 + 1, 5, none⟩ = some (.int .i64 1) := tU.out 5 (by omega)
  have y6 : W.cell? ⟨w.heap.size + 1 + 1 + 1 + 1 + 1 + 1 + 1 + 1, 6, none⟩ = some (.int .i64 1) := tU.out 6 (by omega)
  have y7 : W.cell? ⟨w.heap.size + 1 + 1 + 1 + 1 + 1 + 1 + 1 + 1, 7, none⟩ = some (.int .i64 1) := tU.out 7 (by omega)
  have y8 : W.cell? ⟨w.heap.size + 1 + 1 + 1 + 1 + 1 + 1 + 1 + 1, 8, none⟩ = some (.int .i64 1) := tU.out 8 (by omega)
  have y9 : W.cell? ⟨w.heap.size + 1 + 1 + 1 + 1 + 1 + 1 + 1 + 1, 9, none⟩ = some (.int .i64 1) := tU.out 9 (by omega)
  have y10 : W.cell? ⟨w.heap.size + 1 + 1 + 1 + 1 + 1 + 1 + 1 + 1, 10, none⟩ = some (.int .i64 1) := tU.out 10 (by omega)
  have y11 : W.cell? ⟨w.heap.size + 1 + 1 + 1 + 1 + 1 + 1 + 1 + 1, 11, none⟩ = some (.int .i64 1) := tU.out 11 (by omega)
  have y12 : W.cell? ⟨w.heap.size + 1 + 1 + 1 + 1 + 1 + 1 + 1 + 1, 12, none⟩ = some (.int .i64 0) := tU.out 12 (by omega)
  go_wp2_with fail
  with_reducible refine (C7.out _ _ bH.out).mono ?_
  rintro e w7 ⟨rfl, hb⟩
  clear y0 y1 y2 y3 y4 y5 y6 y7 y8 y9 y10 y11 y12
  replace a1 := cell_keep a1 hb
  replace a2 := cell_keep a2 hb
  replace a3 := cell_keep a3 hb
  replace bH := hid (bH.out.keep hb)
  replace bG := hid (bG.out.keep hb)
  replace bN := hid (bN.out.keep hb)
  replace tT := hid (tT.out.keep hb)
  replace tU := hid (tU.out.keep hb)
  replace B0 := hid (btrans B0.out hb)
  clear hb W
  obtain ⟨W, rfl⟩ : ∃ W : World, W = w7 := ⟨_, rfl⟩
  go_wp2_with fail
  go_ret
  exact ⟨rfl, B0.out⟩
end Go.Proofs.Ytcibkoodnfkogaa
