/- Blocks as plain data; the contract of program.end. -/
import Derived.Test.YtcibkoodnfkogaaPrg
namespace Go.Proofs.Ytcibkoodnfkogaa
open Go.RowKit
set_option linter.unusedVariables false
set_option linter.unusedSimpArgs false
/-- A block. -/
structure Blk where
  ops : List Op
  en : Int
  a : Int
  body : List Op
  th : Int
  el : Int
/-- A block's six cells lie at block g from place o on. -/
def BlkAt (w : World) (g o : Nat) (b : Blk) : Prop :=
  ∃ (A : Option Addr) (c : Nat) (A2 : Option Addr) (c2 : Nat),
    w.cell? ⟨g, o, none⟩ = some (.slice A b.ops.length c) ∧ w.cell? ⟨g, o + 1, none⟩ = some (.int .i8 b.en) ∧ w.cell? ⟨g, o + 2, none⟩ = some (.int .u8 b.a) ∧
    w.cell? ⟨g, o + 3, none⟩ = some (.slice A2 b.body.length c2) ∧ w.cell? ⟨g, o + 4, none⟩ = some (.int .i64 b.th) ∧ w.cell? ⟨g, o + 5, none⟩ = some (.int .i64 b.el) ∧
    OpsIn w A b.ops ∧ OpsIn w A2 b.body ∧ b.ops.length ≤ c ∧ b.body.length ≤ c2 ∧ (A = none → c = 0) ∧ (A2 = none → c2 = 0)
theorem BlkAt.keep {w w' : World} {g o : Nat} {b : Blk} (h : BlkAt w g o b) (hb : Below w.heap.size w w') : BlkAt w' g o b := by
  obtain ⟨A, c, A2, c2, h0, h1, h2, h3, h4, h5, h6, h7, h8, h9⟩ := h
  exact ⟨A, c, A2, c2, cell_keep h0 hb, cell_keep h1 hb, cell_keep h2 hb, cell_keep h3 hb, cell_keep h4 hb, cell_keep h5 hb, h6.keep hb, h7.keep hb, h8, h9⟩
/-- Its numbers are of their kinds; its lists are no longer than can be. -/
structure Blk.wf (b : Blk) : Prop where
  ops : ∀ o ∈ b.ops, o.wf
  body : ∀ o ∈ b.body, o.wf
  e0 : -128 ≤ b.en
  e1 : b.en ≤ 127
  a0 : 0 ≤ b.a
  a1 : b.a ≤ 255
  t0 : -9223372036854775808 ≤ b.th
  t1 : b.th ≤ 9223372036854775807
  l0 : -9223372036854775808 ≤ b.el
  l1 : b.el ≤ 9223372036854775807
  m0 : b.ops.length ≤ 140737488351232
  m1 : b.body.length ≤ 140737488351232
/-- Is a block's end one of a program of n blocks? -/
def endB (b : Blk) (n : Int) : Bool :=
  (decide (0 ≤ b.en) && decide (b.en ≤ 3)) && fitsB b.a (endA b.en) 32 && fitsB b.th (endT b.en) n && fitsB b.el (endO b.en) n && (endY b.en || b.body.length == 0)
theorem pfits_q (n below : Int) (c : Bool) (w : World) :
    Calls Try.prog 109 #[.int .i64 n, .bool c, .int .i64 below] w fun e w' => e = .returned (.bool (fitsB n c below)) ∧ w' = w := (pfits_any n below c w).mono fun _ _ h => ⟨h.1, h.2.symm⟩
set_option maxHeartbeats 4000000 in
set_option maxRecDepth 100000 in
theorem end_any (g o : Nat) (b : Blk) (n : Int) (w : World) (hb : BlkAt w g o b) (hw : b.wf) :
    Calls Try.prog 75 #[.pointer (some ⟨g, o, none⟩), .int .i64 n] w fun e w' => e = .returned (.bool (endB b n)) ∧ Below w.heap.size w w' := by
  obtain ⟨A, c, A2, c2, k0, k1, k2, k3, k4, k5, _, _, _, _⟩ := hb
  have hgs : g < w.heap.size := World.block_lt_of_cell? w _ k0
  obtain ⟨_, _, e0, e1, a0, a1, _, _, _, _, _, _⟩ := hw
  by_cases h : 0 ≤ b.en ∧ b.en ≤ 3
  · have ho := hid (fun w => of_end b.en w (by omega))
    have hE : endB b n = (fitsB b.a (endA b.en) 32 && fitsB b.th (endT b.en) n && fitsB b.el (endO b.en) n && (endY b.en || b.body.length == 0)) := by
      unfold endB
      rw [decide_eq_true h.1, decide_eq_true h.2]
      rfl
    clear h
    cases h1 : fitsB b.a (endA b.en) 32
    · rw [h1] at hE
      replace hE := hid hE
      go_enter Try.func75, Try.ntmps75
      go_wp2_with (go_at_call 108; (with_reducible refine (ho.out _).mono ?_); rintro e w1 ⟨rfl, hb⟩; obtain ⟨hc, hf⟩ := bcell hb; have hz := hb.size; have hg1 : g < w1.heap.size := (by omega))
      go_quiet ((go_at_call 109; exact Calls.quiet_of_same (pfits_q _ _ _ _)))
      go_wp2
      go_ret
      refine ⟨ret_bool hE.out.symm, ?_⟩
      ((with_reducible (repeat (first | assumption | exact Below.refl _ _ | refine bset ?_ (Nat.le_refl _) _ | refine balloc ?_ _ | refine bdrew ?_ | refine bdrewN ?_ _))); done)
    cases h2 : fitsB b.th (endT b.en) n
    · rw [h1, h2] at hE
      replace hE := hid hE
      go_enter Try.func75, Try.ntmps75
      go_wp2_with (go_at_call 108; (with_reducible refine (ho.out _).mono ?_); rintro e w1 ⟨rfl, hb⟩; obtain ⟨hc, hf⟩ := bcell hb; have hz := hb.size; have hg1 : g < w1.heap.size := (by omega))
      go_quiet ((go_at_call 109; exact Calls.quiet_of_same (pfits_q _ _ _ _)))
      go_wp2
      go_ret
      refine ⟨ret_bool hE.out.symm, ?_⟩
      ((with_reducible (repeat (first | assumption | exact Below.refl _ _ | refine bset ?_ (Nat.le_refl _) _ | refine balloc ?_ _ | refine bdrew ?_ | refine bdrewN ?_ _))); done)
    cases h3 : fitsB b.el (endO b.en) n
    · rw [h1, h2, h3] at hE
      replace hE := hid hE
      go_enter Try.func75, Try.ntmps75
      go_wp2_with (go_at_call 108; (with_reducible refine (ho.out _).mono ?_); rintro e w1 ⟨rfl, hb⟩; obtain ⟨hc, hf⟩ := bcell hb; have hz := hb.size; have hg1 : g < w1.heap.size := (by omega))
      go_quiet ((go_at_call 109; exact Calls.quiet_of_same (pfits_q _ _ _ _)))
      go_wp2
      go_ret
      refine ⟨ret_bool hE.out.symm, ?_⟩
      ((with_reducible (repeat (first | assumption | exact Below.refl _ _ | refine bset ?_ (Nat.le_refl _) _ | refine balloc ?_ _ | refine bdrew ?_ | refine bdrewN ?_ _))); done)
    cases h4 : endY b.en
    · have h5 : (b.body.length == 0) = ((b.body.length : Int) == 0) := by rw [Bool.eq_iff_iff]; simp
      rw [h1, h2, h3, h4, h5] at hE
      replace hE := hid hE
      go_enter Try.func75, Try.ntmps75
      go_wp2_with (go_at_call 108; (with_reducible refine (ho.out _).mono ?_); rintro e w1 ⟨rfl, hb⟩; obtain ⟨hc, hf⟩ := bcell hb; have hz := hb.size; have hg1 : g < w1.heap.size := (by omega))
      go_quiet ((go_at_call 109; exact Calls.quiet_of_same (pfits_q _ _ _ _)))
      go_wp2
      go_ret
      refine ⟨ret_bool hE.out.symm, ?_⟩
      ((with_reducible (repeat (first | assumption | exact Below.refl _ _ | refine bset ?_ (Nat.le_refl _) _ | refine balloc ?_ _ | refine bdrew ?_ | refine bdrewN ?_ _))); done)
    · rw [h1, h2, h3, h4] at hE
      replace hE := hid hE
      go_enter Try.func75, Try.ntmps75
      go_wp2_with (go_at_call 108; (with_reducible refine (ho.out _).mono ?_); rintro e w1 ⟨rfl, hb⟩; obtain ⟨hc, hf⟩ := bcell hb; have hz := hb.size; have hg1 : g < w1.heap.size := (by omega))
      go_quiet ((go_at_call 109; exact Calls.quiet_of_same (pfits_q _ _ _ _)))
      go_wp2
      go_ret
      refine ⟨ret_bool hE.out.symm, ?_⟩
      ((with_reducible (repeat (first | assumption | exact Below.refl _ _ | refine bset ?_ (Nat.le_refl _) _ | refine balloc ?_ _ | refine bdrew ?_ | refine bdrewN ?_ _))); done)
  · have ho := hid (fun w => of_noend b.en w (by omega) e0 e1)
    have hE : endB b n = false := by
      unfold endB
      by_cases h0 : 0 ≤ b.en
      · rw [decide_eq_false (show ¬ b.en ≤ 3 by omega), Bool.and_false]; rfl
      · rw [decide_eq_false h0]; rfl
    replace hE := hid hE
    clear h
    go_enter Try.func75, Try.ntmps75
    go_wp2_with (go_at_call 108; (with_reducible refine (ho.out _).mono ?_); rintro e w1 ⟨rfl, hb⟩; obtain ⟨hc, hf⟩ := bcell hb; have hz := hb.size; have hg1 : g < w1.heap.size := (by omega))
    go_quiet ((go_at_call 109; exact Calls.quiet_of_same (pfits_q _ _ _ _)))
    go_wp2
    go_ret
    refine ⟨ret_bool hE.out.symm, ?_⟩
    ((with_reducible (repeat (first | assumption | exact Below.refl _ _ | refine bset ?_ (Nat.le_refl _) _ | refine balloc ?_ _ | refine bdrew ?_ | refine bdrewN ?_ _))); done)
end Go.Proofs.Ytcibkoodnfkogaa
