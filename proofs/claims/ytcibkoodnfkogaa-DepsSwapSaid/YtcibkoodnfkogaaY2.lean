/- Blocks as plain data; the contract of program.end. -/
import Derived.Test.YtcibkoodnfkogaaY1
namespace Go.Proofs.Ytcibkoodnfkogaa
open Go.RowKit
set_option linter.unusedVariables false
set_option linter.unusedSimpArgs false
section
open Go.RowKit
/-- A block. -/
structure Blk where
  ops : List Op
  en : Int
  a : Int
  body : List Op
  th : Int
  el : Int
/-- A block's six cells lie at block g from place o on. -/
def BlkAt (w : World) (g o : Nat) (b : Blk) : Prop :=
  ∃ (A : Option Addr) (c : Nat) (A2 : Option Addr) (c2 : Nat),
    w.cell? ⟨g, o, none⟩ = some (.slice A b.ops.length c) ∧ w.cell? ⟨g, o + 1, none⟩ = some (.int .i8 b.en) ∧ w.cell? ⟨g, o + 2, none⟩ = some (.int .u8 b.a) ∧
    w.cell? ⟨g, o + 3, none⟩ = some (.slice A2 b.body.length c2) ∧ w.cell? ⟨g, o + 4, none⟩ = some (.int .i64 b.th) ∧ w.cell? ⟨g, o + 5, none⟩ = some (.int .i64 b.el) ∧
    OpsIn w A b.ops ∧ OpsIn w A2 b.body ∧ b.ops.length ≤ c ∧ b.body.length ≤ c2 ∧ (A = none → c = 0) ∧ (A2 = none → c2 = 0)
theorem BlkAt.keep {w w' : World} {g o : Nat} {b : Blk} (h : BlkAt w g o b) (hb : Below w.heap.size w w') : BlkAt w' g o b := by
  obtain ⟨A, c, A2, c2, h0, h1, h2, h3, h4, h5, h6, h7, h8, h9⟩ := h
  exact ⟨A, c, A2, c2, cell_keep h0 hb, cell_keep h1 hb, cell_keep h2 hb, cell_keep h3 hb, cell_keep h4 hb, cell_keep h5 hb, h6.keep hb, h7.keep hb, h8, h9⟩
/-- Its numbers are of their kinds; its lists are no longer than can be. -/
structure Blk.wf (b : Blk) : Prop where
  ops : ∀ o ∈ b.ops, o.wf
  body : ∀ o ∈ b.body, o.wf
  e0 : -128 ≤ b.en
  e1 : b.en ≤ 127
  a0 : 0 ≤ b.a
  a1 : b.a ≤ 255
  t0 : -9223372036854775808 ≤ b.th
  t1 : b.th ≤ 9223372036854775807
  l0 : -9223372036854775808 ≤ b.el
  l1 : b.el ≤ 9223372036854775807
  m0 : b.ops.length ≤ 140737488351232
  m1 : b.body.length ≤ 140737488351232
/-- Is a block's end one of a program of n blocks? -/
def endB (b : Blk) (n : Int) : Bool :=
  (decide (0 ≤ b.en) && decide (b.en ≤ 3)) && fitsB b.a (endA b.en) 32 && fitsB b.th (endT b.en) n && fitsB b.el (endO b.en) n && (endY b.en || b.body.length == 0)
theorem pfits_q (n below : Int) (c : Bool) (w : World) :
    Calls Try.prog 109 #[.int .i64 n, .bool c, .int .i64 below] w fun e w' => e = .returned (.bool (fitsB n c below)) ∧ w' = w := (pfits_any n below c w).mono fun _ _ h => ⟨h.1, h.2.symm⟩
set_option maxHeartbeats 4000000 in
set_option maxRecDepth 100000 in
theorem end_any (g o : Nat) (b : Blk) (n : Int) (w : World) (hb : BlkAt w g o b) (hw : b.wf) :
    Calls Try.prog 75 #[.pointer (some ⟨g, o, none⟩), .int .i64 n] w fun e w' => e = .returned (.bool (endB b n)) ∧ Below w.heap.size w w' := by
  obtain ⟨A, c, A2, c2, k0, k1, k2, k3, k4, k5, _, _, _, _⟩ := hb
  have hgs : g < w.heap.size := World.block_lt_of_cell? w _ k0
  obtain ⟨_, _, e0, e1, a0, a1, _, _, _, _, _, _⟩ := hw
  by_cases h : 0 ≤ b.en ∧ b.en ≤ 3
  · have ho := hid (fun w => of_end b.en w (by omega))
    have hE : endB b n = (fitsB b.a (endA b.en) 32 && fitsB b.th (endT b.en) n && fitsB b.el (endO b.en) n && (endY b.en || b.body.length == 0)) := by
      unfold endB
      rw [decide_eq_true h.1, decide_eq_true h.2]
      rfl
    clear h
    cases h1 : fitsB b.a (endA b.en) 32
    · rw [h1] at hE
      replace hE := hid hE
      go_enter Try.func75, Try.ntmps75
      go_wp2_with (go_at_call 108; (with_reducible refine (ho.out _).mono ?_); rintro e w1 ⟨rfl, hb⟩; obtain ⟨hc, hf⟩ := bcell hb; have hz := hb.size; have hg1 : g < w1.heap.size := (by omega))
      go_quiet ((go_at_call 109; exact Calls.quiet_of_same (pfits_q _ _ _ _)))
      go_wp2
      go_ret
      refine ⟨ret_bool hE.out.symm, ?_⟩
      ((with_reducible (repeat (first | assumption | exact Below.refl _ _ | refine bset ?_ (Nat.le_refl _) _ | refine balloc ?_ _ | refine bdrew ?_ | refine bdrewN ?_ _))); done)
    cases h2 : fitsB b.th (endT b.en) n
    · rw [h1, h2] at hE
      replace hE := hid hE
      go_enter Try.func75, Try.ntmps75
      go_wp2_with (go_at_call 108; (with_reducible refine (ho.out _).mono ?_); rintro e w1 ⟨rfl, hb⟩; obtain ⟨hc, hf⟩ := bcell hb; have hz := hb.size; have hg1 : g < w1.heap.size := (by omega))
      go_quiet ((go_at_call 109; exact Calls.quiet_of_same (pfits_q _ _ _ _)))
      go_wp2
      go_ret
      refine ⟨ret_bool hE.out.symm, ?_⟩
      ((with_reducible (repeat (first | assumption | exact Below.refl _ _ | refine bset ?_ (Nat.le_refl _) _ | refine balloc ?_ _ | refine bdrew ?_ | refine bdrewN ?_ _))); done)
    cases h3 : fitsB b.el (endO b.en) n
    · rw [h1, h2, h3] at hE
      replace hE := hid hE
      go_enter Try.func75, Try.ntmps75
      go_wp2_with (go_at_call 108; (with_reducible refine (ho.out _).mono ?_); rintro e w1 ⟨rfl, hb⟩; obtain ⟨hc, hf⟩ := bcell hb; have hz := hb.size; have hg1 : g < w1.heap.size := (by omega))
      go_quiet ((go_at_call 109; exact Calls.quiet_of_same (pfits_q _ _ _ _)))
      go_wp2
      go_ret
      refine ⟨ret_bool hE.out.symm, ?_⟩
      ((with_reducible (repeat (first | assumption | exact Below.refl _ _ | refine bset ?_ (Nat.le_refl _) _ | refine balloc ?_ _ | refine bdrew ?_ | refine bdrewN ?_ _))); done)
    cases h4 : endY b.en
    · have h5 : (b.body.length == 0) = ((b.body.length : Int) == 0) := by rw [Bool.eq_iff_iff]; simp
      rw [h1, h2, h3, h4, h5] at hE
      replace hE := hid hE
      go_enter Try.func75, Try.ntmps75
      go_wp2_with (go_at_call 108; (with_reducible refine (ho.out _).mono ?_); rintro e w1 ⟨rfl, hb⟩; obtain ⟨hc, hf⟩ := bcell hb; have hz := hb.size; have hg1 : g < w1.heap.size := (by omega))
      go_quiet ((go_at_call 109; exact Calls.quiet_of_same (pfits_q _ _ _ _)))
      go_wp2
      go_ret
      refine ⟨ret_bool hE.out.symm, ?_⟩
      ((with_reducible (repeat (first | assumption | exact Below.refl _ _ | refine bset ?_ (Nat.le_refl _) _ | refine balloc ?_ _ | refine bdrew ?_ | refine bdrewN ?_ _))); done)
    · rw [h1, h2, h3, h4] at hE
      replace hE := hid hE
      go_enter Try.func75, Try.ntmps75
      go_wp2_with (go_at_call 108; (with_reducible refine (ho.out _).mono ?_); rintro e w1 ⟨rfl, hb⟩; obtain ⟨hc, hf⟩ := bcell hb; have hz := hb.size; have hg1 : g < w1.heap.size := (by omega))
      go_quiet ((go_at_call 109; exact Calls.quiet_of_same (pfits_q _ _ _ _)))
      go_wp2
      go_ret
      refine ⟨ret_bool hE.out.symm, ?_⟩
      ((with_reducible (repeat (first | assumption | exact Below.refl _ _ | refine bset ?_ (Nat.le_refl _) _ | refine balloc ?_ _ | refine bdrew ?_ | refine bdrewN ?_ _))); done)
  · have ho := hid (fun w => of_noend b.en w (by omega) e0 e1)
    have hE : endB b n = false := by
      unfold endB
      by_cases h0 : 0 ≤ b.en
      · rw [decide_eq_false (show ¬ b.en ≤ 3 by omega), Bool.and_false]; rfl
      · rw [decide_eq_false h0]; rfl
    replace hE := hid hE
    clear h
    go_enter Try.func75, Try.ntmps75
    go_wp2_with (go_at_call 108; (with_reducible refine (ho.out _).mono ?_); rintro e w1 ⟨rfl, hb⟩; obtain ⟨hc, hf⟩ := bcell hb; have hz := hb.size; have hg1 : g < w1.heap.size := (by omega))
    go_quiet ((go_at_call 109; exact Calls.quiet_of_same (pfits_q _ _ _ _)))
    go_wp2
    go_ret
    refine ⟨ret_bool hE.out.symm, ?_⟩
    ((with_reducible (repeat (first | assumption | exact Below.refl _ _ | refine bset ?_ (Nat.le_refl _) _ | refine balloc ?_ _ | refine bdrew ?_ | refine bdrewN ?_ _))); done)
end
/- A program's blocks in memory; the contracts of program.Ops, Great, the document's Ops. -/
section
open Go.RowKit
/-- A list of blocks lies from address A on. -/
def BlksIn (w : World) (A : Option Addr) (l : List Blk) : Prop :=
  l ≠ [] → ∃ g off, A = some ⟨g, off, none⟩ ∧ ∀ i b, l[i]? = some b → BlkAt w g (off + i * 6) b
theorem BlksIn.keep {w w' : World} {A : Option Addr} {l : List Blk} (h : BlksIn w A l) (hb : Below w.heap.size w w') : BlksIn w' A l := fun hl => by
  obtain ⟨g, off, ha, hx⟩ := h hl
  exact ⟨g, off, ha, fun i b hi => (hx i b hi).keep hb⟩
theorem BlksIn.get {w : World} {A : Option Addr} {l : List Blk} (h : BlksIn w A l) (i : Nat) (hi : i < l.length) :
    ∃ g off, A = some ⟨g, off, none⟩ ∧ BlkAt w g (off + i * 6) l[i] := by
  obtain ⟨g, off, ha, hx⟩ := h (by rintro rfl; simp at hi)
  exact ⟨g, off, ha, hx i l[i] (List.getElem?_eq_getElem hi)⟩
/-- How many operations the blocks hold. -/
def sumB (l : List Blk) : Nat := (l.map fun b => b.ops.length + b.body.length).sum
theorem sumB_step {l : List Blk} {i : Nat} (hi : i < l.length) : sumB (l.take (i + 1)) = sumB (l.take i) + (l[i].ops.length + l[i].body.length) := by
  unfold sumB
  rw [List.take_add_one, List.getElem?_eq_getElem hi]
  simp only [Option.toList_some, List.map_append, List.sum_append, List.map_cons, List.map_nil, List.sum_cons, List.sum_nil]
  omega
theorem sumB_le {l : List Blk} (hw : ∀ b ∈ l, b.wf) (i : Nat) (hi : i ≤ l.length) : sumB (l.take i) ≤ i * 281474976702464 := by
  induction i with
  | zero => simp [sumB]
  | succ i ih =>
    rw [sumB_step (by omega)]
    have h := hw l[i] (List.getElem_mem (by omega))
    have h1 := h.m0
    have h2 := h.m1
    have := ih (by omega)
    omega
theorem sumB_mono {l : List Blk} (i : Nat) (hi : i ≤ l.length) : sumB (l.take i) ≤ sumB l := by
  have h : sumB (l.take i ++ l.drop i) = sumB (l.take i) + sumB (l.drop i) := by
    unfold sumB
    rw [List.map_append, List.sum_append]
  rw [List.take_append_drop] at h
  omega
set_option maxHeartbeats 4000000 in
set_option maxRecDepth 100000 in
theorem pops_any (A : Option Addr) (l : List Blk) (cap : Nat) (w : World) (hl : BlksIn w A l) (hw : ∀ b ∈ l, b.wf) (hm : l.length ≤ 8193) :
    Calls Try.prog 40 #[.agg #[.slice A l.length cap]] w fun e w' => e = .returned (.int .i64 (l.length + sumB l)) ∧ Below w.heap.size w w' := by
  have HL := hid hl
  have HW := hid hw
  clear hl hw
  go_enter Try.func40, Try.ntmps40
  go_wp2
  go_loopg [3, 12] l.length (fun g v3 v wr => ∃ i : Nat, i ≤ l.length ∧ v = .int .i64 i ∧ v3 = .int .i64 (l.length + sumB (l.take i)) ∧ Hid (g + i = l.length) ∧ Below w.heap.size w wr)
  case atStart =>
    refine ⟨0, by omega, rfl, ?_, by exact Nat.add_zero _, ?_⟩
    · simp [sumB]
    · ((with_reducible (repeat (first | assumption | exact Below.refl _ _ | refine bset ?_ (Nat.le_refl _) _ | refine balloc ?_ _ | refine bdrew ?_ | refine bdrewN ?_ _))); done)
  case round =>
    obtain ⟨i, hi, rfl, rfl, hg, hbw⟩ := hrel
    by_cases hlt : i < l.length
    · obtain ⟨g, off, rfl, hop⟩ := (BlksIn.keep HL.out hbw).get i hlt
      obtain ⟨B, c, B2, c2, k0, k1, k2, k3, k4, k5, _, _, _, _⟩ := hop
      have hwf := HW.out l[i] (List.getElem_mem hlt)
      have m0 := hwf.m0
      have m1 := hwf.m1
      have hs := sumB_le HW.out i hi
      have hgs : g < wr.heap.size := World.block_lt_of_cell? wr _ k0
      have hb0 := hbw
      have hstep := hid (sumB_step hlt)
      have hsm : ((sumB (List.take i l) : Nat) : Int) ≤ 8193 * 281474976702464 := by omega
      generalize hS : sumB (List.take i l) = S at *
      go_wp2
      go_roundg (l.length - (i + 1))
      case measure => have := hg.out; omega
      case rel =>
        refine ⟨i + 1, by omega, by go_num, ?_, by show _ + _ = _; omega, ?_⟩
        · have := hstep.out
          first | go_num | (congr 1; omega)
        · ((with_reducible (repeat (first | assumption | exact Below.refl _ _ | refine bset ?_ (Nat.le_refl _) _ | refine balloc ?_ _ | refine bdrew ?_ | refine bdrewN ?_ _))); done)
    · obtain rfl : i = l.length := by omega
      rw [List.take_length]
      go_wp2
      go_ret
      exact ⟨rfl, hbw⟩
end
/- The document's Ops; Great. -/
section
open Go.RowKit
set_option maxHeartbeats 4000000 in
set_option maxRecDepth 100000 in
theorem rpops_any (A : Option Addr) (l : List Blk) (cap : Nat) (w : World) (hl : BlksIn w A l) (hw : ∀ b ∈ l, b.wf) (hm : l.length ≤ 8193) :
    Calls Try.prog 41 #[.agg #[.slice A l.length cap]] w fun e w' => e = .returned (.int .i64 (l.length + sumB l)) ∧ Below w.heap.size w w' := by
  have HL := hid hl
  have HW := hid hw
  clear hl hw
  go_enter Try.func41, Try.ntmps41
  go_wp2
  go_loopg [3, 4] l.length (fun g v3 v wr => ∃ i : Nat, i ≤ l.length ∧ v = .int .i64 i ∧ v3 = .int .i64 (i + sumB (l.take i)) ∧ Hid (g + i = l.length) ∧ wr.cell? ⟨w.heap.size, 0, none⟩ = some (.slice A l.length cap) ∧ Below w.heap.size w wr)
  case atStart =>
    refine ⟨0, by omega, rfl, ?_, by exact Nat.add_zero _, by simp, ?_⟩
    · simp [sumB]
    · ((with_reducible (repeat (first | assumption | exact Below.refl _ _ | refine bset ?_ (Nat.le_refl _) _ | refine balloc ?_ _ | refine bdrew ?_ | refine bdrewN ?_ _))); done)
  case round =>
    obtain ⟨i, hi, rfl, rfl, hg, hcell, hbw⟩ := hrel
    have hgw : w.heap.size < wr.heap.size := World.block_lt_of_cell? wr _ hcell
    by_cases hlt : i < l.length
    · obtain ⟨g, off, rfl, hop⟩ := (BlksIn.keep HL.out hbw).get i hlt
      obtain ⟨B, c, B2, c2, k0, k1, k2, k3, k4, k5, _, _, _, _⟩ := hop
      have hwf := HW.out l[i] (List.getElem_mem hlt)
      have m0 := hwf.m0
      have m1 := hwf.m1
      have hs := sumB_le HW.out i hi
      have hgs : g < wr.heap.size := World.block_lt_of_cell? wr _ k0
      have hb0 := hbw
      have hstep := hid (sumB_step hlt)
      have hsm : ((sumB (List.take i l) : Nat) : Int) ≤ 8193 * 281474976702464 := by omega
      have hij : (i : Int) < (l.length : Int) := by omega
      have hi0 : (0 : Int) ≤ (i : Int) := by omega
      generalize hS : sumB (List.take i l) = S at *
      go_wp2
      go_quiet (fail)
      go_wp2
      go_roundg (l.length - (i + 1))
      case measure => have := hg.out; omega
      case rel =>
        refine ⟨i + 1, by omega, by go_num, ?_, by show _ + _ = _; omega, by simpa using hcell, ?_⟩
        · have := hstep.out
          first | go_num | (congr 1; omega)
        · ((with_reducible (repeat (first | assumption | exact Below.refl _ _ | refine bset ?_ (Nat.le_refl _) _ | refine balloc ?_ _ | refine bdrew ?_ | refine bdrewN ?_ _))); done)
    · obtain rfl : i = l.length := by omega
      rw [List.take_length]
      go_wp2
      go_ret
      exact ⟨rfl, hbw⟩
/-- Has a program more than 2^13 operations or blocks? -/
def greatB (l : List Blk) : Bool := decide (8192 < l.length + sumB l)
set_option maxHeartbeats 4000000 in
set_option maxRecDepth 100000 in
theorem great_any (A : Option Addr) (l : List Blk) (cap : Nat) (w : World) (hl : BlksIn w A l) (hw : ∀ b ∈ l, b.wf) (hm : l.length ≤ 9223372036854775807) :
    Calls Try.prog 34 #[.agg #[.slice A l.length cap]] w fun e w' => e = .returned (.bool (greatB l)) ∧ Below w.heap.size w w' := by
  have HL := hid hl
  have HW := hid hw
  clear hl hw
  go_enter Try.func34, Try.ntmps34
  go_wp2
  go_loopg [3, 4] l.length (fun g v3 v wr => ∃ i : Nat, i ≤ l.length ∧ v = .int .i64 i ∧ v3 = .int .i64 (l.length + sumB (l.take i)) ∧ Hid (g + i = l.length) ∧ Hid (i = 0 ∨ l.length ≤ 8192) ∧ wr.cell? ⟨w.heap.size, 0, none⟩ = some (.slice A l.length cap) ∧ Below w.heap.size w wr)
  case atStart =>
    refine ⟨0, by omega, rfl, ?_, by exact Nat.add_zero _, hid (.inl rfl), by simp, ?_⟩
    · simp [sumB]
    · ((with_reducible (repeat (first | assumption | exact Below.refl _ _ | refine bset ?_ (Nat.le_refl _) _ | refine balloc ?_ _ | refine bdrew ?_ | refine bdrewN ?_ _))); done)
  case round =>
    obtain ⟨i, hi, rfl, rfl, hg, h0, hcell, hbw⟩ := hrel
    have hgw : w.heap.size < wr.heap.size := World.block_lt_of_cell? wr _ hcell
    have hmono := sumB_mono i hi
    have hs0 : i = 0 → sumB (l.take i) = 0 := by rintro rfl; simp [sumB]
    have hs := sumB_le HW.out i hi
    by_cases hlt : i < l.length
    · by_cases hgt : 8192 < l.length + sumB (l.take i)
      · have e0 := hid (show greatB l = true by unfold greatB; exact decide_eq_true (by omega))
        have hub : ((sumB (List.take i l) : Nat) : Int) + l.length ≤ 9223372036854775807 := by
          rcases h0.out with h | h
          · rw [hs0 h]; omega
          · omega
        have hgt2 : ¬ (l.length : Int) + (sumB (List.take i l) : Nat) ≤ 8192 := by omega
        have hgt3 : (8192 : Int) < (l.length : Int) + (sumB (List.take i l) : Nat) := by omega
        clear hs0 hs hmono
        generalize hS : sumB (List.take i l) = S at *
        go_wp2
        go_ret
        refine ⟨ret_bool e0.out.symm, ?_⟩
        ((with_reducible (repeat (first | assumption | exact Below.refl _ _ | refine bset ?_ (Nat.le_refl _) _ | refine balloc ?_ _ | refine bdrew ?_ | refine bdrewN ?_ _))); done)
      · obtain ⟨g, off, rfl, hop⟩ := (BlksIn.keep HL.out hbw).get i hlt
        obtain ⟨B, c, B2, c2, k0, k1, k2, k3, k4, k5, _, _, _, _⟩ := hop
        have hwf := HW.out l[i] (List.getElem_mem hlt)
        have m0 := hwf.m0
        have m1 := hwf.m1
        have hgs : g < wr.heap.size := World.block_lt_of_cell? wr _ k0
        have hb0 := hbw
        have hstep := hid (sumB_step hlt)
        have hsm : (l.length : Int) + ((sumB (List.take i l) : Nat) : Int) ≤ 8192 := by omega
        have hij : (i : Int) < (l.length : Int) := by omega
        have hi0 : (0 : Int) ≤ (i : Int) := by omega
        have hle := hid (show l.length ≤ 8192 by omega)
        clear hs0 hs hmono hgt
        generalize hS : sumB (List.take i l) = S at *
        go_wp2
        go_quiet (fail)
        go_wp2
        go_roundg (l.length - (i + 1))
        case measure => have := hg.out; omega
        case rel =>
          refine ⟨i + 1, by omega, by go_num, ?_, by show _ + _ = _; omega, hid (.inr hle.out), by simpa using hcell, ?_⟩
          · have := hstep.out
            first | go_num | (congr 1; omega)
          · ((with_reducible (repeat (first | assumption | exact Below.refl _ _ | refine bset ?_ (Nat.le_refl _) _ | refine balloc ?_ _ | refine bdrew ?_ | refine bdrewN ?_ _))); done)
    · obtain rfl : i = l.length := by omega
      rw [List.take_length] at hs hs0 hmono ⊢
      have hub : ((sumB l : Nat) : Int) + l.length ≤ 9223372036854775807 := by
        rcases h0.out with h | h
        · rw [hs0 h]; omega
        · omega
      by_cases hgt : 8192 < l.length + sumB l
      · have e0 := hid (show greatB l = true by unfold greatB; exact decide_eq_true hgt)
        have hgt2 : (8192 : Int) < (l.length : Int) + (sumB l : Nat) := by omega
        clear hs0 hs hmono
        generalize hS : sumB l = S at *
        go_wp2
        go_ret
        refine ⟨ret_bool e0.out.symm, ?_⟩
        ((with_reducible (repeat (first | assumption | exact Below.refl _ _ | refine bset ?_ (Nat.le_refl _) _ | refine balloc ?_ _ | refine bdrew ?_ | refine bdrewN ?_ _))); done)
      · have e0 := hid (show greatB l = false by unfold greatB; exact decide_eq_false hgt)
        have hgt2 : ¬ (8192 : Int) < (l.length : Int) + (sumB l : Nat) := by omega
        clear hs0 hs hmono
        generalize hS : sumB l = S at *
        go_wp2
        go_ret
        refine ⟨ret_bool e0.out.symm, ?_⟩
        ((with_reducible (repeat (first | assumption | exact Below.refl _ _ | refine bset ?_ (Nat.le_refl _) _ | refine balloc ?_ _ | refine bdrew ?_ | refine bdrewN ?_ _))); done)
end
/- The contract of program.Check. -/
section
open Go.RowKit
/-- What is wrong with a block of a program of n blocks (0: nothing). -/
def blkE (b : Blk) (n : Int) : Int := if allOk b.ops then (if endB b n then (if allOk b.body then 0 else 30) else 50) else 30
def firstE (n : Int) : List Blk → Int
  | [] => 0
  | b :: r => if blkE b n = 0 then firstE n r else blkE b n
def prgE (l : List Blk) : Int := if 128 < l.length ∨ 1024 < l.length + sumB l then 3 else if l.length = 0 then 50 else firstE l.length l
theorem firstE_step (n : Int) (l : List Blk) {i : Nat} (hi : i < l.length) : firstE n (l.drop i) = if blkE l[i] n = 0 then firstE n (l.drop (i + 1)) else blkE l[i] n := by
  rw [List.drop_eq_getElem_cons hi]
  rfl
set_option maxHeartbeats 4000000 in
set_option maxRecDepth 100000 in
theorem prg_check_any (A : Option Addr) (l : List Blk) (cap : Nat) (w : World) (hl : BlksIn w A l) (hw : ∀ b ∈ l, b.wf) (hm : l.length ≤ 9223372036854775807) :
    Calls Try.prog 35 #[.agg #[.slice A l.length cap]] w fun e w' => e = .returned (.int .i64 (prgE l)) ∧ Below w.heap.size w w' := by
  have HL := hid hl
  have HW := hid hw
  clear hl hw
  by_cases hn : 128 < l.length
  · have e0 := hid (show prgE l = 3 by unfold prgE; rw [if_pos (.inl hn)])
    have hn2 : (128 : Int) < l.length := by omega
    go_enter Try.func35, Try.ntmps35
    go_wp2
    go_ret
    refine ⟨ret_int e0.out.symm, ?_⟩
    ((with_reducible (repeat (first | assumption | exact Below.refl _ _ | refine bset ?_ (Nat.le_refl _) _ | refine balloc ?_ _ | refine bdrew ?_ | refine bdrewN ?_ _))); done)
  have hops := hid (fun w hl => pops_any A l cap w hl HW.out (by omega))
  have hn2 : ¬ (128 : Int) < l.length := by omega
  by_cases hs : 1024 < l.length + sumB l
  · have e0 := hid (show prgE l = 3 by unfold prgE; rw [if_pos (.inr hs)])
    have hub := sumB_le HW.out l.length (Nat.le_refl _)
    rw [List.take_length] at hub
    have hs2 := hid (show (1024 : Int) < l.length + (sumB l : Nat) by omega)
    clear hs hub
    go_enter Try.func35, Try.ntmps35
    go_wp2_with fail
    with_reducible refine (hops.out _ (BlksIn.keep (w := w) HL.out ?_)).mono ?_
    · ((with_reducible (repeat (first | assumption | exact Below.refl _ _ | refine bset ?_ (Nat.le_refl _) _ | refine balloc ?_ _ | refine bdrew ?_ | refine bdrewN ?_ _))); done)
    rintro e w1 ⟨rfl, hb⟩
    replace hs2 := hs2.out
    go_wp2
    go_ret
    refine ⟨ret_int e0.out.symm, btrans (a := w) ?_ hb⟩
    ((with_reducible (repeat (first | assumption | exact Below.refl _ _ | refine bset ?_ (Nat.le_refl _) _ | refine balloc ?_ _ | refine bdrew ?_ | refine bdrewN ?_ _))); done)
  have hs2 := hid (show ¬ (1024 : Int) < l.length + (sumB l : Nat) by omega)
  have e1 : prgE l = if l.length = 0 then 50 else firstE l.length l := by unfold prgE; rw [if_neg (by omega)]
  clear hs
  by_cases hz : l.length = 0
  · rw [if_pos hz] at e1
    replace e1 := hid e1
    have hzi := hid (show (l.length : Int) = 0 by omega)
    clear hz
    go_enter Try.func35, Try.ntmps35
    go_wp2_with fail
    with_reducible refine (hops.out _ (BlksIn.keep (w := w) HL.out ?_)).mono ?_
    · ((with_reducible (repeat (first | assumption | exact Below.refl _ _ | refine bset ?_ (Nat.le_refl _) _ | refine balloc ?_ _ | refine bdrew ?_ | refine bdrewN ?_ _))); done)
    rintro e w1 ⟨rfl, hb⟩
    obtain ⟨hc, hf⟩ := bcell hb
    have hzz := bsize hb
    replace hs2 := hs2.out
    have hz := hzi.out
    go_wp2
    go_ret
    refine ⟨ret_int e1.out.symm, btrans (a := w) ?_ hb⟩
    ((with_reducible (repeat (first | assumption | exact Below.refl _ _ | refine bset ?_ (Nat.le_refl _) _ | refine balloc ?_ _ | refine bdrew ?_ | refine bdrewN ?_ _))); done)
  rw [if_neg hz] at e1
  replace e1 := hid e1
  have hz2 : ¬ (l.length : Int) = 0 := by omega
  have hz3 : (0 : Int) < l.length := by omega
  have hzb : ((l.length : Int) == 0) = false := by rw [Bool.eq_false_iff]; intro h; exact hz2 (by simpa using h)
  go_enter Try.func35, Try.ntmps35
  go_wp2_with fail
  with_reducible refine (hops.out _ (BlksIn.keep (w := w) HL.out ?_)).mono ?_
  · ((with_reducible (repeat (first | assumption | exact Below.refl _ _ | refine bset ?_ (Nat.le_refl _) _ | refine balloc ?_ _ | refine bdrew ?_ | refine bdrewN ?_ _))); done)
  rintro e w1 ⟨rfl, hb⟩
  have B1 : Hid (Below w.heap.size w w1) := hid (btrans (a := w) (by ((with_reducible (repeat (first | assumption | exact Below.refl _ _ | refine bset ?_ (Nat.le_refl _) _ | refine balloc ?_ _ | refine bdrew ?_ | refine bdrewN ?_ _))); done)) hb)
  have hcell0 : w1.cell? ⟨w.heap.size, 0, none⟩ = some (.slice A l.length cap) := cell_keep (by simp) hb
  clear hb
  have hs3 := hs2.out
  go_wp2
  clear hs3
  go_loopg [21] l.length (fun g v wr => ∃ i : Nat, i ≤ l.length ∧ v = .int .i64 i ∧ Hid (g + i = l.length) ∧ Hid (firstE l.length (l.drop i) = firstE l.length l) ∧ wr.cell? ⟨w.heap.size, 0, none⟩ = some (.slice A l.length cap) ∧ Below w.heap.size w wr)
  case atStart => exact ⟨0, by omega, rfl, by exact Nat.add_zero _, hid rfl, hcell0, B1.out⟩
  case round =>
    obtain ⟨i, hi, rfl, hg, hfs, hcell, hbw⟩ := hrel
    have hgw : w.heap.size < wr.heap.size := World.block_lt_of_cell? wr _ hcell
    by_cases hlt : i < l.length
    · obtain ⟨g, off, rfl, hop⟩ := (BlksIn.keep HL.out hbw).get i hlt
      have HO := hid hop
      obtain ⟨B, c, B2, c2, k0, k1, k2, k3, k4, k5, o1, o2, _, _⟩ := hop
      have O1 := hid o1
      have O2 := hid o2
      clear o1 o2
      have hwf := hid (HW.out l[i] (List.getElem_mem hlt))
      have m0 := hwf.out.m0
      have m1 := hwf.out.m1
      have hgs : g < wr.heap.size := World.block_lt_of_cell? wr _ k0
      have hb0 := hid hbw
      clear hbw
      have hstep := firstE_step l.length l hlt
      rw [hfs.out] at hstep
      have hij : (i : Int) < (l.length : Int) := by omega
      have hi0 : (0 : Int) ≤ (i : Int) := by omega
      have C1 := hid (fun (w : World) (h : OpsIn w B l[i].ops) => all_any B l[i].ops c w h hwf.out.ops (by omega))
      have C2 := hid (fun (w : World) (h : BlkAt w g (off + i * 6) l[i]) => end_any g (off + i * 6) l[i] l.length w h hwf.out)
      have C3 := hid (fun (w : World) (h : OpsIn w B2 l[i].body) => all_any B2 l[i].body c2 w h hwf.out.body (by omega))
      cases h1 : allOk l[i].ops
      · rw [show blkE l[i] l.length = 30 by unfold blkE; rw [h1]; rfl, if_neg (by decide), ← e1.out] at hstep
        replace hstep := hid hstep
        rw [h1] at C1
        go_wp2_with fail
        with_reducible refine (C1.out _ O1.out).mono ?_
        rintro e w2 ⟨rfl, hb⟩
        go_wp2
        go_ret
        exact ⟨ret_int hstep.out.symm, btrans hb0.out hb⟩
      cases h2 : endB l[i] l.length
      · rw [show blkE l[i] l.length = 50 by unfold blkE; rw [h1, h2]; rfl, if_neg (by decide), ← e1.out] at hstep
        replace hstep := hid hstep
        rw [h1] at C1
        rw [h2] at C2
        go_wp2_with fail
        with_reducible refine (C1.out _ O1.out).mono ?_
        rintro e w2 ⟨rfl, hb⟩
        have B2 := hid (btrans hb0.out hb)
        have HO2 := hid (HO.out.keep hb)
        have hcell2 := cell_keep hcell hb
        clear hb
        go_wp2_with fail
        with_reducible refine (C2.out _ HO2.out).mono ?_
        rintro e w3 ⟨rfl, hb⟩
        go_wp2
        go_ret
        exact ⟨ret_int hstep.out.symm, btrans B2.out hb⟩
      cases h3 : allOk l[i].body
      · rw [show blkE l[i] l.length = 30 by unfold blkE; rw [h1, h2, h3]; rfl, if_neg (by decide), ← e1.out] at hstep
        replace hstep := hid hstep
        rw [h1] at C1
        rw [h2] at C2
        rw [h3] at C3
        go_wp2_with fail
        with_reducible refine (C1.out _ O1.out).mono ?_
        rintro e w2 ⟨rfl, hb⟩
        have B2 := hid (btrans hb0.out hb)
        have HO2 := hid (HO.out.keep hb)
        have hcell2 := cell_keep hcell hb
        have k32 := cell_keep k3 hb
        have O22 := hid (O2.out.keep hb)
        clear hb
        go_wp2_with fail
        with_reducible refine (C2.out _ HO2.out).mono ?_
        rintro e w3 ⟨rfl, hb⟩
        have B3 := hid (btrans B2.out hb)
        have hcell3 := cell_keep hcell2 hb
        have k33 := cell_keep k32 hb
        have O23 := hid (O22.out.keep hb)
        clear hb
        go_wp2_with fail
        with_reducible refine (C3.out _ O23.out).mono ?_
        rintro e w4 ⟨rfl, hb⟩
        go_wp2
        go_ret
        exact ⟨ret_int hstep.out.symm, btrans B3.out hb⟩
      · rw [show blkE l[i] l.length = 0 by unfold blkE; rw [h1, h2, h3]; rfl, if_pos rfl] at hstep
        replace hstep := hid hstep
        rw [h1] at C1
        rw [h2] at C2
        rw [h3] at C3
        go_wp2_with fail
        with_reducible refine (C1.out _ O1.out).mono ?_
        rintro e w2 ⟨rfl, hb⟩
        have B2 := hid (btrans hb0.out hb)
        have HO2 := hid (HO.out.keep hb)
        have hcell2 := cell_keep hcell hb
        have k32 := cell_keep k3 hb
        have O22 := hid (O2.out.keep hb)
        clear hb
        go_wp2_with fail
        with_reducible refine (C2.out _ HO2.out).mono ?_
        rintro e w3 ⟨rfl, hb⟩
        have B3 := hid (btrans B2.out hb)
        have hcell3 := cell_keep hcell2 hb
        have k33 := cell_keep k32 hb
        have O23 := hid (O22.out.keep hb)
        clear hb
        go_wp2_with fail
        with_reducible refine (C3.out _ O23.out).mono ?_
        rintro e w4 ⟨rfl, hb⟩
        go_wp2
        go_roundg (l.length - (i + 1))
        case measure => have := hg.out; omega
        case rel => exact ⟨i + 1, by omega, by go_num, by show _ + _ = _; omega, hid hstep.out.symm, cell_keep hcell3 hb, btrans B3.out hb⟩
    · obtain rfl : i = l.length := by omega
      have e2 := hfs.out
      rw [List.drop_length] at e2
      replace e2 := hid (e1.out.trans e2.symm)
      go_wp2
      go_ret
      exact ⟨ret_int e2.out.symm, hbw⟩
end
end Go.Proofs.Ytcibkoodnfkogaa
