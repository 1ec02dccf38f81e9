/- Programs as plain data; the contracts of program.all, of, fits. -/
import Derived.Test.YtpiagggnjppkhaaZ1
namespace Go.Proofs.Ytpiagggnjppkhaa
open Go.RowKit
set_option linter.unusedVariables false
set_option linter.unusedSimpArgs false
section
open Go.RowKit
/-- Is it an operation of a program? -/
def opOk (o : Op) : Bool := decide (1 ≤ o.k) && decide (o.k ≤ 17) && chk o
def allOk (l : List Op) : Bool := l.all opOk
theorem allOk_no {l : List Op} {i : Nat} (hi : i < l.length) (h : opOk l[i] = false) : allOk l = false := by
  rw [Bool.eq_false_iff]
  intro ha
  have := List.all_eq_true.1 ha l[i] (List.getElem_mem hi)
  rw [h] at this
  cases this
theorem allOk_yes {l : List Op} (h : ∀ j (hj : j < l.length), opOk l[j] = true) : allOk l = true := by
  refine List.all_eq_true.2 fun o hm => ?_
  obtain ⟨j, hj, rfl⟩ := List.getElem_of_mem hm
  exact h j hj
set_option maxHeartbeats 4000000 in
set_option maxRecDepth 100000 in
theorem all_any (A : Option Addr) (l : List Op) (cap : Nat) (w : World) (hl : OpsIn w A l) (hw : ∀ o ∈ l, o.wf) (hm : l.length ≤ 1000000000000000000) :
    Calls Try.prog 63 #[.slice A l.length cap] w fun e w' => e = .returned (.bool (allOk l)) ∧ Below w.heap.size w w' := by
  have HL := hid hl
  have HW := hid hw
  clear hl hw
  go_enter Try.func63, Try.ntmps63
  go_wp2
  go_loopg [7] l.length (fun g v wr => ∃ i : Nat, i ≤ l.length ∧ v = .int .i64 i ∧ Hid (g + i = l.length) ∧ Hid (∀ j (hj : j < i) (hj2 : j < l.length), opOk l[j] = true) ∧ Below w.heap.size w wr)
  case atStart => exact ⟨0, by omega, rfl, by exact Nat.add_zero _, fun j hj => by omega, Below.refl _ _⟩
  case round =>
    obtain ⟨i, hi, rfl, hg, hall, hbw⟩ := hrel
    by_cases hlt : i < l.length
    · obtain ⟨g, off, rfl, hop⟩ := (OpsIn.keep HL.out hbw).get i hlt
      obtain ⟨c0, c1, c2, c3, c4⟩ := hop
      have hwf := hid (HW.out l[i] (List.getElem_mem hlt))
      have hb0 := hbw
      by_cases h1 : l[i].k < 1
      · have e0 := hid (allOk_no hlt (show opOk l[i] = false by unfold opOk; rw [decide_eq_false (by omega)]; rfl))
        go_wp2
        go_ret
        refine ⟨ret_bool e0.out.symm, ?_⟩
        ((with_reducible (repeat (first | assumption | exact Below.refl _ _ | refine bset ?_ (Nat.le_refl _) _ | refine balloc ?_ _ | refine bdrew ?_ | refine bdrewN ?_ _))); done)
      by_cases h2 : 17 < l[i].k
      · have e0 := hid (allOk_no hlt (show opOk l[i] = false by unfold opOk; rw [decide_eq_false (show ¬ l[i].k ≤ 17 by omega), Bool.and_false]; rfl))
        go_wp2
        go_ret
        refine ⟨ret_bool e0.out.symm, ?_⟩
        ((with_reducible (repeat (first | assumption | exact Below.refl _ _ | refine bset ?_ (Nat.le_refl _) _ | refine balloc ?_ _ | refine bdrew ?_ | refine bdrewN ?_ _))); done)
      have hck := fun w => check_any l[i] w hwf.out
      cases h3 : chk l[i]
      · have e0 := hid (allOk_no hlt (show opOk l[i] = false by unfold opOk; rw [h3, Bool.and_false]))
        have e1 : chkE l[i] = 30 := by unfold chkE; rw [h3]; rfl
        rw [e1] at hck
        have HC := hid hck
        clear e1 hck h3
        go_wp2_with (go_at_call 52; (with_reducible refine (HC.out _).mono ?_); rintro e w' ⟨rfl, hb⟩)
        go_ret
        exact ⟨ret_bool e0.out.symm, below_step hb0 hb⟩
      · have e0 := hid (show opOk l[i] = true by unfold opOk; rw [h3, decide_eq_true (by omega), decide_eq_true (show l[i].k ≤ 17 by omega)]; rfl)
        have e1 : chkE l[i] = 0 := by unfold chkE; rw [h3]; rfl
        rw [e1] at hck
        have HC := hid hck
        clear e1 hck h3
        go_wp2_with (go_at_call 52; (with_reducible refine (HC.out _).mono ?_); rintro e w' ⟨rfl, hb⟩)
        go_roundg (l.length - (i + 1))
        case measure => have := hg.out; omega
        case rel =>
          refine ⟨i + 1, by omega, by go_num, by show _ + _ = _; omega, fun j hj hj2 => ?_, below_step hb0 hb⟩
          by_cases h : j < i
          · exact hall.out j h hj2
          · obtain rfl : j = i := by omega
            exact e0.out
    · obtain rfl : i = l.length := by omega
      have e0 := hid (allOk_yes (l := l) fun j hj => hall.out j hj hj)
      go_wp2
      go_ret
      exact ⟨ret_bool e0.out.symm, hbw⟩
/-- Is a number below another one; or 0, if it does not count? -/
def fitsB (n : Int) (c : Bool) (below : Int) : Bool := if c then decide (0 ≤ n) && decide (n < below) else n == 0
set_option maxHeartbeats 4000000 in
set_option maxRecDepth 100000 in
theorem pfits_any (n below : Int) (c : Bool) (w : World) :
    Calls Try.prog 96 #[.int .i64 n, .bool c, .int .i64 below] w fun e w' => e = .returned (.bool (fitsB n c below)) ∧ w = w' := by
  cases c
  · go_enter Try.func96, Try.ntmps96
    go_wp2
    go_ret
    exact ⟨rfl, rfl⟩
  · by_cases h : 0 ≤ n
    · have e : fitsB n true below = decide (n < below) := by unfold fitsB; rw [decide_eq_true h]; rfl
      rw [e]
      clear e
      go_enter Try.func96, Try.ntmps96
      go_wp2
      go_ret
      exact ⟨rfl, rfl⟩
    · have e : fitsB n true below = false := by unfold fitsB; rw [decide_eq_false h]; rfl
      rw [e]
      clear e
      go_enter Try.func96, Try.ntmps96
      go_wp2
      go_ret
      exact ⟨rfl, rfl⟩
/-- What counts of an end: a, then, other, body. -/
def endA (k : Int) : Bool := !(k == 0)
def endT (k : Int) : Bool := !(k == 2)
def endO (k : Int) : Bool := k == 1
def endY (k : Int) : Bool := k == 3
set_option maxHeartbeats 4000000 in
set_option maxRecDepth 100000 in
theorem of_end (k : Int) (w : World) (h : k = 0 ∨ k = 1 ∨ k = 2 ∨ k = 3) :
    Calls Try.prog 95 #[.int .i8 k] w fun e w' => e = .returned (.tuple #[.agg #[.bool (endA k), .bool (endT k), .bool (endO k), .bool (endY k)], .bool true]) ∧ Below w.heap.size w w' := by
  rcases h with rfl | rfl | rfl | rfl
  all_goals
    go_enter Try.func95, Try.ntmps95
    go_wp2
    refine bodyPost_ret (v := .tuple #[.agg #[_, _, _, _], .bool true]) (by simp [results, Try.results95, go_sem]; first | rfl | exact ⟨rfl, rfl, rfl, rfl⟩) rfl ⟨rfl, ?_⟩
    ((with_reducible (repeat (first | assumption | exact Below.refl _ _ | refine bset ?_ (Nat.le_refl _) _ | refine balloc ?_ _ | refine bdrew ?_ | refine bdrewN ?_ _))); done)
set_option maxHeartbeats 4000000 in
set_option maxRecDepth 100000 in
theorem of_noend (k : Int) (w : World) (h : k < 0 ∨ 3 < k) (h0 : -128 ≤ k) (h1 : k ≤ 127) :
    Calls Try.prog 95 #[.int .i8 k] w fun e w' => e = .returned (.tuple #[.agg #[.bool false, .bool false, .bool false, .bool false], .bool false]) ∧ Below w.heap.size w w' := by
  by_cases h2 : k < 0
  · clear h
    go_enter Try.func95, Try.ntmps95
    go_wp2
    refine bodyPost_ret (v := .tuple #[.agg #[.bool false, .bool false, .bool false, .bool false], .bool false]) (by simp [results, Try.results95, go_sem]) rfl ⟨rfl, ?_⟩
    ((with_reducible (repeat (first | assumption | exact Below.refl _ _ | refine bset ?_ (Nat.le_refl _) _ | refine balloc ?_ _ | refine bdrew ?_ | refine bdrewN ?_ _))); done)
  · have h3 : 4 ≤ k := by omega
    clear h
    go_enter Try.func95, Try.ntmps95
    go_wp2
    refine bodyPost_ret (v := .tuple #[.agg #[.bool false, .bool false, .bool false, .bool false], .bool false]) (by simp [results, Try.results95, go_sem]) rfl ⟨rfl, ?_⟩
    ((with_reducible (repeat (first | assumption | exact Below.refl _ _ | refine bset ?_ (Nat.le_refl _) _ | refine balloc ?_ _ | refine bdrew ?_ | refine bdrewN ?_ _))); done)
end
/- Blocks as plain data; the contract of program.end. -/
section
open Go.RowKit
/-- A block. -/
structure Blk where
  ops : List Op
  en : Int
  a : Int
  body : List Op
  th : Int
  el : Int
/-- A block's six cells lie at block g from place o on. -/
def BlkAt (w : World) (g o : Nat) (b : Blk) : Prop :=
  ∃ (A : Option Addr) (c : Nat) (A2 : Option Addr) (c2 : Nat),
    w.cell? ⟨g, o, none⟩ = some (.slice A b.ops.length c) ∧ w.cell? ⟨g, o + 1, none⟩ = some (.int .i8 b.en) ∧ w.cell? ⟨g, o + 2, none⟩ = some (.int .u8 b.a) ∧
    w.cell? ⟨g, o + 3, none⟩ = some (.slice A2 b.body.length c2) ∧ w.cell? ⟨g, o + 4, none⟩ = some (.int .i64 b.th) ∧ w.cell? ⟨g, o + 5, none⟩ = some (.int .i64 b.el) ∧
    OpsIn w A b.ops ∧ OpsIn w A2 b.body ∧ b.ops.length ≤ c ∧ b.body.length ≤ c2 ∧ (A = none → c = 0) ∧ (A2 = none → c2 = 0)
theorem BlkAt.keep {w w' : World} {g o : Nat} {b : Blk} (h : BlkAt w g o b) (hb : Below w.heap.size w w') : BlkAt w' g o b := by
  obtain ⟨A, c, A2, c2, h0, h1, h2, h3, h4, h5, h6, h7, h8, h9⟩ := h
  exact ⟨A, c, A2, c2, cell_keep h0 hb, cell_keep h1 hb, cell_keep h2 hb, cell_keep h3 hb, cell_keep h4 hb, cell_keep h5 hb, h6.keep hb, h7.keep hb, h8, h9⟩
/-- Its numbers are of their kinds; its lists are no longer than can be. -/
structure Blk.wf (b : Blk) : Prop where
  ops : ∀ o ∈ b.ops, o.wf
  body : ∀ o ∈ b.body, o.wf
  e0 : -128 ≤ b.en
  e1 : b.en ≤ 127
  a0 : 0 ≤ b.a
  a1 : b.a ≤ 255
  t0 : -9223372036854775808 ≤ b.th
  t1 : b.th ≤ 9223372036854775807
  l0 : -9223372036854775808 ≤ b.el
  l1 : b.el ≤ 9223372036854775807
  m0 : b.ops.length ≤ 140737488351232
  m1 : b.body.length ≤ 140737488351232
/-- Is a block's end one of a program of n blocks? -/
def endB (b : Blk) (n : Int) : Bool :=
  (decide (0 ≤ b.en) && decide (b.en ≤ 3)) && fitsB b.a (endA b.en) 32 && fitsB b.th (endT b.en) n && fitsB b.el (endO b.en) n && (endY b.en || b.body.length == 0)
theorem pfits_q (n below : Int) (c : Bool) (w : World) :
    Calls Try.prog 96 #[.int .i64 n, .bool c, .int .i64 below] w fun e w' => e = .returned (.bool (fitsB n c below)) ∧ w' = w := (pfits_any n below c w).mono fun _ _ h => ⟨h.1, h.2.symm⟩
set_option maxHeartbeats 4000000 in
set_option maxRecDepth 100000 in
theorem end_any (g o : Nat) (b : Blk) (n : Int) (w : World) (hb : BlkAt w g o b) (hw : b.wf) :
    Calls Try.prog 64 #[.pointer (some ⟨g, o, none⟩), .int .i64 n] w fun e w' => e = .returned (.bool (endB b n)) ∧ Below w.heap.size w w' := by
  obtain ⟨A, c, A2, c2, k0, k1, k2, k3, k4, k5, _, _, _, _⟩ := hb
  have hgs : g < w.heap.size := World.block_lt_of_cell? w _ k0
  obtain ⟨_, _, e0, e1, a0, a1, _, _, _, _, _, _⟩ := hw
  by_cases h : 0 ≤ b.en ∧ b.en ≤ 3
  · have ho := hid (fun w => of_end b.en w (by omega))
    have hE : endB b n = (fitsB b.a (endA b.en) 32 && fitsB b.th (endT b.en) n && fitsB b.el (endO b.en) n && (endY b.en || b.body.length == 0)) := by
      unfold endB
      rw [decide_eq_true h.1, decide_eq_true h.2]
      rfl
    clear h
    cases h1 : fitsB b.a (endA b.en) 32
    · rw [h1] at hE
      replace hE := hid hE
      go_enter Try.func64, Try.ntmps64
      go_wp2_with (go_at_call 95; (with_reducible refine (ho.out _).mono ?_); rintro e w1 ⟨rfl, hb⟩; obtain ⟨hc, hf⟩ := bcell hb; have hz := hb.size; have hg1 : g < w1.heap.size := (by omega))
      go_quiet ((go_at_call 96; exact Calls.quiet_of_same (pfits_q _ _ _ _)))
      go_wp2
      go_ret
      refine ⟨ret_bool hE.out.symm, ?_⟩
      ((with_reducible (repeat (first | assumption | exact Below.refl _ _ | refine bset ?_ (Nat.le_refl _) _ | refine balloc ?_ _ | refine bdrew ?_ | refine bdrewN ?_ _))); done)
    cases h2 : fitsB b.th (endT b.en) n
    · rw [h1, h2] at hE
      replace hE := hid hE
      go_enter Try.func64, Try.ntmps64
      go_wp2_with (go_at_call 95; (with_reducible refine (ho.out _).mono ?_); rintro e w1 ⟨rfl, hb⟩; obtain ⟨hc, hf⟩ := bcell hb; have hz := hb.size; have hg1 : g < w1.heap.size := (by omega))
      go_quiet ((go_at_call 96; exact Calls.quiet_of_same (pfits_q _ _ _ _)))
      go_wp2
      go_ret
      refine ⟨ret_bool hE.out.symm, ?_⟩
      ((with_reducible (repeat (first | assumption | exact Below.refl _ _ | refine bset ?_ (Nat.le_refl _) _ | refine balloc ?_ _ | refine bdrew ?_ | refine bdrewN ?_ _))); done)
    cases h3 : fitsB b.el (endO b.en) n
    · rw [h1, h2, h3] at hE
      replace hE := hid hE
      go_enter Try.func64, Try.ntmps64
      go_wp2_with (go_at_call 95; (with_reducible refine (ho.out _).mono ?_); rintro e w1 ⟨rfl, hb⟩; obtain ⟨hc, hf⟩ := bcell hb; have hz := hb.size; have hg1 : g < w1.heap.size := (by omega))
      go_quiet ((go_at_call 96; exact Calls.quiet_of_same (pfits_q _ _ _ _)))
      go_wp2
      go_ret
      refine ⟨ret_bool hE.out.symm, ?_⟩
      ((with_reducible (repeat (first | assumption | exact Below.refl _ _ | refine bset ?_ (Nat.le_refl _) _ | refine balloc ?_ _ | refine bdrew ?_ | refine bdrewN ?_ _))); done)
    cases h4 : endY b.en
    · have h5 : (b.body.length == 0) = ((b.body.length : Int) == 0) := by rw [Bool.eq_iff_iff]; simp
      rw [h1, h2, h3, h4, h5] at hE
      replace hE := hid hE
      go_enter Try.func64, Try.ntmps64
      go_wp2_with (go_at_call 95; (with_reducible refine (ho.out _).mono ?_); rintro e w1 ⟨rfl, hb⟩; obtain ⟨hc, hf⟩ := bcell hb; have hz := hb.size; have hg1 : g < w1.heap.size := (by omega))
      go_quiet ((go_at_call 96; exact Calls.quiet_of_same (pfits_q _ _ _ _)))
      go_wp2
      go_ret
      refine ⟨ret_bool hE.out.symm, ?_⟩
      ((with_reducible (repeat (first | assumption | exact Below.refl _ _ | refine bset ?_ (Nat.le_refl _) _ | refine balloc ?_ _ | refine bdrew ?_ | refine bdrewN ?_ _))); done)
    · rw [h1, h2, h3, h4] at hE
      replace hE := hid hE
      go_enter Try.func64, Try.ntmps64
      go_wp2_with (go_at_call 95; (with_reducible refine (ho.out _).mono ?_); rintro e w1 ⟨rfl, hb⟩; obtain ⟨hc, hf⟩ := bcell hb; have hz := hb.size; have hg1 : g < w1.heap.size := (by omega))
      go_quiet ((go_at_call 96; exact Calls.quiet_of_same (pfits_q _ _ _ _)))
      go_wp2
      go_ret
      refine ⟨ret_bool hE.out.symm, ?_⟩
      ((with_reducible (repeat (first | assumption | exact Below.refl _ _ | refine bset ?_ (Nat.le_refl _) _ | refine balloc ?_ _ | refine bdrew ?_ | refine bdrewN ?_ _))); done)
  · have ho := hid (fun w => of_noend b.en w (by omega) e0 e1)
    have hE : endB b n = false := by
      unfold endB
      by_cases h0 : 0 ≤ b.en
      · rw [decide_eq_false (show ¬ b.en ≤ 3 by omega), Bool.and_false]; rfl
      · rw [decide_eq_false h0]; rfl
    replace hE := hid hE
    clear h
    go_enter Try.func64, Try.ntmps64
    go_wp2_with (go_at_call 95; (with_reducible refine (ho.out _).mono ?_); rintro e w1 ⟨rfl, hb⟩; obtain ⟨hc, hf⟩ := bcell hb; have hz := hb.size; have hg1 : g < w1.heap.size := (by omega))
    go_quiet ((go_at_call 96; exact Calls.quiet_of_same (pfits_q _ _ _ _)))
    go_wp2
    go_ret
    refine ⟨ret_bool hE.out.symm, ?_⟩
    ((with_reducible (repeat (first | assumption | exact Below.refl _ _ | refine bset ?_ (Nat.le_refl _) _ | refine balloc ?_ _ | refine bdrew ?_ | refine bdrewN ?_ _))); done)
end
/- A program's blocks in memory; the contracts of program.Ops, Great, the document's Ops. -/
section
open Go.RowKit
/-- A list of blocks lies from address A on. -/
def BlksIn (w : World) (A : Option Addr) (l : List Blk) : Prop :=
  l ≠ [] → ∃ g off, A = some ⟨g, off, none⟩ ∧ ∀ i b, l[i]? = some b → BlkAt w g (off + i * 6) b
theorem BlksIn.keep {w w' : World} {A : Option Addr} {l : List Blk} (h : BlksIn w A l) (hb : Below w.heap.size w w') : BlksIn w' A l := fun hl => by
  obtain ⟨g, off, ha, hx⟩ := h hl
  exact ⟨g, off, ha, fun i b hi => (hx i b hi).keep hb⟩
theorem BlksIn.get {w : World} {A : Option Addr} {l : List Blk} (h : BlksIn w A l) (i : Nat) (hi : i < l.length) :
    ∃ g off, A = some ⟨g, off, none⟩ ∧ BlkAt w g (off + i * 6) l[i] := by
  obtain ⟨g, off, ha, hx⟩ := h (by rintro rfl; simp at hi)
  exact ⟨g, off, ha, hx i l[i] (List.getElem?_eq_getElem hi)⟩
/-- How many operations the blocks hold. -/
def sumB (l : List Blk) : Nat := (l.map fun b => b.ops.length + b.body.length).sum
theorem sumB_step {l : List Blk} {i : Nat} (hi : i < l.length) : sumB (l.take (i + 1)) = sumB (l.take i) + (l[i].ops.length + l[i].body.length) := by
  unfold sumB
  rw [List.take_add_one, List.getElem?_eq_getElem hi]
  simp only [Option.toList_some, List.map_append, List.sum_append, List.map_cons, List.map_nil, List.sum_cons, List.sum_nil]
  omega
theorem sumB_le {l : List Blk} (hw : ∀ b ∈ l, b.wf) (i : Nat) (hi : i ≤ l.length) : sumB (l.take i) ≤ i * 281474976702464 := by
  induction i with
  | zero => simp [sumB]
  | succ i ih =>
    rw [sumB_step (by omega)]
    have h := hw l[i] (List.getElem_mem (by omega))
    have h1 := h.m0
    have h2 := h.m1
    have := ih (by omega)
    omega
theorem sumB_mono {l : List Blk} (i : Nat) (hi : i ≤ l.length) : sumB (l.take i) ≤ sumB l := by
  have h : sumB (l.take i ++ l.drop i) = sumB (l.take i) + sumB (l.drop i) := by
    unfold sumB
    rw [List.map_append, List.sum_append]
  rw [List.take_append_drop] at h
  omega
set_option maxHeartbeats 4000000 in
set_option maxRecDepth 100000 in
theorem pops_any (A : Option Addr) (l : List Blk) (cap : Nat) (w : World) (hl : BlksIn w A l) (hw : ∀ b ∈ l, b.wf) (hm : l.length ≤ 8193) :
    Calls Try.prog 62 #[.agg #[.slice A l.length cap]] w fun e w' => e = .returned (.int .i64 (l.length + sumB l)) ∧ Below w.heap.size w w' := by
  have HL := hid hl
  have HW := hid hw
  clear hl hw
  go_enter Try.func62, Try.ntmps62
  go_wp2
  go_loopg [3, 12] l.length (fun g v3 v wr => ∃ i : Nat, i ≤ l.length ∧ v = .int .i64 i ∧ v3 = .int .i64 (l.length + sumB (l.take i)) ∧ Hid (g + i = l.length) ∧ Below w.heap.size w wr)
  case atStart =>
    refine ⟨0, by omega, rfl, ?_, by exact Nat.add_zero _, ?_⟩
    · simp [sumB]
    · ((with_reducible (repeat (first | assumption | exact Below.refl _ _ | refine bset ?_ (Nat.le_refl _) _ | refine balloc ?_ _ | refine bdrew ?_ | refine bdrewN ?_ _))); done)
  case round =>
    obtain ⟨i, hi, rfl, rfl, hg, hbw⟩ := hrel
    by_cases hlt : i < l.length
    · obtain ⟨g, off, rfl, hop⟩ := (BlksIn.keep HL.out hbw).get i hlt
      obtain ⟨B, c, B2, c2, k0, k1, k2, k3, k4, k5, _, _, _, _⟩ := hop
      have hwf := HW.out l[i] (List.getElem_mem hlt)
      have m0 := hwf.m0
      have m1 := hwf.m1
      have hs := sumB_le HW.out i hi
      have hgs : g < wr.heap.size := World.block_lt_of_cell? wr _ k0
      have hb0 := hbw
      have hstep := hid (sumB_step hlt)
      have hsm : ((sumB (List.take i l) : Nat) : Int) ≤ 8193 * 281474976702464 := by omega
      generalize hS : sumB (List.take i l) = S at *
      go_wp2
      go_roundg (l.length - (i + 1))
      case measure => have := hg.out; omega
      case rel =>
        refine ⟨i + 1, by omega, by go_num, ?_, by show _ + _ = _; omega, ?_⟩
        · have := hstep.out
          first | go_num | (congr 1; omega)
        · ((with_reducible (repeat (first | assumption | exact Below.refl _ _ | refine bset ?_ (Nat.le_refl _) _ | refine balloc ?_ _ | refine bdrew ?_ | refine bdrewN ?_ _))); done)
    · obtain rfl : i = l.length := by omega
      rw [List.take_length]
      go_wp2
      go_ret
      exact ⟨rfl, hbw⟩
end
/- The document's Ops; Great. -/
section
open Go.RowKit
set_option maxHeartbeats 4000000 in
set_option maxRecDepth 100000 in
theorem rpops_any (A : Option Addr) (l : List Blk) (cap : Nat) (w : World) (hl : BlksIn w A l) (hw : ∀ b ∈ l, b.wf) (hm : l.length ≤ 8193) :
    Calls Try.prog 71 #[.agg #[.slice A l.length cap]] w fun e w' => e = .returned (.int .i64 (l.length + sumB l)) ∧ Below w.heap.size w w' := by
  have HL := hid hl
  have HW := hid hw
  clear hl hw
  go_enter Try.func71, Try.ntmps71
  go_wp2
  go_loopg [3, 4] l.length (fun g v3 v wr => ∃ i : Nat, i ≤ l.length ∧ v = .int .i64 i ∧ v3 = .int .i64 (i + sumB (l.take i)) ∧ Hid (g + i = l.length) ∧ wr.cell? ⟨w.heap.size, 0, none⟩ = some (.slice A l.length cap) ∧ Below w.heap.size w wr)
  case atStart =>
    refine ⟨0, by omega, rfl, ?_, by exact Nat.add_zero _, by simp, ?_⟩
    · simp [sumB]
    · ((with_reducible (repeat (first | assumption | exact Below.refl _ _ | refine bset ?_ (Nat.le_refl _) _ | refine balloc ?_ _ | refine bdrew ?_ | refine bdrewN ?_ _))); done)
  case round =>
    obtain ⟨i, hi, rfl, rfl, hg, hcell, hbw⟩ := hrel
    have hgw : w.heap.size < wr.heap.size := World.block_lt_of_cell? wr _ hcell
    by_cases hlt : i < l.length
    · obtain ⟨g, off, rfl, hop⟩ := (BlksIn.keep HL.out hbw).get i hlt
      obtain ⟨B, c, B2, c2, k0, k1, k2, k3, k4, k5, _, _, _, _⟩ := hop
      have hwf := HW.out l[i] (List.getElem_mem hlt)
      have m0 := hwf.m0
      have m1 := hwf.m1
      have hs := sumB_le HW.out i hi
      have hgs : g < wr.heap.size := World.block_lt_of_cell? wr _ k0
      have hb0 := hbw
      have hstep := hid (sumB_step hlt)
      have hsm : ((sumB (List.take i l) : Nat) : Int) ≤ 8193 * 281474976702464 := by omega
      have hij : (i : Int) < (l.length : Int) := by omega
      have hi0 : (0 : Int) ≤ (i : Int) := by omega
      generalize hS : sumB (List.take i l) = S at *
      go_wp2
      go_quiet (fail)
      go_wp2
      go_roundg (l.length - (i + 1))
      case measure => have := hg.out; omega
      case rel =>
        refine ⟨i + 1, by omega, by go_num, ?_, by show _ + _ = _; omega, by simpa using hcell, ?_⟩
        · have := hstep.out
          first | go_num | (congr 1; omega)
        · ((with_reducible (repeat (first | assumption | exact Below.refl _ _ | refine bset ?_ (Nat.le_refl _) _ | refine balloc ?_ _ | refine bdrew ?_ | refine bdrewN ?_ _))); done)
    · obtain rfl : i = l.length := by omega
      rw [List.take_length]
      go_wp2
      go_ret
      exact ⟨rfl, hbw⟩
end
end Go.Proofs.Ytpiagggnjppkhaa
