/- A program's blocks in memory; the contracts of program.Ops, Great, the document's Ops. -/
import Derived.Test.YtcibkoodnfkogaaPrg2
namespace Go.Proofs.Ytcibkoodnfkogaa
open Go.RowKit
set_option linter.unusedVariables false
set_option linter.unusedSimpArgs false
/-- A list of blocks lies from address A on. -/
def BlksIn (w : World) (A : Option Addr) (l : List Blk) : Prop :=
  l ≠ [] → ∃ g off, A = some ⟨g, off, none⟩ ∧ ∀ i b, l[i]? = some b → BlkAt w g (off + i * 6) b
theorem BlksIn.keep {w w' : World} {A : Option Addr} {l : List Blk} (h : BlksIn w A l) (hb : Below w.heap.size w w') : BlksIn w' A l := fun hl => by
  obtain ⟨g, off, ha, hx⟩ := h hl
  exact ⟨g, off, ha, fun i b hi => (hx i b hi).keep hb⟩
theorem BlksIn.get {w : World} {A : Option Addr} {l : List Blk} (h : BlksIn w A l) (i : Nat) (hi : i < l.length) :
    ∃ g off, A = some ⟨g, off, none⟩ ∧ BlkAt w g (off + i * 6) l[i] := by
  obtain ⟨g, off, ha, hx⟩ := h (by rintro rfl; simp at hi)
  exact ⟨g, off, ha, hx i l[i] (List.getElem?_eq_getElem hi)⟩
/-- How many operations the blocks hold. -/
def sumB (l : List Blk) : Nat := (l.map fun b => b.ops.length + b.body.length).sum
theorem sumB_step {l : List Blk} {i : Nat} (hi : i < l.length) : sumB (l.take (i + 1)) = sumB (l.take i) + (l[i].ops.length + l[i].body.length) := by
  unfold sumB
  rw [List.take_add_one, List.getElem?_eq_getElem hi]
  simp only [Option.toList_some, List.map_append, List.sum_append, List.map_cons, List.map_nil, List.sum_cons, List.sum_nil]
  omega
theorem sumB_le {l : List Blk} (hw : ∀ b ∈ l, b.wf) (i : Nat) (hi : i ≤ l.length) : sumB (l.take i) ≤ i * 281474976702464 := by
  induction i with
  | zero => simp [sumB]
  | succ i ih =>
    rw [sumB_step (by omega)]
    have h := hw l[i] (List.getElem_mem (by omega))
    have h1 := h.m0
    have h2 := h.m1
    have := ih (by omega)
    omega
theorem sumB_mono {l : List Blk} (i : Nat) (hi : i ≤ l.length) : sumB (l.take i) ≤ sumB l := by
  have h : sumB (l.take i ++ l.drop i) = sumB (l.take i) + sumB (l.drop i) := by
    unfold sumB
    rw [List.map_append, List.sum_append]
  rw [List.take_append_drop] at h
  omega
set_option maxHeartbeats 4000000 in
set_option maxRecDepth 100000 in
theorem pops_any (A : Option Addr) (l : List Blk) (cap : Nat) (w : World) (hl : BlksIn w A l) (hw : ∀ b ∈ l, b.wf) (hm : l.length ≤ 8193) :
    Calls Try.prog 40 #[.agg #[.slice A l.length cap]] w fun e w' => e = .returned (.int .i64 (l.length + sumB l)) ∧ Below w.heap.size w w' := by
  have HL := hid hl
  have HW := hid hw
  clear hl hw
  go_enter Try.func40, Try.ntmps40
  go_wp2
  go_loopg [3, 12] l.length (fun g v3 v wr => ∃ i : Nat, i ≤ l.length ∧ v = .int .i64 i ∧ v3 = .int .i64 (l.length + sumB (l.take i)) ∧ Hid (g + i = l.length) ∧ Below w.heap.size w wr)
  case atStart =>
    refine ⟨0, by omega, rfl, ?_, by exact Nat.add_zero _, ?_⟩
    · simp [sumB]
    · ((with_reducible (repeat (first | assumption | exact Below.refl _ _ | refine bset ?_ (Nat.le_refl _) _ | refine balloc ?_ _ | refine bdrew ?_ | refine bdrewN ?_ _))); done)
  case round =>
    obtain ⟨i, hi, rfl, rfl, hg, hbw⟩ := hrel
    by_cases hlt : i < l.length
    · obtain ⟨g, off, rfl, hop⟩ := (BlksIn.keep HL.out hbw).get i hlt
      obtain ⟨B, c, B2, c2, k0, k1, k2, k3, k4, k5, _, _, _, _⟩ := hop
      have hwf := HW.out l[i] (List.getElem_mem hlt)
      have m0 := hwf.m0
      have m1 := hwf.m1
      have hs := sumB_le HW.out i hi
      have hgs : g < wr.heap.size := World.block_lt_of_cell? wr _ k0
      have hb0 := hbw
      have hstep := hid (sumB_step hlt)
      have hsm : ((sumB (List.take i l) : Nat) : Int) ≤ 8193 * 281474976702464 := by omega
      generalize hS : sumB (List.take i l) = S at *
      go_wp2
      go_roundg (l.length - (i + 1))
      case measure => have := hg.out; omega
      case rel =>
        refine ⟨i + 1, by omega, by go_num, ?_, by show _ + _ = _; omega, ?_⟩
        · have := hstep.out
          first | go_num | (congr 1; omega)
        · ((with_reducible (repeat (first | assumption | exact Below.refl _ _ | refine bset ?_ (Nat.le_refl _) _ | refine balloc ?_ _ | refine bdrew ?_ | refine bdrewN ?_ _))); done)
    · obtain rfl : i = l.length := by omega
      rw [List.take_length]
      go_wp2
      go_ret
      exact ⟨rfl, hbw⟩
end Go.Proofs.Ytcibkoodnfkogaa
