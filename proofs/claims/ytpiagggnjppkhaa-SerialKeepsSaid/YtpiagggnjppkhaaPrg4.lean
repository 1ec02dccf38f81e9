/- The document's Ops; Great. -/
import Derived.Test.YtpiagggnjppkhaaPrg3
namespace Go.Proofs.Ytpiagggnjppkhaa
open Go.RowKit
set_option linter.unusedVariables false
set_option linter.unusedSimpArgs false
set_option maxHeartbeats 4000000 in
set_option maxRecDepth 100000 in
theorem rpops_any (A : Option Addr) (l : List Blk) (cap : Nat) (w : World) (hl : BlksIn w A l) (hw : ∀ b ∈ l, b.wf) (hm : l.length ≤ 8193) :
    Calls Try.prog 71 #[.agg #[.slice A l.length cap]] w fun e w' => e = .returned (.int .i64 (l.length + sumB l)) ∧ Below w.heap.size w w' := by
  have HL := hid hl
  have HW := hid hw
  clear hl hw
  go_enter Try.func71, Try.ntmps71
  go_wp2
  go_loopg [3, 4] l.length (fun g v3 v wr => ∃ i : Nat, i ≤ l.length ∧ v = .int .i64 i ∧ v3 = .int .i64 (i + sumB (l.take i)) ∧ Hid (g + i = l.length) ∧ wr.cell? ⟨w.heap.size, 0, none⟩ = some (.slice A l.length cap) ∧ Below w.heap.size w wr)
  case atStart =>
    refine ⟨0, by omega, rfl, ?_, by exact Nat.add_zero _, by simp, ?_⟩
    · simp [sumB]
    · ((with_reducible (repeat (first | assumption | exact Below.refl _ _ | refine bset ?_ (Nat.le_refl _) _ | refine balloc ?_ _ | refine bdrew ?_ | refine bdrewN ?_ _))); done)
  case round =>
    obtain ⟨i, hi, rfl, rfl, hg, hcell, hbw⟩ := hrel
    have hgw : w.heap.size < wr.heap.size := World.block_lt_of_cell? wr _ hcell
    by_cases hlt : i < l.length
    · obtain ⟨g, off, rfl, hop⟩ := (BlksIn.keep HL.out hbw).get i hlt
      obtain ⟨B, c, B2, c2, k0, k1, k2, k3, k4, k5, _, _, _, _⟩ := hop
      have hwf := HW.out l[i] (List.getElem_mem hlt)
      have m0 := hwf.m0
      have m1 := hwf.m1
      have hs := sumB_le HW.out i hi
      have hgs : g < wr.heap.size := World.block_lt_of_cell? wr _ k0
      have hb0 := hbw
      have hstep := hid (sumB_step hlt)
      have hsm : ((sumB (List.take i l) : Nat) : Int) ≤ 8193 * 281474976702464 := by omega
      have hij : (i : Int) < (l.length : Int) := by omega
      have hi0 : (0 : Int) ≤ (i : Int) := by omega
      generalize hS : sumB (List.take i l) = S at *
      go_wp2
      go_quiet (fail)
      go_wp2
      go_roundg (l.length - (i + 1))
      case measure => have := hg.out; omega
      case rel =>
        refine ⟨i + 1, by omega, by go_num, ?_, by show _ + _ = _; omega, by simpa using hcell, ?_⟩
        · have := hstep.out
          first | go_num | (congr 1; omega)
        · ((with_reducible (repeat (first | assumption | exact Below.refl _ _ | refine bset ?_ (Nat.le_refl _) _ | refine balloc ?_ _ | refine bdrew ?_ | refine bdrewN ?_ _))); done)
    · obtain rfl : i = l.length := by omega
      rw [List.take_length]
      go_wp2
      go_ret
      exact ⟨rfl, hbw⟩
end Go.Proofs.Ytpiagggnjppkhaa
