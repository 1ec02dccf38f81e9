/- A new machine: refused. -/
import Derived.Test.YtpiagggnjppkhaaM16
import Derived.Great.Ranges
namespace Go.Proofs.Ytpiagggnjppkhaa
open Go.RowKit
set_option linter.unusedVariables false
set_option linter.unusedSimpArgs false
set_option maxHeartbeats 4000000 in
set_option maxRecDepth 100000 in
theorem new_no (A : Option Addr) (l : List Blk) (cap : Nat) (A1 A2 : Option Addr) (r mm : List Int) (c1 c2 : Nat) (w : World) (hl : BlksIn w A l) (hw : ∀ b ∈ l, b.wf) (hm : l.length ≤ 9223372036854775807) (hr : r.length ≤ 17592186043904) (hmm : mm.length ≤ 17592186043904) (he : newE l r mm ≠ 0) :
    Calls Try.prog 12 #[.agg #[.slice A l.length cap], .agg #[.slice A1 r.length c1, .slice A2 mm.length c2]] w fun e w' => e = .returned (.tuple #[.pointer none, .int .i64 (newE l r mm)]) ∧ Below w.heap.size w w' := by
  have C1 := hid (fun (w' : World) (h : BlksIn w' A l) => prg_check_any A l cap w' h hw hm)
  have HL := hid hl
  clear hl hw hm
  by_cases hp : prgE l = 0
  · have e1 : newE l r mm = 2 := by
      unfold newE at he ⊢
      rw [if_pos hp] at he ⊢
      by_cases h : 32 < r.length ∨ 256 < mm.length
      · rw [if_pos h]
      · rw [if_neg h] at he; exact absurd rfl he
    have h2 : 32 < r.length ∨ 256 < mm.length := by
      unfold newE at he
      rw [if_pos hp] at he
      by_cases h : 32 < r.length ∨ 256 < mm.length
      · exact h
      · rw [if_neg h] at he; exact absurd rfl he
    rw [e1]
    rw [hp] at C1
    clear he e1 hp
    by_cases h3 : 32 < r.length
    · have h4 : (32 : Int) < (r.length : Int) := by omega
      clear h2 h3
      go_enter Try.func12, Try.ntmps12
      go_wp2_with fail
      with_reducible refine (C1.out _ (HL.out.keep ?_)).mono ?_
      · ((with_reducible (repeat (first | assumption | exact Below.refl _ _ | refine bset ?_ (Nat.le_refl _) _ | refine balloc ?_ _ | refine bdrew ?_ | refine bdrewN ?_ _))); done)
      rintro e w1 ⟨rfl, hb⟩
      have B1 := hid (btrans (a := w) (by ((with_reducible (repeat (first | assumption | exact Below.refl _ _ | refine bset ?_ (Nat.le_refl _) _ | refine balloc ?_ _ | refine bdrew ?_ | refine bdrewN ?_ _))); done)) hb)
      have z0 : w1.cell? ⟨w.heap.size + 1, 0, none⟩ = some (.slice A1 r.length c1) := cell_keep (by go_simp) hb
      have hz : w.heap.size + 1 < w1.heap.size := by have := hb.size; simp at this; omega
      clear hb
      go_wp2
      go_ret2
      exact ⟨rfl, B1.out⟩
    · have h4 : ¬ (32 : Int) < (r.length : Int) := by omega
      have h5 : (256 : Int) < (mm.length : Int) := by omega
      clear h2 h3
      go_enter Try.func12, Try.ntmps12
      go_wp2_with fail
      with_reducible refine (C1.out _ (HL.out.keep ?_)).mono ?_
      · ((with_reducible (repeat (first | assumption | exact Below.refl _ _ | refine bset ?_ (Nat.le_refl _) _ | refine balloc ?_ _ | refine bdrew ?_ | refine bdrewN ?_ _))); done)
      rintro e w1 ⟨rfl, hb⟩
      have B1 := hid (btrans (a := w) (by ((with_reducible (repeat (first | assumption | exact Below.refl _ _ | refine bset ?_ (Nat.le_refl _) _ | refine balloc ?_ _ | refine bdrew ?_ | refine bdrewN ?_ _))); done)) hb)
      have z0 : w1.cell? ⟨w.heap.size + 1, 0, none⟩ = some (.slice A1 r.length c1) := cell_keep (by go_simp) hb
      have z1 : w1.cell? ⟨w.heap.size + 1, 1, none⟩ = some (.slice A2 mm.length c2) := cell_keep (by go_simp) hb
      have hz : w.heap.size + 1 < w1.heap.size := by have := hb.size; simp at this; omega
      clear hb
      go_wp2
      go_ret2
      exact ⟨rfl, B1.out⟩
  · have e1 : newE l r mm = prgE l := by unfold newE; rw [if_neg hp]
    rw [e1]
    have hpb : (prgE l == 0) = false := by simpa using hp
    have hpc : (prgE l != 0) = true := by simpa using hp
    clear he e1 hp
    generalize prgE l = pe at *
    go_enter Try.func12, Try.ntmps12
    go_wp2_with fail
    with_reducible refine (C1.out _ (HL.out.keep ?_)).mono ?_
    · ((with_reducible (repeat (first | assumption | exact Below.refl _ _ | refine bset ?_ (Nat.le_refl _) _ | refine balloc ?_ _ | refine bdrew ?_ | refine bdrewN ?_ _))); done)
    rintro e w1 ⟨rfl, hb⟩
    have B1 := hid (btrans (a := w) (by ((with_reducible (repeat (first | assumption | exact Below.refl _ _ | refine bset ?_ (Nat.le_refl _) _ | refine balloc ?_ _ | refine bdrew ?_ | refine bdrewN ?_ _))); done)) hb)
    clear hb
    go_wp2
    go_ret2
    exact ⟨rfl, B1.out⟩
/-- The cells of a new machine, before its program and its state are copied. -/
def zeroMc : Mc := ⟨List.replicate 32 0, List.replicate 256 0, 0, false, 0, 0, 0, [], false, 0, 0⟩
theorem new_cells : Try.prog.built 106 [(10, .agg ((List.range 24).map doV).toArray)] = some ((List.range 322).map (mcell (.slice none 0 0) (.slice none 0 0) zeroMc doX)).toArray := by kernel_rfl
end Go.Proofs.Ytpiagggnjppkhaa
