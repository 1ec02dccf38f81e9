/- How each kind of operation is done: the machine's function values. -/
import Derived.Test.YtpiagggnjppkhaaM2
import Derived.Deep.RegionHeld3
import Derived.WalkSmall
namespace Go.Proofs.Ytpiagggnjppkhaa
open Go.RowKit
set_option linter.unusedVariables false
set_option linter.unusedSimpArgs false
/-- The function values of a machine. -/
def doV (k : Nat) : Value :=
  if k = 1 then .func (.func 66) #[] #[] else if k = 15 then .func (.func 67) #[] #[] else if k = 16 then .func (.func 69) #[] #[]
  else if k = 17 then .func (.func 70) #[] #[] else if 2 ≤ k ∧ k ≤ 14 then .func (.func 65) #[] #[] else .nilFunc
def doX (k : Nat) : Value := doV (k - 298)
theorem reg_get {R : List Int} {a : Nat} : R[a]?.getD 0 = reg R (a : Int) := by unfold reg; rw [Int.toNat_natCast]
theorem wrap64_mod (n : Int) : wrap64 n % 256 = n % 256 := by unfold wrap64; omega
/-- The four facts that the walks of one operation read. -/
structure RegsAt (w : World) (g : Nat) (m : Mc) : Prop where
  R : ∀ i, i < 32 → w.cell? ⟨g, 1 + i, none⟩ = some (.int .i64 (m.R[i]?.getD 0))
  M : ∀ i, i < 256 → w.cell? ⟨g, 33 + i, none⟩ = some (.int .i64 (m.M[i]?.getD 0))
  fz : ∀ i, w.frozen? ⟨g, i, none⟩ = false
  lt : g < w.heap.size
theorem Mach.regs {g B : Nat} {S : Nat → Prop} {A : Option Addr} {l : List Blk} {cap : Nat} {pv : Value} {m : Mc} {w : World} (h : Mach w g 106 322 B S A l cap 2 pv m doX) : RegsAt w g m := ⟨mcR h.cells (by decide), mcM h.cells (by decide), h.cells.frozen, h.cells.lt⟩
theorem RegsAt.keep {w w' : World} {g : Nat} {m : Mc} (h : RegsAt w g m) (hb : Below w.heap.size w w') : RegsAt w' g m :=
  ⟨fun i hi => cell_keep (h.R i hi) hb, fun i hi => cell_keep (h.M i hi) hb, fun i => frozen_keep (h.fz i) h.lt hb, Nat.lt_of_lt_of_le h.lt hb.size⟩
set_option maxHeartbeats 4000000 in
set_option maxRecDepth 100000 in
theorem cell_any (o : Op) (g : Nat) (m : Mc) (w : World) (h : RegsAt w g m) (ha0 : 0 ≤ o.a) (ha1 : o.a < 32) (hn0 : -9223372036854775808 ≤ o.n) (hn1 : o.n ≤ 9223372036854775807) (hri : I64s m.R) :
    Calls Try.prog 68 #[.pointer (some ⟨g, 0, none⟩), o.val] w fun e w' => e = .returned (.pointer (some ⟨g, 33 + celS o m.R, none⟩)) ∧ Below w.heap.size w w' := by
  obtain ⟨k, d, a, b, n⟩ := o
  simp only at ha0 ha1 hn0 hn1
  obtain ⟨a, rfl⟩ := Int.eq_ofNat_of_zero_le ha0
  have hal : a < 32 := by omega
  have ra := h.R a hal
  rw [reg_get] at ra
  have hb := reg_bd hri (a : Int)
  obtain ⟨c, hc⟩ : ∃ c : Nat, c = celS ⟨k, d, a, b, n⟩ m.R := ⟨_, rfl⟩
  have hc2 : (reg m.R a + n) % 256 = (c : Int) := by
    have : 0 ≤ (reg m.R (a : Int) + n) % 256 := by omega
    unfold celS at hc
    simp only at hc
    omega
  have hc3 : c < 256 := by omega
  have hw : Hid (wrap64 (reg m.R (a : Int) + n) % 256 = (c : Int)) := hid (by rw [wrap64_mod]; exact hc2)
  rw [← hc]
  have hgl := h.lt
  clear hc hc2 h hri
  generalize reg m.R (a : Int) = va at *
  have hw2 := hw.out
  go_enter Try.func68, Try.ntmps68
  go_wp2
  go_quiet (fail)
  go_wp2
  go_ret
  refine ⟨rfl, ?_⟩
  ((with_reducible (repeat (first | assumption | exact Below.refl _ _ | refine bset ?_ (Nat.le_refl _) _ | refine balloc ?_ _ | refine bdrew ?_ | refine bdrewN ?_ _))); done)
end Go.Proofs.Ytpiagggnjppkhaa
