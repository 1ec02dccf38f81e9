/- ReserveCounts: no table. -/
import Derived.Test.YtcibkoodnfkogaaRV14
import Derived.Test.YtcibkoodnfkogaaRV12
namespace Go.Proofs.Ytcibkoodnfkogaa
open Go.RowKit Go.Maps
set_option linter.unusedVariables false
set_option linter.unusedSimpArgs false
theorem ask_info : ∃ i z, Try.prog.info? 34 = some i ∧ i.zero = some z ∧ i.size = 3 ∧ i.bytes = 24 ∧ z.cells.size = 3 := by
  have h : (Try.prog.info? 34).map (fun i => (i.zero.map (·.cells.size), i.size, i.bytes)) = some (some 3, 3, 24) := by kernel_rfl
  cases hi : Try.prog.info? 34 with
  | none => rw [hi] at h; cases h
  | some i =>
    rw [hi] at h
    cases hz : i.zero with
    | none => simp [hz] at h
    | some z =>
      simp [hz] at h
      exact ⟨i, z, rfl, hz, h.2.1, h.2.2, h.1⟩
set_option maxHeartbeats 4000000 in
set_option maxRecDepth 100000 in
theorem counts_no (A : Option Addr) (l : List Ask) (cap : Nat) (t : List Int) (ev er : Int) (w : World) (ht : t.length = 13) (her : er ≠ 0) (CR : Hid (∀ w, Calls Try.prog 23 #[tabV t, .int .i64 ev] w fun e w' => e = .returned (.tuple #[.pointer none, .int .i64 er]) ∧ Below w.heap.size w w')) :
    Calls Try.prog 4 #[tabV t, .int .i64 ev, .slice A l.length cap] w fun e w' => e = .returned (.bool true) ∧ Below w.heap.size w w' := by
  have CW := hid wakes13_any
  have her' : (er == 0) = false := by simpa using her
  obtain ⟨t0, t1, t2, t3, t4, t5, t6, t7, t8, t9, t10, t11, t12, rfl⟩ := tabL13 ht
  clear ht
  unfold tabV at *
  simp only [List.map_cons, List.map_nil] at *
  go_enter Try.func4, Try.ntmps4
  go_wp2_with fail
  with_reducible refine (CR.out _).mono ?_
  rintro e w1 ⟨rfl, hb⟩
  obtain ⟨hc, hf⟩ := bcell hb
  have hz := bsize hb
  go_wp2_with fail
  with_reducible refine (CR.out _).mono ?_
  rintro e w2 ⟨rfl, hb2⟩
  have B2 := hid (btrans (btrans (balloc (Below.refl _ _) _) hb) hb2)
  clear hc hf hz hb hb2
  go_wp2_with fail
  with_reducible refine (CW.out _).mono ?_
  rintro e w3 ⟨rfl, hb3⟩
  go_wp2
  go_ret
  exact ⟨rfl, btrans B2.out hb3⟩
end Go.Proofs.Ytcibkoodnfkogaa
