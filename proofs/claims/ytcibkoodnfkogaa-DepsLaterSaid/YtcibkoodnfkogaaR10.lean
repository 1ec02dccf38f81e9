/- The contracts of the document's own functions of layer 10. -/
import Derived.Test.YtcibkoodnfkogaaBase2
import Derived.Test.YtcibkoodnfkogaaR03c
import Derived.Test.YtcibkoodnfkogaaAli3
namespace Go.Proofs.Ytcibkoodnfkogaa
open Go.RowKit
set_option linter.unusedVariables false
set_option linter.unusedSimpArgs false
def twoB (a b : Op) : Bool := chk a && chk b && ((a.k == 15 || a.k == 16) && (b.k == 15 || b.k == 16)) && (a.k == 16 || b.k == 16)
def twoL (l : List Op) (i j : Int) : Bool :=
  if h : 0 ≤ i ∧ 0 ≤ j ∧ i < l.length ∧ j < l.length then twoB (l[i.toNat]'(by omega)) (l[j.toNat]'(by omega)) else false
set_option maxHeartbeats 4000000 in
set_option maxRecDepth 100000 in
theorem two_no (A : Option Addr) (l : List Op) (cap : Nat) (i j : Int) (w : World) (h : ¬ (0 ≤ i ∧ 0 ≤ j ∧ i < l.length ∧ j < l.length)) :
    Calls Try.prog 70 #[.slice A l.length cap, .int .i64 i, .int .i64 j] w fun e w' => e = .returned (.bool false) ∧ Below w.heap.size w w' := by
  by_cases h1 : i < 0
  · clear h
    go_enter Try.func70, Try.ntmps70
    go_wp2
    go_ret
    exact ⟨rfl, Below.refl _ _⟩
  by_cases h2 : j < 0
  · clear h
    go_enter Try.func70, Try.ntmps70
    go_wp2
    go_ret
    exact ⟨rfl, Below.refl _ _⟩
  by_cases h3 : (l.length : Int) ≤ i
  · clear h
    go_enter Try.func70, Try.ntmps70
    go_wp2
    go_ret
    exact ⟨rfl, Below.refl _ _⟩
  · have h4 : (l.length : Int) ≤ j := by omega
    clear h
    go_enter Try.func70, Try.ntmps70
    go_wp2
    go_ret
    exact ⟨rfl, Below.refl _ _⟩
set_option maxHeartbeats 4000000 in
set_option maxRecDepth 100000 in
theorem two_yes (A : Option Addr) (l : List Op) (cap i j : Nat) (w : World) (hl : OpsIn w A l) (hi : i < l.length) (hj : j < l.length) :
    Calls Try.prog 70 #[.slice A l.length cap, .int .i64 i, .int .i64 j] w fun e w' => e = .returned (.bool (twoB l[i] l[j])) ∧ Below w.heap.size w w' := by
  obtain ⟨g, off, rfl, hop⟩ := hl.get i hi
  obtain ⟨g', off', he, hop2⟩ := hl.get j hj
  obtain ⟨rfl, rfl⟩ : g' = g ∧ off' = off := by injection he with h; injection h with h1 h2; exact ⟨h1.symm, h2.symm⟩
  obtain ⟨c0, c1, c2, c3, c4⟩ := hop
  obtain ⟨d0, d1, d2, d3, d4⟩ := hop2
  have hgs : g' < w.heap.size := World.block_lt_of_cell? w _ c0
  have hgs1 : g' < w.heap.size + 1 := by omega
  have ra := hid (fun w => rcheck_any l[i] w)
  have rb := hid (fun w => rcheck_any l[j] w)
  clear he hl
  cases h1 : chk l[i]
  · have e0 := hid (show twoB l[i] l[j] = false by unfold twoB; rw [h1]; rfl)
    have e1 : chkE l[i] = 30 := by unfold chkE; rw [h1]; rfl
    rw [e1] at ra
    go_enter Try.func70, Try.ntmps70
    go_wp2_with (go_at_call 88; (with_reducible refine (ra.out _).mono ?_); rintro e w1 ⟨rfl, hb⟩)
    go_ret
    refine ⟨ret_bool e0.out.symm, btrans (a := w) ?_ hb⟩
    ((with_reducible (repeat (first | assumption | exact Below.refl _ _ | refine bset ?_ (Nat.le_refl _) _ | refine balloc ?_ _ | refine bdrew ?_ | refine bdrewN ?_ _))); done)
  have e1 : chkE l[i] = 0 := by unfold chkE; rw [h1]; rfl
  rw [e1] at ra
  cases h2 : chk l[j]
  · have e0 := hid (show twoB l[i] l[j] = false by unfold twoB; rw [h2, Bool.and_false]; rfl)
    have e2 : chkE l[j] = 30 := by unfold chkE; rw [h2]; rfl
    rw [e2] at rb
    clear e1 e2 h1 h2
    go_enter Try.func70, Try.ntmps70
    go_wp2_with fail
    refine (ra.out _).mono ?_
    rintro e w1 ⟨rfl, hb⟩
    obtain ⟨hc, hf⟩ := bcell hb
    have hz := hb.size
    simp at hz
    have hz0 : w.heap.size < w1.heap.size := by omega
    have hz1 : w.heap.size + 1 < w1.heap.size := by omega
    go_wp2_with fail
    refine (rb.out _).mono ?_
    rintro e w2 ⟨rfl, hb2⟩
    go_wp2
    go_ret
    refine ⟨ret_bool e0.out.symm, btrans (btrans (a := w) ?_ hb) hb2⟩
    ((with_reducible (repeat (first | assumption | exact Below.refl _ _ | refine bset ?_ (Nat.le_refl _) _ | refine balloc ?_ _ | refine bdrew ?_ | refine bdrewN ?_ _))); done)
  · have e2 : chkE l[j] = 0 := by unfold chkE; rw [h2]; rfl
    rw [e2] at rb
    have e0 : twoB l[i] l[j] = (((l[i].k == 15 || l[i].k == 16) && (l[j].k == 15 || l[j].k == 16)) && (l[i].k == 16 || l[j].k == 16)) := by
      unfold twoB
      rw [h1, h2]
      rfl
    clear e1 e2 h1 h2
    cases q1 : (l[i].k == 15)
    all_goals cases q2 : (l[i].k == 16)
    all_goals cases q3 : (l[j].k == 15)
    all_goals cases q4 : (l[j].k == 16)
    all_goals
      rw [q1, q2, q3, q4] at e0
      replace e0 := hid e0
      go_enter Try.func70, Try.ntmps70
      go_wp2_with fail
      refine (ra.out _).mono ?_
      rintro e w1 ⟨rfl, hb⟩
      obtain ⟨hc, hf⟩ := bcell hb
      have hz := hb.size
      simp at hz
      have hz0 : w.heap.size < w1.heap.size := by omega
      have hz1 : w.heap.size + 1 < w1.heap.size := by omega
      go_wp2_with fail
      refine (rb.out _).mono ?_
      rintro e w2 ⟨rfl, hb2⟩
      obtain ⟨hc2, hf2⟩ := bcell hb2
      go_wp2
      go_ret
      refine ⟨ret_bool e0.out.symm, btrans (btrans (a := w) ?_ hb) hb2⟩
      ((with_reducible (repeat (first | assumption | exact Below.refl _ _ | refine bset ?_ (Nat.le_refl _) _ | refine balloc ?_ _ | refine bdrew ?_ | refine bdrewN ?_ _))); done)
theorem two_any (A : Option Addr) (l : List Op) (cap : Nat) (i j : Int) (w : World) (hl : OpsIn w A l) :
    Calls Try.prog 70 #[.slice A l.length cap, .int .i64 i, .int .i64 j] w fun e w' => e = .returned (.bool (twoL l i j)) ∧ Below w.heap.size w w' := by
  by_cases h : 0 ≤ i ∧ 0 ≤ j ∧ i < l.length ∧ j < l.length
  · obtain ⟨i, rfl⟩ := Int.eq_ofNat_of_zero_le h.1
    obtain ⟨j, rfl⟩ := Int.eq_ofNat_of_zero_le h.2.1
    have e : twoL l i j = twoB (l[i]'(by omega)) (l[j]'(by omega)) := by unfold twoL; rw [dif_pos h]; rfl
    rw [e]
    exact two_yes A l cap i j w hl (by omega) (by omega)
  · have e : twoL l i j = false := by unfold twoL; rw [dif_neg h]
    rw [e]
    exact two_no A l cap i j w h
end Go.Proofs.Ytcibkoodnfkogaa
