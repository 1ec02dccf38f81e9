/- Two lists of numbers that are the same; Steps. -/
import Derived.Test.YtpiagggnjppkhaaM1
namespace Go.Proofs.Ytpiagggnjppkhaa
open Go.RowKit
set_option linter.unusedVariables false
set_option linter.unusedSimpArgs false
set_option maxHeartbeats 4000000 in
set_option maxRecDepth 100000 in
theorem nums_same (A1 A2 : Option Addr) (l : List Int) (c1 c2 : Nat) (w : World) (h1 : NumsIn w A1 l) (h2 : NumsIn w A2 l) (hm : l.length ≤ 1000000000000000000) :
    Calls Try.prog 21 #[.slice A1 l.length c1, .slice A2 l.length c2] w fun e w' => e = .returned (.bool true) ∧ Below w.heap.size w w' := by
  have H1 := hid h1
  have H2 := hid h2
  clear h1 h2
  go_enter Try.func21, Try.ntmps21
  go_wp2
  go_loopg [13] l.length (fun g v wr => ∃ i : Nat, i ≤ l.length ∧ v = .int .i64 i ∧ Hid (g + i = l.length) ∧ Below w.heap.size w wr)
  case atStart => exact ⟨0, by omega, rfl, by exact Nat.add_zero _, Below.refl _ _⟩
  case round =>
    obtain ⟨i, hi, rfl, hg, hbw⟩ := hrel
    by_cases hlt : i < l.length
    · obtain ⟨g1, o1, rfl, k1⟩ := (H1.out.keep hbw).get i hlt
      obtain ⟨g2, o2, rfl, k2⟩ := (H2.out.keep hbw).get i hlt
      have hij : (i : Int) < (l.length : Int) := by omega
      have hi0 : (0 : Int) ≤ (i : Int) := by omega
      have B0 := hid hbw
      generalize l[i] = x at *
      clear hbw
      go_wp2
      go_quiet (fail)
      go_wp2
      go_roundg (l.length - (i + 1))
      case measure => have := hg.out; omega
      case rel => exact ⟨i + 1, by omega, by go_num, by show _ + _ = _; omega, bdrewN B0.out _⟩
    · obtain rfl : i = l.length := by omega
      go_wp2
      go_ret
      exact ⟨rfl, hbw⟩
/-- Steps that are counted round. -/
def stepsN (n : Int) : Int := if 5000 < n then n % 5000 else n
theorem stepsN_le (n : Int) : stepsN n ≤ 5000 := by unfold stepsN; split <;> omega
theorem stepsN_ge (n : Int) (h : -9223372036854775808 ≤ n) : -9223372036854775808 ≤ stepsN n := by unfold stepsN; split <;> omega
set_option maxHeartbeats 4000000 in
set_option maxRecDepth 100000 in
theorem steps_any (n : Int) (w : World) (h0 : -9223372036854775808 ≤ n) (h1 : n ≤ 9223372036854775807) :
    Calls Try.prog 17 #[.int .i64 n] w fun e w' => e = .returned (.int .i64 (stepsN n)) ∧ w' = w := by
  by_cases h : 5000 < n
  · have e : stepsN n = n % 5000 := by unfold stepsN; rw [if_pos h]
    have e2 : n.tmod 5000 = n % 5000 := Int.tmod_eq_emod_of_nonneg (by omega)
    rw [e]
    go_enter Try.func17, Try.ntmps17
    go_wp2
    go_ret
    refine ⟨?_, rfl⟩
    first
      | rfl
      | (rw [e2]; done)
      | (rw [e2]; rfl)
  · have e : stepsN n = n := by unfold stepsN; rw [if_neg h]
    rw [e]
    go_enter Try.func17, Try.ntmps17
    go_wp2
    go_ret
    exact ⟨rfl, rfl⟩
/-- An outcome, by value. -/
def outV3 (e v : Int) (pr mem : Value) (st : Int) : Value := .agg #[.int .i64 e, .int .i64 v, pr, mem, .int .i64 st]
set_option maxHeartbeats 4000000 in
set_option maxRecDepth 100000 in
theorem like_same (A1 A2 A3 A4 : Option Addr) (p q : List Int) (c1 c2 c3 c4 : Nat) (e v st : Int) (w : World) (h1 : NumsIn w A1 p) (h2 : NumsIn w A2 p) (h3 : NumsIn w A3 q) (h4 : NumsIn w A4 q) (hp : p.length ≤ 1000000000000000000) (hq : q.length ≤ 1000000000000000000) :
    Calls Try.prog 15 #[.agg #[.int .i64 e, .int .i64 v, .slice A1 p.length c1, .slice A3 q.length c3, .int .i64 st], .agg #[.int .i64 e, .int .i64 v, .slice A2 p.length c2, .slice A4 q.length c4, .int .i64 st]] w fun e w' => e = .returned (.bool true) ∧ Below w.heap.size w w' := by
  have C1 := hid (fun w (h1 : NumsIn w A1 p) (h2 : NumsIn w A2 p) => nums_same A1 A2 p c1 c2 w h1 h2 hp)
  have C2 := hid (fun w (h1 : NumsIn w A3 q) (h2 : NumsIn w A4 q) => nums_same A3 A4 q c3 c4 w h1 h2 hq)
  have H1 := hid h1
  have H2 := hid h2
  have H3 := hid h3
  have H4 := hid h4
  have e1 : (e == e) = true := by simp
  have e2 : (v == v) = true := by simp
  have e3 : (st == st) = true := by simp
  clear h1 h2 h3 h4
  go_enter Try.func15, Try.ntmps15
  go_wp2_with fail
  with_reducible refine (C1.out _ (H1.out.keep ?_) (H2.out.keep ?_)).mono ?_
  · ((with_reducible (repeat (first | assumption | exact Below.refl _ _ | refine bset ?_ (Nat.le_refl _) _ | refine balloc ?_ _ | refine bdrew ?_ | refine bdrewN ?_ _))); done)
  · ((with_reducible (repeat (first | assumption | exact Below.refl _ _ | refine bset ?_ (Nat.le_refl _) _ | refine balloc ?_ _ | refine bdrew ?_ | refine bdrewN ?_ _))); done)
  rintro e w1 ⟨rfl, hb⟩
  have B1 := hid (btrans (a := w) (by ((with_reducible (repeat (first | assumption | exact Below.refl _ _ | refine bset ?_ (Nat.le_refl _) _ | refine balloc ?_ _ | refine bdrew ?_ | refine bdrewN ?_ _))); done)) hb)
  obtain ⟨hc, hf⟩ := bcell hb
  have hz := hb.size
  clear hb
  simp at hz
  have hz0 : w.heap.size < w1.heap.size := by omega
  have hz1 : w.heap.size + 1 < w1.heap.size := by omega
  go_wp2_with fail
  with_reducible refine (C2.out _ (H3.out.keep ?_) (H4.out.keep ?_)).mono ?_
  · exact B1.out
  · exact B1.out
  rintro e w2 ⟨rfl, hb⟩
  have B2 := hid (btrans B1.out hb)
  go_wp2
  go_ret
  exact ⟨rfl, B2.out⟩
end Go.Proofs.Ytpiagggnjppkhaa
