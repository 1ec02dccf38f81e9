/- Reading arguments: numbers of 64 bits, a state. -/
import Derived.Test.YtpiagggnjppkhaaZ31
import Derived.Test.YtpiagggnjppkhaaZ4
namespace Go.Proofs.Ytpiagggnjppkhaa
open Go.RowKit
set_option linter.unusedVariables false
set_option linter.unusedSimpArgs false
section
open Go.RowKit Go.ChangeShapes Go.WideShapes Go.Deep
section
variable {H : Type} {enc : TypeId × Value → H} {w : World}
theorem wf_i64n {n : Int} (h : (Lit.int .i64 n).wf = true) : -9223372036854775808 ≤ n ∧ n ≤ 9223372036854775807 := by
  simp only [Lit.wf, IntKind.min, IntKind.max, IntKind.bits, IntKind.signed, Bool.and_eq_true] at h
  simp at h
  omega
theorem cells_i64n : Try.prog.cellsOf 2 = 1 := by kernel_rfl
theorem bytes_i64n : Try.prog.bytesOf 2 = 8 := by kernel_rfl
theorem open_nums {fuel : Nat} {cs : List Value} {x : DataW H × List MemPlace} (h : DataW.trod enc Try.prog w 0 (fun _ => true) true fuel 25 cs = some x) (hz : Light 25 x.1) :
    ∃ (A : Option Addr) (cap : Nat) (l : List Int), cs = [.slice A l.length cap] ∧ l.length ≤ cap ∧ cap ≤ 17592186043904 ∧ NumsIn w A l ∧ I64s l ∧ (A = none → cap = 0) := by
  rcases open_slice Try.underlying25 h with ⟨rfl, _⟩ | ⟨a, len, cap, m, n, D, Pl, rfl, _, hl, hm, hmm, hx, hel⟩
  · exact ⟨none, 0, [], rfl, Nat.le_refl _, Nat.zero_le _, fun h => absurd rfl h, (fun o ho => by cases ho), fun _ => rfl⟩
  · simp only [if_true] at hmm
    subst hmm
    rw [cells_i64n] at hel
    rw [hx] at hz
    unfold Light at hz
    rw [weights_slice Try.underlying25] at hz
    simp only [List.all_cons, Bool.and_eq_true, decide_eq_true_eq, bytes_i64n, List.length_map, List.length_range] at hz
    have hz0 := hz.1
    unfold reachBytes at hz0
    have hop : ∀ i, i < m → ∃ y : Int, (-9223372036854775808 ≤ y ∧ y ≤ 9223372036854775807) ∧ w.cell? (a.add i) = some (.int .i64 y) := fun i hi => by
      obtain ⟨cs', h1, h2⟩ := hel i hi
      obtain ⟨y, rfl, _, hw⟩ := DataW.trod_int Try.underlying2 h2
      refine ⟨y, wf_i64n hw, ?_⟩
      rw [Nat.mul_one] at h1
      exact (World.cells?_some h1).2.2 0 (by omega)
    obtain ⟨f, hf⟩ := choose_lt hop
    refine ⟨some a, m, (List.range len).map f, by simp, by simpa using hl, by omega, (fun hne => ?_), (fun o ho => ?_), fun h => by cases h⟩
    · have hlen : 0 < len := by
        cases len with
        | zero => simp at hne
        | succ n => omega
      have hsp : ∃ g off, a = ⟨g, off, none⟩ := spot_none (v := .int .i64 (f 0)) (by exact (hf 0 (by omega)).2)
      obtain ⟨g, off, rfl⟩ := hsp
      refine ⟨g, off, rfl, fun i x hi => ?_⟩
      have hil : i < len := by have := (List.getElem?_eq_some_iff.1 hi).1; simpa using this
      have hx : f i = x := by simpa [hil] using hi
      subst hx
      have hc := (hf i (by omega)).2
      rw [add_none] at hc
      exact hc
    · obtain ⟨i, hi, rfl⟩ := List.mem_map.1 ho
      exact (hf i (by have := List.mem_range.1 hi; omega)).1
theorem cells_nums : Try.prog.cellsOf 25 = 1 := by kernel_rfl
theorem cells_state : Try.prog.cellsOf 27 = 2 := by kernel_rfl
theorem two_ {α : Type} {l : List α} (h : l.length = 2) : ∃ a b, l = [a, b] := by
  match l, h with
  | [a, b], _ => exact ⟨a, b, rfl⟩
/-- A state by value: its registers and cells. -/
theorem open_state {fuel : Nat} {cs : List Value} {x : DataW H × List MemPlace} (h : DataW.trod enc Try.prog w 0 (fun _ => true) true fuel 27 cs = some x) (hz : Light 27 x.1) :
    ∃ (A1 : Option Addr) (c1 : Nat) (l1 : List Int) (A2 : Option Addr) (c2 : Nat) (l2 : List Int), cs = [.slice A1 l1.length c1, .slice A2 l2.length c2] ∧ (l1.length ≤ c1 ∧ c1 ≤ 17592186043904 ∧ NumsIn w A1 l1 ∧ I64s l1 ∧ (A1 = none → c1 = 0)) ∧ (l2.length ≤ c2 ∧ c2 ≤ 17592186043904 ∧ NumsIn w A2 l2 ∧ I64s l2 ∧ (A2 = none → c2 = 0)) := by
  obtain ⟨xs, n, _, hx, hl, hlen, hf⟩ := DataW.trod_struct Try.underlying27 h
  rw [cells_state] at hl
  obtain ⟨y0, y1, rfl⟩ := two_ (show xs.length = 2 from hlen)
  obtain ⟨v0, v1, rfl⟩ := two_ hl
  have f0 : DataW.trod enc Try.prog w 0 (fun _ => true) true n 25 (([v0, v1].drop 0).take (Try.prog.cellsOf 25)) = some y0 := hf 0 _ rfl
  have f1 : DataW.trod enc Try.prog w 0 (fun _ => true) true n 25 (([v0, v1].drop 1).take (Try.prog.cellsOf 25)) = some y1 := hf 1 _ rfl
  rw [cells_nums] at f0 f1
  simp only [List.drop_zero, List.drop_succ_cons, List.take_succ_cons, List.take_zero] at f0 f1
  have hz0 : Light 25 y0.1 ∧ Light 25 y1.1 := by
    rw [hx] at hz
    unfold Light at hz
    rw [weights_struct Try.underlying27] at hz
    simp only [List.map_cons, List.map_nil, DataW.weightsEach, List.all_append, Bool.and_eq_true] at hz
    exact ⟨hz.1, hz.2.1⟩
  obtain ⟨A1, c1, l1, e0, q⟩ := open_nums f0 hz0.1
  obtain ⟨A2, c2, l2, e1, r⟩ := open_nums f1 hz0.2
  injection e0 with e0 _
  injection e1 with e1 _
  subst e0 e1
  exact ⟨A1, c1, l1, A2, c2, l2, rfl, q, r⟩
end
end
/- Reading arguments: a list of int. -/
section
open Go.RowKit Go.ChangeShapes Go.WideShapes Go.Deep
section
variable {H : Type} {enc : TypeId × Value → H} {w : World}
theorem cells_intn : Try.prog.cellsOf 3 = 1 := by kernel_rfl
theorem bytes_intn : Try.prog.bytesOf 3 = 8 := by kernel_rfl
theorem open_ints {fuel : Nat} {cs : List Value} {x : DataW H × List MemPlace} (h : DataW.trod enc Try.prog w 0 (fun _ => true) true fuel 28 cs = some x) (hz : Light 28 x.1) :
    ∃ (A : Option Addr) (cap : Nat) (l : List Int), cs = [.slice A l.length cap] ∧ l.length ≤ cap ∧ cap ≤ 17592186043904 ∧ NumsIn w A l ∧ I64s l ∧ (A = none → cap = 0) := by
  rcases open_slice Try.underlying28 h with ⟨rfl, _⟩ | ⟨a, len, cap, m, n, D, Pl, rfl, _, hl, hm, hmm, hx, hel⟩
  · exact ⟨none, 0, [], rfl, Nat.le_refl _, Nat.zero_le _, fun h => absurd rfl h, (fun o ho => by cases ho), fun _ => rfl⟩
  · simp only [if_true] at hmm
    subst hmm
    rw [cells_intn] at hel
    rw [hx] at hz
    unfold Light at hz
    rw [weights_slice Try.underlying28] at hz
    simp only [List.all_cons, Bool.and_eq_true, decide_eq_true_eq, bytes_intn, List.length_map, List.length_range] at hz
    have hz0 := hz.1
    unfold reachBytes at hz0
    have hop : ∀ i, i < m → ∃ y : Int, (-9223372036854775808 ≤ y ∧ y ≤ 9223372036854775807) ∧ w.cell? (a.add i) = some (.int .i64 y) := fun i hi => by
      obtain ⟨cs', h1, h2⟩ := hel i hi
      obtain ⟨y, rfl, _, hw⟩ := DataW.trod_int Try.underlying3 h2
      refine ⟨y, wf_i64n hw, ?_⟩
      rw [Nat.mul_one] at h1
      exact (World.cells?_some h1).2.2 0 (by omega)
    obtain ⟨f, hf⟩ := choose_lt hop
    refine ⟨some a, m, (List.range len).map f, by simp, by simpa using hl, by omega, (fun hne => ?_), (fun o ho => ?_), fun h => by cases h⟩
    · have hlen : 0 < len := by
        cases len with
        | zero => simp at hne
        | succ n => omega
      have hsp : ∃ g off, a = ⟨g, off, none⟩ := spot_none (v := .int .i64 (f 0)) (by exact (hf 0 (by omega)).2)
      obtain ⟨g, off, rfl⟩ := hsp
      refine ⟨g, off, rfl, fun i x hi => ?_⟩
      have hil : i < len := by have := (List.getElem?_eq_some_iff.1 hi).1; simpa using this
      have hx : f i = x := by simpa [hil] using hi
      subst hx
      have hc := (hf i (by omega)).2
      rw [add_none] at hc
      exact hc
    · obtain ⟨i, hi, rfl⟩ := List.mem_map.1 ho
      exact (hf i (by have := List.mem_range.1 hi; omega)).1
end
end
end Go.Proofs.Ytpiagggnjppkhaa
