/- Reading arguments: a list of operations; a table. -/
import Derived.Test.YtcibkoodnfkogaaBase2
import Derived.ProofKit
import Derived.OpenShut
import Derived.Deep.Slices
namespace Go.Proofs.Ytcibkoodnfkogaa
open Go.RowKit Go.ChangeShapes Go.WideShapes Go.Deep
set_option linter.unusedVariables false
set_option linter.unusedSimpArgs false

section
variable {H : Type} {enc : TypeId × Value → H} {w : World}
theorem cells_i8 : Try.prog.cellsOf 53 = 1 := by kernel_rfl
theorem cells_u8 : Try.prog.cellsOf 5 = 1 := by kernel_rfl
theorem cells_i64 : Try.prog.cellsOf 2 = 1 := by kernel_rfl
theorem cells_int : Try.prog.cellsOf 3 = 1 := by kernel_rfl
theorem cells_op : Try.prog.cellsOf 55 = 5 := by kernel_rfl
theorem spot_none {a : Addr} {v : Value} (h : w.cell? ((a.add (0 * 5)).add 0) = some v) : ∃ g off, a = ⟨g, off, none⟩ := by
  have h2 : w.cell? a = some v := h
  obtain ⟨g, off, s⟩ := a
  cases s with
  | none => exact ⟨g, off, rfl⟩
  | some s =>
    unfold World.cell? at h2
    split at h2
    · simp at h2
    · cases h2
theorem add_none (g off i : Nat) : (⟨g, off, none⟩ : Addr).add i = ⟨g, off + i, none⟩ := by
  unfold Addr.add
  split
  · subst_vars; rfl
  · rfl
theorem five {α : Type} {l : List α} (h : l.length = 5) : ∃ a b c d e, l = [a, b, c, d, e] := by
  match l, h with
  | [a, b, c, d, e], _ => exact ⟨a, b, c, d, e, rfl⟩
theorem wf_i8 {n : Int} (h : (Lit.int .i8 n).wf = true) : -128 ≤ n ∧ n ≤ 127 := by
  simp only [Lit.wf, IntKind.min, IntKind.max, IntKind.bits, IntKind.signed, Bool.and_eq_true] at h
  simp at h
  omega
theorem wf_u8 {n : Int} (h : (Lit.int .u8 n).wf = true) : 0 ≤ n ∧ n ≤ 255 := by
  simp only [Lit.wf, IntKind.min, IntKind.max, IntKind.bits, IntKind.signed, Bool.and_eq_true] at h
  simp at h
  omega
theorem wf_i64 {n : Int} (h : (Lit.int .i64 n).wf = true) : -9223372036854775808 ≤ n ∧ n ≤ 9223372036854775807 := by
  simp only [Lit.wf, IntKind.min, IntKind.max, IntKind.bits, IntKind.signed, Bool.and_eq_true] at h
  simp at h
  omega
theorem open_op {fuel : Nat} {cs : List Value} {x : DataW H × List MemPlace} (h : DataW.trod enc Try.prog w 0 (fun _ => true) true fuel 55 cs = some x) : ∃ o : Op, o.wf ∧ cs = o.cells := by
  obtain ⟨xs, n, _, _, hl, hlen, hf⟩ := DataW.trod_struct Try.underlying55 h
  rw [cells_op] at hl
  obtain ⟨y0, y1, y2, y3, y4, rfl⟩ := five (show xs.length = 5 from hlen)
  obtain ⟨v0, v1, v2, v3, v4, rfl⟩ := five hl
  have f0 : DataW.trod enc Try.prog w 0 (fun _ => true) true n 53 (([v0, v1, v2, v3, v4].drop 0).take (Try.prog.cellsOf 53)) = some y0 := hf 0 _ rfl
  have f1 : DataW.trod enc Try.prog w 0 (fun _ => true) true n 5 (([v0, v1, v2, v3, v4].drop 1).take (Try.prog.cellsOf 5)) = some y1 := hf 1 _ rfl
  have f2 : DataW.trod enc Try.prog w 0 (fun _ => true) true n 5 (([v0, v1, v2, v3, v4].drop 2).take (Try.prog.cellsOf 5)) = some y2 := hf 2 _ rfl
  have f3 : DataW.trod enc Try.prog w 0 (fun _ => true) true n 5 (([v0, v1, v2, v3, v4].drop 3).take (Try.prog.cellsOf 5)) = some y3 := hf 3 _ rfl
  have f4 : DataW.trod enc Try.prog w 0 (fun _ => true) true n 2 (([v0, v1, v2, v3, v4].drop 4).take (Try.prog.cellsOf 2)) = some y4 := hf 4 _ rfl
  obtain ⟨k, e0, _, w0⟩ := DataW.trod_int Try.underlying53 f0
  obtain ⟨d, e1, _, w1⟩ := DataW.trod_int Try.underlying5 f1
  obtain ⟨a, e2, _, w2⟩ := DataW.trod_int Try.underlying5 f2
  obtain ⟨b, e3, _, w3⟩ := DataW.trod_int Try.underlying5 f3
  obtain ⟨m, e4, _, w4⟩ := DataW.trod_int Try.underlying2 f4
  simp only [cells_i8, List.drop_zero, List.take_succ_cons, List.take_zero] at e0
  simp only [cells_u8, List.drop_succ_cons, List.drop_zero, List.take_succ_cons, List.take_zero] at e1 e2 e3
  simp only [cells_i64, List.drop_succ_cons, List.drop_zero, List.take_succ_cons, List.take_zero] at e4
  injection e0 with e0 _
  injection e1 with e1 _
  injection e2 with e2 _
  injection e3 with e3 _
  injection e4 with e4 _
  subst e0 e1 e2 e3 e4
  have b0 := wf_i8 w0
  have b1 := wf_u8 w1
  have b2 := wf_u8 w2
  have b3 := wf_u8 w3
  have b4 := wf_i64 w4
  exact ⟨⟨k, d, a, b, m⟩, ⟨b0.1, b0.2, b1.1, b1.2, b2.1, b2.2, b3.1, b3.2, b4.1, b4.2⟩, rfl⟩
theorem open_ops {fuel : Nat} {cs : List Value} {x : DataW H × List MemPlace} (h : DataW.trod enc Try.prog w 0 (fun _ => true) true fuel 38 cs = some x) :
    ∃ (A : Option Addr) (cap : Nat) (l : List Op), cs = [.slice A l.length cap] ∧ l.length ≤ cap ∧ cap ≤ maxLen ∧ OpsIn w A l ∧ (∀ o ∈ l, o.wf) ∧ (A = none → cap = 0) := by
  rcases open_slice Try.underlying38 h with ⟨rfl, _⟩ | ⟨a, len, cap, m, n, D, Pl, rfl, _, hl, hm, hmm, _, hel⟩
  · exact ⟨none, 0, [], rfl, Nat.le_refl _, Nat.zero_le _, fun h => absurd rfl h, (fun o ho => by cases ho), fun _ => rfl⟩
  · simp only [if_true] at hmm
    subst hmm
    rw [cells_op] at hel
    have hop : ∀ i, i < m → ∃ o : Op, o.wf ∧ w.cells? 0 (a.add (i * 5)) 5 = some o.cells := fun i hi => by
      obtain ⟨cs', h1, h2⟩ := hel i hi
      obtain ⟨o, ho, rfl⟩ := open_op h2
      exact ⟨o, ho, h1⟩
    have : Inhabited Op := ⟨⟨0, 0, 0, 0, 0⟩⟩
    obtain ⟨f, hf⟩ := choose_lt hop
    refine ⟨some a, m, (List.range len).map f, by simp, by simpa using hl, by assumption, (fun hne => ?_), (fun o ho => ?_), (fun h => by cases h)⟩
    · have hlen : 0 < len := by
        cases len with
        | zero => simp at hne
        | succ n => omega
      have hsp : ∃ g off, a = ⟨g, off, none⟩ := spot_none ((World.cells?_some (hf 0 (by omega)).2).2.2 0 (by omega))
      obtain ⟨g, off, rfl⟩ := hsp
      refine ⟨g, off, rfl, fun i x hi => ?_⟩
      have hil : i < len := by have := (List.getElem?_eq_some_iff.1 hi).1; simpa using this
      have hx : f i = x := by simpa [hil] using hi
      subst hx
      have hc := (World.cells?_some (hf i (by omega)).2).2.2
      simp only [add_none] at hc
      exact ⟨hc 0 (by omega), hc 1 (by omega), hc 2 (by omega), hc 3 (by omega), hc 4 (by omega)⟩
    · obtain ⟨i, hi, rfl⟩ := List.mem_map.1 ho
      exact (hf i (by have := List.mem_range.1 hi; omega)).1
theorem four {α : Type} {l : List α} (h : l.length = 4) : ∃ a b c d, l = [a, b, c, d] := by
  match l, h with
  | [a, b, c, d], _ => exact ⟨a, b, c, d, rfl⟩
theorem cells_arr : Try.prog.cellsOf 26 = 4 := by kernel_rfl
theorem cells_tab : Try.prog.cellsOf 28 = 13 := by kernel_rfl
theorem open_arr {fuel : Nat} {cs : List Value} {x : DataW H × List MemPlace} (h : DataW.trod enc Try.prog w 0 (fun _ => true) true fuel 26 cs = some x) :
    ∃ t : List Int, t.length = 4 ∧ cs = t.map (Value.int .i64) ∧ ∀ n ∈ t, -9223372036854775808 ≤ n ∧ n ≤ 9223372036854775807 := by
  obtain ⟨xs, n, _, _, hl, hlen, hf⟩ := DataW.trod_array Try.underlying26 h
  rw [cells_arr] at hl
  obtain ⟨y0, y1, y2, y3, rfl⟩ := four hlen
  obtain ⟨v0, v1, v2, v3, rfl⟩ := four hl
  rw [cells_int] at hf
  obtain ⟨a, e0, _, w0⟩ := DataW.trod_int Try.underlying3 (hf 0 (by decide))
  obtain ⟨b, e1, _, w1⟩ := DataW.trod_int Try.underlying3 (hf 1 (by decide))
  obtain ⟨c, e2, _, w2⟩ := DataW.trod_int Try.underlying3 (hf 2 (by decide))
  obtain ⟨d, e3, _, w3⟩ := DataW.trod_int Try.underlying3 (hf 3 (by decide))
  simp only [Nat.mul_one, List.drop_zero, List.drop_succ_cons, List.take_succ_cons, List.take_zero] at e0 e1 e2 e3
  injection e0 with e0 _
  injection e1 with e1 _
  injection e2 with e2 _
  injection e3 with e3 _
  subst e0 e1 e2 e3
  refine ⟨[a, b, c, d], rfl, rfl, fun n hn => ?_⟩
  simp only [List.mem_cons, List.not_mem_nil, or_false] at hn
  rcases hn with rfl | rfl | rfl | rfl
  · exact wf_i64 w0
  · exact wf_i64 w1
  · exact wf_i64 w2
  · exact wf_i64 w3
/-- A table by value: 13 numbers. -/
theorem open_tab {fuel : Nat} {cs : List Value} {x : DataW H × List MemPlace} (h : DataW.trod enc Try.prog w 0 (fun _ => true) true fuel 28 cs = some x) :
    ∃ t : List Int, t.length = 13 ∧ cs = t.map (Value.int .i64) ∧ ∀ n ∈ t, -9223372036854775808 ≤ n ∧ n ≤ 9223372036854775807 := by
  obtain ⟨xs, n, _, _, hl, hlen, hf⟩ := DataW.trod_struct Try.underlying28 h
  rw [cells_tab] at hl
  obtain ⟨y0, y1, y2, y3, rfl⟩ := four (show xs.length = 4 from hlen)
  have f0 : DataW.trod enc Try.prog w 0 (fun _ => true) true n 26 ((cs.drop 0).take (Try.prog.cellsOf 26)) = some y0 := hf 0 _ rfl
  have f1 : DataW.trod enc Try.prog w 0 (fun _ => true) true n 26 ((cs.drop 4).take (Try.prog.cellsOf 26)) = some y1 := hf 1 _ rfl
  have f2 : DataW.trod enc Try.prog w 0 (fun _ => true) true n 26 ((cs.drop 8).take (Try.prog.cellsOf 26)) = some y2 := hf 2 _ rfl
  have f3 : DataW.trod enc Try.prog w 0 (fun _ => true) true n 3 ((cs.drop 12).take (Try.prog.cellsOf 3)) = some y3 := hf 3 _ rfl
  rw [cells_arr] at f0 f1 f2
  rw [cells_int] at f3
  obtain ⟨t0, l0, e0, b0⟩ := open_arr f0
  obtain ⟨t1, l1, e1, b1⟩ := open_arr f1
  obtain ⟨t2, l2, e2, b2⟩ := open_arr f2
  obtain ⟨d, e3, _, w3⟩ := DataW.trod_int Try.underlying3 f3
  have h12 : (cs.drop 12).take 1 = cs.drop 12 := List.take_of_length_le (by simp; omega)
  refine ⟨t0 ++ (t1 ++ (t2 ++ [d])), by simp [l0, l1, l2], ?_, ?_⟩
  · rw [List.map_append, List.map_append, List.map_append, ← e0, ← e1, ← e2]
    have h8 : cs.drop 8 = (cs.drop 8).take 4 ++ cs.drop 12 := by
      have := (List.take_append_drop 4 (cs.drop 8)).symm
      rwa [List.drop_drop] at this
    have h4 : cs.drop 4 = (cs.drop 4).take 4 ++ cs.drop 8 := by
      have := (List.take_append_drop 4 (cs.drop 4)).symm
      rwa [List.drop_drop] at this
    have h0 : cs = (cs.drop 0).take 4 ++ cs.drop 4 := (List.take_append_drop 4 cs).symm
    rw [h12] at e3
    rw [show [d].map (Value.int .i64) = cs.drop 12 from e3.symm, ← h8, ← h4]
    exact h0
  · intro m hm
    simp only [List.mem_append, List.mem_singleton] at hm
    rcases hm with hm | hm | hm | rfl
    · exact b0 m hm
    · exact b1 m hm
    · exact b2 m hm
    · exact wf_i64 w3
end
end Go.Proofs.Ytcibkoodnfkogaa
