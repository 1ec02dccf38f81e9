/- Reading arguments: a program. -/
import Derived.Test.YtcibkoodnfkogaaOpen
import Derived.Test.YtcibkoodnfkogaaPrg3
namespace Go.Proofs.Ytcibkoodnfkogaa
open Go.RowKit Go.ChangeShapes Go.WideShapes Go.Deep
set_option linter.unusedVariables false
set_option linter.unusedSimpArgs false

theorem weights_slice {H : Type} {P : Program} {t e : TypeId} {elems spare : List (DataW H)} (ht : P.underlying t = some (.slice e)) : DataW.weights P t (.slice elems spare) = (elems.length + spare.length) * P.bytesOf e :: (DataW.weightsAll P e elems ++ DataW.weightsAll P e spare) := by rw [DataW.weights, ht]
theorem weights_struct {H : Type} {P : Program} {t : TypeId} {fs : Array Field} {parts : List (DataW H)} (ht : P.underlying t = some (.struct fs)) : DataW.weights P t (.agg parts) = DataW.weightsEach P (fs.toList.map (·.type)) parts := by rw [DataW.weights, ht]
section
variable {H : Type} {enc : TypeId × Value → H} {w : World}
/-- Each thing in it takes no more than can be. -/
def Light (t : TypeId) (d : DataW H) : Prop := (d.weights Try.prog t).all (· ≤ reachBytes) = true
theorem light_all {e : TypeId} {l : List (DataW H)} (h : (DataW.weightsAll Try.prog e l).all (· ≤ reachBytes) = true) : ∀ d ∈ l, Light e d := by
  induction l with
  | nil => intro d hd; cases hd
  | cons x l ih =>
    rw [DataW.weightsAll, List.all_append, Bool.and_eq_true] at h
    intro d hd
    rcases List.mem_cons.1 hd with rfl | hd
    · exact h.1
    · exact ih h.2 d hd
theorem light_each {t : TypeId} {ts : List TypeId} {d : DataW H} {r : List (DataW H)} (h : (DataW.weightsEach Try.prog (t :: ts) (d :: r)).all (· ≤ reachBytes) = true) : Light t d ∧ (DataW.weightsEach Try.prog ts r).all (· ≤ reachBytes) = true := by
  rw [DataW.weightsEach, List.all_append, Bool.and_eq_true] at h
  exact h
theorem bytes_op : Try.prog.bytesOf 55 = 16 := by kernel_rfl
theorem bytes_blk : Try.prog.bytesOf 70 = 72 := by kernel_rfl
theorem ops_reach {fuel : Nat} {cs : List Value} {x : DataW H × List MemPlace} (h : DataW.trod enc Try.prog w 0 (fun _ => true) true fuel 38 cs = some x) (hz : Light 38 x.1) {A : Option Addr} {len cap : Nat} (hc : cs = [.slice A len cap]) : cap ≤ 8796093022208 := by
  rcases open_slice Try.underlying38 h with ⟨rfl, _⟩ | ⟨a, len', cap', m, n, D, Pl, rfl, _, hl, hm, hmm, hx, _⟩
  · injection hc with hc _
    injection hc with _ _ hc
    omega
  · simp only [if_true] at hmm
    subst hmm
    injection hc with hc _
    injection hc with _ _ hc
    subst hc
    rw [hx] at hz
    unfold Light at hz
    rw [weights_slice Try.underlying38] at hz
    simp only [List.all_cons, Bool.and_eq_true, decide_eq_true_eq, bytes_op, List.length_map, List.length_range] at hz
    have := hz.1
    unfold reachBytes at this
    omega
theorem six {α : Type} {l : List α} (h : l.length = 6) : ∃ a b c d e f, l = [a, b, c, d, e, f] := by
  match l, h with
  | [a, b, c, d, e, f], _ => exact ⟨a, b, c, d, e, f, rfl⟩
theorem cells_ops : Try.prog.cellsOf 38 = 1 := by kernel_rfl
theorem cells_blks : Try.prog.cellsOf 59 = 1 := by kernel_rfl
theorem cells_blk : Try.prog.cellsOf 70 = 6 := by kernel_rfl
theorem cells_prg : Try.prog.cellsOf 61 = 1 := by kernel_rfl
theorem open_blk {fuel : Nat} {cs : List Value} {x : DataW H × List MemPlace} (h : DataW.trod enc Try.prog w 0 (fun _ => true) true fuel 70 cs = some x) (hz : Light 70 x.1) :
    ∃ (b : Blk) (A : Option Addr) (c : Nat) (A2 : Option Addr) (c2 : Nat), b.wf ∧ cs = [.slice A b.ops.length c, .int .i8 b.en, .int .u8 b.a, .slice A2 b.body.length c2, .int .i64 b.th, .int .i64 b.el] ∧
      OpsIn w A b.ops ∧ OpsIn w A2 b.body ∧ b.ops.length ≤ c ∧ b.body.length ≤ c2 ∧ (A = none → c = 0) ∧ (A2 = none → c2 = 0) := by
  obtain ⟨xs, n, _, hx, hl, hlen, hf⟩ := DataW.trod_struct Try.underlying70 h
  rw [cells_blk] at hl
  obtain ⟨y0, y1, y2, y3, y4, y5, rfl⟩ := six (show xs.length = 6 from hlen)
  obtain ⟨v0, v1, v2, v3, v4, v5, rfl⟩ := six hl
  have f0 : DataW.trod enc Try.prog w 0 (fun _ => true) true n 38 (([v0, v1, v2, v3, v4, v5].drop 0).take (Try.prog.cellsOf 38)) = some y0 := hf 0 _ rfl
  have f1 : DataW.trod enc Try.prog w 0 (fun _ => true) true n 53 (([v0, v1, v2, v3, v4, v5].drop 1).take (Try.prog.cellsOf 53)) = some y1 := hf 1 _ rfl
  have f2 : DataW.trod enc Try.prog w 0 (fun _ => true) true n 5 (([v0, v1, v2, v3, v4, v5].drop 2).take (Try.prog.cellsOf 5)) = some y2 := hf 2 _ rfl
  have f3 : DataW.trod enc Try.prog w 0 (fun _ => true) true n 38 (([v0, v1, v2, v3, v4, v5].drop 3).take (Try.prog.cellsOf 38)) = some y3 := hf 3 _ rfl
  have f4 : DataW.trod enc Try.prog w 0 (fun _ => true) true n 3 (([v0, v1, v2, v3, v4, v5].drop 4).take (Try.prog.cellsOf 3)) = some y4 := hf 4 _ rfl
  have f5 : DataW.trod enc Try.prog w 0 (fun _ => true) true n 3 (([v0, v1, v2, v3, v4, v5].drop 5).take (Try.prog.cellsOf 3)) = some y5 := hf 5 _ rfl
  have hz0 : Light 38 y0.1 ∧ Light 38 y3.1 := by
    rw [hx] at hz
    unfold Light at hz
    rw [weights_struct Try.underlying70] at hz
    simp only [List.map_cons, List.map_nil, DataW.weightsEach, List.all_append, Bool.and_eq_true] at hz
    exact ⟨hz.1, hz.2.2.2.1⟩
  rw [cells_ops] at f0 f3
  rw [cells_i8] at f1
  rw [cells_u8] at f2
  rw [cells_int] at f4 f5
  simp only [List.drop_zero, List.drop_succ_cons, List.take_succ_cons, List.take_zero] at f0 f1 f2 f3 f4 f5
  obtain ⟨A, c, l, e0, q0, q1, q2, q3, q4⟩ := open_ops f0
  obtain ⟨A2, c2, l2, e3, r0, r1, r2, r3, r4⟩ := open_ops f3
  have m0 := ops_reach f0 hz0.1 e0
  have m1 := ops_reach f3 hz0.2 e3
  obtain ⟨k, e1, _, w1⟩ := DataW.trod_int Try.underlying53 f1
  obtain ⟨a, e2, _, w2⟩ := DataW.trod_int Try.underlying5 f2
  obtain ⟨th, e4, _, w4⟩ := DataW.trod_int Try.underlying3 f4
  obtain ⟨el, e5, _, w5⟩ := DataW.trod_int Try.underlying3 f5
  injection e0 with e0 _
  injection e1 with e1 _
  injection e2 with e2 _
  injection e3 with e3 _
  injection e4 with e4 _
  injection e5 with e5 _
  subst e0 e1 e2 e3 e4 e5
  have b1 := wf_i8 w1
  have b2 := wf_u8 w2
  have b4 := wf_i64 w4
  have b5 := wf_i64 w5
  exact ⟨⟨l, k, a, l2, th, el⟩, A, c, A2, c2, ⟨q3, r3, b1.1, b1.2, b2.1, b2.2, b4.1, b4.2, b5.1, b5.2, by show l.length ≤ _; omega, by show l2.length ≤ _; omega⟩, rfl, q2, r2, q0, r0, q4, r4⟩
theorem open_blks {fuel : Nat} {cs : List Value} {x : DataW H × List MemPlace} (h : DataW.trod enc Try.prog w 0 (fun _ => true) true fuel 59 cs = some x) (hz : Light 59 x.1) :
    ∃ (A : Option Addr) (cap : Nat) (l : List Blk), cs = [.slice A l.length cap] ∧ l.length ≤ cap ∧ cap ≤ 1954687340000 ∧ BlksIn w A l ∧ (∀ b ∈ l, b.wf) ∧ (A = none → cap = 0) := by
  rcases open_slice Try.underlying59 h with ⟨rfl, _⟩ | ⟨a, len, cap, m, n, D, Pl, rfl, _, hl, hm, hmm, hx, hel⟩
  · exact ⟨none, 0, [], rfl, Nat.le_refl _, Nat.zero_le _, fun h => absurd rfl h, (fun o ho => by cases ho), fun _ => rfl⟩
  · simp only [if_true] at hmm
    subst hmm
    rw [cells_blk] at hel
    rw [hx] at hz
    unfold Light at hz
    rw [weights_slice Try.underlying59] at hz
    simp only [List.all_cons, Bool.and_eq_true, decide_eq_true_eq, bytes_blk, List.length_map, List.length_range, List.all_append] at hz
    obtain ⟨hz0, hz1, _⟩ := hz
    unfold reachBytes at hz0
    have hz2 := light_all hz1
    have hop : ∀ i, i < len → ∃ b : Blk, b.wf ∧ ∃ (A : Option Addr) (c : Nat) (A2 : Option Addr) (c2 : Nat), w.cells? 0 (a.add (i * 6)) 6 = some [.slice A b.ops.length c, .int .i8 b.en, .int .u8 b.a, .slice A2 b.body.length c2, .int .i64 b.th, .int .i64 b.el] ∧
        OpsIn w A b.ops ∧ OpsIn w A2 b.body ∧ b.ops.length ≤ c ∧ b.body.length ≤ c2 ∧ (A = none → c = 0) ∧ (A2 = none → c2 = 0) := fun i hi => by
      obtain ⟨cs', h1, h2⟩ := hel i (by omega)
      obtain ⟨b, A, c, A2, c2, hb, rfl, r⟩ := open_blk h2 (hz2 _ (List.mem_map.2 ⟨i, List.mem_range.2 hi, rfl⟩))
      exact ⟨b, hb, A, c, A2, c2, h1, r⟩
    have : Inhabited Blk := ⟨⟨[], 0, 0, [], 0, 0⟩⟩
    obtain ⟨f, hf⟩ := choose_lt hop
    refine ⟨some a, m, (List.range len).map f, by simp, by simpa using hl, by omega, (fun hne => ?_), (fun o ho => ?_), (fun h => by cases h)⟩
    · have hlen : 0 < len := by
        cases len with
        | zero => simp at hne
        | succ n => omega
      obtain ⟨_, A, c, A2, c2, h0, _⟩ := hf 0 (by omega)
      obtain ⟨g, off, rfl⟩ : ∃ g off, a = ⟨g, off, none⟩ := spot_none ((World.cells?_some h0).2.2 0 (by omega))
      refine ⟨g, off, rfl, fun i x hi => ?_⟩
      have hil : i < len := by have := (List.getElem?_eq_some_iff.1 hi).1; simpa using this
      have hx : f i = x := by simpa [hil] using hi
      subst hx
      obtain ⟨_, A, c, A2, c2, h0, r1, r2, r3, r4, r5, r6⟩ := hf i (by omega)
      have hc := (World.cells?_some h0).2.2
      simp only [add_none] at hc
      exact ⟨A, c, A2, c2, hc 0 (by omega), hc 1 (by omega), hc 2 (by omega), hc 3 (by omega), hc 4 (by omega), hc 5 (by omega), r1, r2, r3, r4, r5, r6⟩
    · obtain ⟨i, hi, rfl⟩ := List.mem_map.1 ho
      exact (hf i (by have := List.mem_range.1 hi; omega)).1
theorem one_ {α : Type} {l : List α} (h : l.length = 1) : ∃ a, l = [a] := by
  match l, h with
  | [a], _ => exact ⟨a, rfl⟩
/-- A program by value: its blocks. -/
theorem open_prog {fuel : Nat} {cs : List Value} {x : DataW H × List MemPlace} (h : DataW.trod enc Try.prog w 0 (fun _ => true) true fuel 61 cs = some x) (hz : Light 61 x.1) :
    ∃ (A : Option Addr) (cap : Nat) (l : List Blk), cs = [.slice A l.length cap] ∧ l.length ≤ cap ∧ cap ≤ 1954687340000 ∧ BlksIn w A l ∧ (∀ b ∈ l, b.wf) ∧ (A = none → cap = 0) := by
  obtain ⟨xs, n, _, hx, hl, hlen, hf⟩ := DataW.trod_struct Try.underlying61 h
  rw [cells_prg] at hl
  obtain ⟨y0, rfl⟩ := one_ (show xs.length = 1 from hlen)
  obtain ⟨v0, rfl⟩ := one_ hl
  have f0 : DataW.trod enc Try.prog w 0 (fun _ => true) true n 59 (([v0].drop 0).take (Try.prog.cellsOf 59)) = some y0 := hf 0 _ rfl
  rw [cells_blks] at f0
  rw [hx] at hz
  unfold Light at hz
  rw [weights_struct Try.underlying61] at hz
  simp only [List.map_cons, List.map_nil, DataW.weightsEach, List.append_nil] at hz
  exact open_blks f0 hz
end
end Go.Proofs.Ytcibkoodnfkogaa
