/- Reading arguments: words, bundles. -/
import Derived.Test.YtcibkoodnfkogaaOpen2
import Derived.Test.YtcibkoodnfkogaaBu9
namespace Go.Proofs.Ytcibkoodnfkogaa
open Go.RowKit Go.ChangeShapes Go.WideShapes Go.Deep
set_option linter.unusedVariables false
set_option linter.unusedSimpArgs false
theorem weights_array {H : Type} {P : Program} {t e : TypeId} {n : Nat} {parts : List (DataW H)} (ht : P.underlying t = some (.array n e)) : DataW.weights P t (.agg parts) = DataW.weightsAll P e parts := by rw [DataW.weights, ht]
section
variable {H : Type} {enc : TypeId × Value → H} {w : World}
theorem wf_u64 {n : Int} (h : (Lit.int .u64 n).wf = true) : 0 ≤ n ∧ n ≤ 18446744073709551615 := by
  simp only [Lit.wf, IntKind.min, IntKind.max, IntKind.bits, IntKind.signed, Bool.and_eq_true] at h
  simp at h
  omega
theorem cells_u64 : Try.prog.cellsOf 85 = 1 := by kernel_rfl
theorem bytes_u64 : Try.prog.bytesOf 85 = 8 := by kernel_rfl
theorem open_words {fuel : Nat} {cs : List Value} {x : DataW H × List MemPlace} (h : DataW.trod enc Try.prog w 0 (fun _ => true) true fuel 75 cs = some x) (hz : Light 75 x.1) :
    ∃ (A : Option Addr) (cap : Nat) (l : List Int), cs = [.slice A l.length cap] ∧ l.length ≤ cap ∧ cap ≤ 17592186043904 ∧ WordsIn w A l ∧ (∀ n ∈ l, 0 ≤ n ∧ n ≤ 18446744073709551615) := by
  rcases open_slice Try.underlying75 h with ⟨rfl, _⟩ | ⟨a, len, cap, m, n, D, Pl, rfl, _, hl, hm, hmm, hx, hel⟩
  · exact ⟨none, 0, [], rfl, Nat.le_refl _, Nat.zero_le _, fun h => absurd rfl h, (fun o ho => by cases ho)⟩
  · simp only [if_true] at hmm
    subst hmm
    rw [cells_u64] at hel
    rw [hx] at hz
    unfold Light at hz
    rw [weights_slice Try.underlying75] at hz
    simp only [List.all_cons, Bool.and_eq_true, decide_eq_true_eq, bytes_u64, List.length_map, List.length_range] at hz
    have hz0 := hz.1
    unfold reachBytes at hz0
    have hop : ∀ i, i < m → ∃ y : Int, (0 ≤ y ∧ y ≤ 18446744073709551615) ∧ w.cell? (a.add i) = some (.int .u64 y) := fun i hi => by
      obtain ⟨cs', h1, h2⟩ := hel i hi
      obtain ⟨y, rfl, _, hw⟩ := DataW.trod_int Try.underlying85 h2
      refine ⟨y, wf_u64 hw, ?_⟩
      rw [Nat.mul_one] at h1
      exact (World.cells?_some h1).2.2 0 (by omega)
    obtain ⟨f, hf⟩ := choose_lt hop
    refine ⟨some a, m, (List.range len).map f, by simp, by simpa using hl, by omega, (fun hne => ?_), (fun o ho => ?_)⟩
    · have hlen : 0 < len := by
        cases len with
        | zero => simp at hne
        | succ n => omega
      have hsp : ∃ g off, a = ⟨g, off, none⟩ := spot_none (v := .int .u64 (f 0)) (by exact (hf 0 (by omega)).2)
      obtain ⟨g, off, rfl⟩ := hsp
      refine ⟨g, off, rfl, fun i x hi => ?_⟩
      have hil : i < len := by have := (List.getElem?_eq_some_iff.1 hi).1; simpa using this
      have hx : f i = x := by simpa [hil] using hi
      subst hx
      have hc := (hf i (by omega)).2
      rw [add_none] at hc
      exact hc
    · obtain ⟨i, hi, rfl⟩ := List.mem_map.1 ho
      exact (hf i (by have := List.mem_range.1 hi; omega)).1
theorem cells_rows : Try.prog.cellsOf 89 = 4 := by kernel_rfl
theorem cells_bun : Try.prog.cellsOf 91 = 4 := by kernel_rfl
theorem bytes_bun : Try.prog.bytesOf 91 = 96 := by kernel_rfl
theorem open_rows {fuel : Nat} {cs : List Value} {x : DataW H × List MemPlace} (h : DataW.trod enc Try.prog w 0 (fun _ => true) true fuel 89 cs = some x) (hz : Light 89 x.1) :
    ∃ (b : Nat → List Op) (A : Nat → Option Addr) (c : Nat → Nat), cs = [.slice (A 0) (b 0).length (c 0), .slice (A 1) (b 1).length (c 1), .slice (A 2) (b 2).length (c 2), .slice (A 3) (b 3).length (c 3)] ∧
      ∀ j, j < 4 → (∀ o ∈ b j, o.wf) ∧ (b j).length ≤ 140737488351232 ∧ OpsIn w (A j) (b j) ∧ (b j).length ≤ c j ∧ (A j = none → c j = 0) := by
  obtain ⟨xs, n, _, hx, hl, hlen, hf⟩ := DataW.trod_array Try.underlying89 h
  rw [cells_rows] at hl
  obtain ⟨y0, y1, y2, y3, rfl⟩ := four hlen
  obtain ⟨v0, v1, v2, v3, rfl⟩ := four hl
  rw [cells_ops] at hf
  rw [hx] at hz
  unfold Light at hz
  rw [weights_array Try.underlying89] at hz
  have hz2 := light_all hz
  have f0 := hf 0 (by decide)
  have f1 := hf 1 (by decide)
  have f2 := hf 2 (by decide)
  have f3 := hf 3 (by decide)
  simp only [Nat.mul_one, List.drop_zero, List.drop_succ_cons, List.take_succ_cons, List.take_zero] at f0 f1 f2 f3
  have hone : ∀ (v : Value) (y : DataW H × List MemPlace), y.1 ∈ [y0, y1, y2, y3].map (·.1) → DataW.trod enc Try.prog w 0 (fun _ => true) true n 38 [v] = some y → ∃ (p : List Op × Option Addr × Nat), v = .slice p.2.1 p.1.length p.2.2 ∧ (∀ o ∈ p.1, o.wf) ∧ p.1.length ≤ 140737488351232 ∧ OpsIn w p.2.1 p.1 ∧ p.1.length ≤ p.2.2 ∧ (p.2.1 = none → p.2.2 = 0) := fun v y hy hv => by
    obtain ⟨A, c, l, e0, q0, q1, q2, q3, q4⟩ := open_ops hv
    have m0 := ops_reach hv (hz2 _ hy) e0
    injection e0 with e0 _
    exact ⟨(l, A, c), e0, q3, by simp only; omega, q2, q0, q4⟩
  obtain ⟨p0, rfl, r0⟩ := hone v0 y0 (by simp) f0
  obtain ⟨p1, rfl, r1⟩ := hone v1 y1 (by simp) f1
  obtain ⟨p2, rfl, r2⟩ := hone v2 y2 (by simp) f2
  obtain ⟨p3, rfl, r3⟩ := hone v3 y3 (by simp) f3
  refine ⟨fun j => if j = 0 then p0.1 else if j = 1 then p1.1 else if j = 2 then p2.1 else p3.1, fun j => if j = 0 then p0.2.1 else if j = 1 then p1.2.1 else if j = 2 then p2.2.1 else p3.2.1, fun j => if j = 0 then p0.2.2 else if j = 1 then p1.2.2 else if j = 2 then p2.2.2 else p3.2.2, rfl, fun j hj => ?_⟩
  obtain rfl | rfl | rfl | rfl : j = 0 ∨ j = 1 ∨ j = 2 ∨ j = 3 := by omega
  · exact r0
  · exact r1
  · exact r2
  · exact r3
theorem open_bun {fuel : Nat} {cs : List Value} {x : DataW H × List MemPlace} (h : DataW.trod enc Try.prog w 0 (fun _ => true) true fuel 91 cs = some x) (hz : Light 91 x.1) :
    ∃ (b : Nat → List Op) (A : Nat → Option Addr) (c : Nat → Nat), cs = [.slice (A 0) (b 0).length (c 0), .slice (A 1) (b 1).length (c 1), .slice (A 2) (b 2).length (c 2), .slice (A 3) (b 3).length (c 3)] ∧
      ∀ j, j < 4 → (∀ o ∈ b j, o.wf) ∧ (b j).length ≤ 140737488351232 ∧ OpsIn w (A j) (b j) ∧ (b j).length ≤ c j ∧ (A j = none → c j = 0) := by
  obtain ⟨xs, n, _, hx, hl, hlen, hf⟩ := DataW.trod_struct Try.underlying91 h
  rw [cells_bun] at hl
  obtain ⟨y0, rfl⟩ := one_ (show xs.length = 1 from hlen)
  have f0 : DataW.trod enc Try.prog w 0 (fun _ => true) true n 89 ((cs.drop 0).take (Try.prog.cellsOf 89)) = some y0 := hf 0 _ rfl
  rw [cells_rows, List.drop_zero, List.take_of_length_le (by omega)] at f0
  rw [hx] at hz
  unfold Light at hz
  rw [weights_struct Try.underlying91] at hz
  simp only [List.map_cons, List.map_nil, DataW.weightsEach, List.append_nil] at hz
  exact open_rows f0 hz
/-- Bundles by a slice. -/
theorem open_buns {fuel : Nat} {cs : List Value} {x : DataW H × List MemPlace} (h : DataW.trod enc Try.prog w 0 (fun _ => true) true fuel 74 cs = some x) (hz : Light 74 x.1) :
    ∃ (A : Option Addr) (cap : Nat) (l : List (Nat → List Op)), cs = [.slice A l.length cap] ∧ l.length ≤ cap ∧ cap ≤ 1466015503700 ∧ BunsIn w A l ∧ (∀ b ∈ l, BunWf b) := by
  rcases open_slice Try.underlying74 h with ⟨rfl, _⟩ | ⟨a, len, cap, m, n, D, Pl, rfl, _, hl, hm, hmm, hx, hel⟩
  · exact ⟨none, 0, [], rfl, Nat.le_refl _, Nat.zero_le _, fun h => absurd rfl h, (fun o ho => by cases ho)⟩
  · simp only [if_true] at hmm
    subst hmm
    rw [cells_bun] at hel
    rw [hx] at hz
    unfold Light at hz
    rw [weights_slice Try.underlying74] at hz
    simp only [List.all_cons, Bool.and_eq_true, decide_eq_true_eq, bytes_bun, List.length_map, List.length_range, List.all_append] at hz
    obtain ⟨hz0, hz1, _⟩ := hz
    unfold reachBytes at hz0
    have hz2 := light_all hz1
    have hop : ∀ i, i < len → ∃ b : Nat → List Op, ∃ (A : Nat → Option Addr) (c : Nat → Nat), w.cells? 0 (a.add (i * 4)) 4 = some [.slice (A 0) (b 0).length (c 0), .slice (A 1) (b 1).length (c 1), .slice (A 2) (b 2).length (c 2), .slice (A 3) (b 3).length (c 3)] ∧
        ∀ j, j < 4 → (∀ o ∈ b j, o.wf) ∧ (b j).length ≤ 140737488351232 ∧ OpsIn w (A j) (b j) ∧ (b j).length ≤ c j ∧ (A j = none → c j = 0) := fun i hi => by
      obtain ⟨cs', h1, h2⟩ := hel i (by omega)
      obtain ⟨b, A, c, rfl, r⟩ := open_bun h2 (hz2 _ (List.mem_map.2 ⟨i, List.mem_range.2 hi, rfl⟩))
      exact ⟨b, A, c, h1, r⟩
    have : Inhabited (Nat → List Op) := ⟨fun _ => []⟩
    obtain ⟨f, hf⟩ := choose_lt hop
    refine ⟨some a, m, (List.range len).map f, by simp, by simpa using hl, by omega, (fun hne => ?_), (fun o ho => ?_)⟩
    · have hlen : 0 < len := by
        cases len with
        | zero => simp at hne
        | succ n => omega
      obtain ⟨A, c, h0, _⟩ := hf 0 (by omega)
      obtain ⟨g, off, rfl⟩ : ∃ g off, a = ⟨g, off, none⟩ := spot_none ((World.cells?_some h0).2.2 0 (by omega))
      refine ⟨g, off, rfl, fun i x hi => ?_⟩
      have hil : i < len := by have := (List.getElem?_eq_some_iff.1 hi).1; simpa using this
      have hx : f i = x := by simpa [hil] using hi
      subst hx
      obtain ⟨A, c, h0, r⟩ := hf i (by omega)
      have hc := (World.cells?_some h0).2.2
      simp only [add_none] at hc
      refine ⟨A, c, fun j hj => ⟨?_, (r j hj).2.2⟩⟩
      obtain rfl | rfl | rfl | rfl : j = 0 ∨ j = 1 ∨ j = 2 ∨ j = 3 := by omega
      · exact hc 0 (by omega)
      · exact hc 1 (by omega)
      · exact hc 2 (by omega)
      · exact hc 3 (by omega)
    · obtain ⟨i, hi, rfl⟩ := List.mem_map.1 ho
      obtain ⟨A, c, _, r⟩ := hf i (by have := List.mem_range.1 hi; omega)
      exact fun j hj => ⟨(r j hj).1, (r j hj).2.1⟩
end
end Go.Proofs.Ytcibkoodnfkogaa
