/- Lists of asks. -/
import Derived.Test.YtcibkoodnfkogaaRV8
import Derived.Test.YtcibkoodnfkogaaOpen2
namespace Go.Proofs.Ytcibkoodnfkogaa
open Go.RowKit Go.ChangeShapes Go.WideShapes Go.Deep
set_option linter.unusedVariables false
set_option linter.unusedSimpArgs false
structure Ask where
  c : Int
  k : Int
  t : Bool
namespace Ask
def cells (x : Ask) : List Value := [.int .i64 x.c, .int .i64 x.k, .bool x.t]
def wf (x : Ask) : Prop := okI x.c ∧ okI x.k
end Ask
structure AskAt (w : World) (g o : Nat) (x : Ask) : Prop where
  c0 : w.cell? ⟨g, o, none⟩ = some (.int .i64 x.c)
  c1 : w.cell? ⟨g, o + 1, none⟩ = some (.int .i64 x.k)
  c2 : w.cell? ⟨g, o + 2, none⟩ = some (.bool x.t)
def AsksIn (w : World) (A : Option Addr) (l : List Ask) : Prop := l ≠ [] → ∃ g off, A = some ⟨g, off, none⟩ ∧ ∀ i x, l[i]? = some x → AskAt w g (off + i * 3) x
theorem AsksIn.get {w : World} {A : Option Addr} {l : List Ask} (h : AsksIn w A l) (i : Nat) (hi : i < l.length) : ∃ g off, A = some ⟨g, off, none⟩ ∧ AskAt w g (off + i * 3) l[i] := by
  obtain ⟨g, off, ha, hx⟩ := h (by rintro rfl; simp at hi)
  exact ⟨g, off, ha, hx i l[i] (List.getElem?_eq_getElem hi)⟩
theorem AskAt.keep {w w' : World} {g o : Nat} {x : Ask} (h : AskAt w g o x) (hb : Below w.heap.size w w') : AskAt w' g o x := ⟨cell_keep h.c0 hb, cell_keep h.c1 hb, cell_keep h.c2 hb⟩
theorem AsksIn.keep {w w' : World} {A : Option Addr} {l : List Ask} (h : AsksIn w A l) (hb : Below w.heap.size w w') : AsksIn w' A l := fun hl => by
  obtain ⟨g, off, ha, hx⟩ := h hl
  exact ⟨g, off, ha, fun i x hi => (hx i x hi).keep hb⟩
section
variable {H : Type} {enc : TypeId × Value → H} {w : World}
theorem cells_ask : Try.prog.cellsOf 34 = 3 := by kernel_rfl
theorem cells_boolA : Try.prog.cellsOf 4 = 1 := by kernel_rfl
theorem threeA {α : Type} {l : List α} (h : l.length = 3) : ∃ a b c, l = [a, b, c] := by
  match l, h with
  | [a, b, c], _ => exact ⟨a, b, c, rfl⟩
theorem open_ask {fuel : Nat} {cs : List Value} {x : DataW H × List MemPlace} (h : DataW.trod enc Try.prog w 0 (fun _ => true) true fuel 34 cs = some x) : ∃ o : Ask, o.wf ∧ cs = o.cells := by
  obtain ⟨xs, n, _, _, hl, hlen, hf⟩ := DataW.trod_struct Try.underlying34 h
  rw [cells_ask] at hl
  obtain ⟨y0, y1, y2, rfl⟩ := threeA (show xs.length = 3 from hlen)
  obtain ⟨v0, v1, v2, rfl⟩ := threeA hl
  have f0 : DataW.trod enc Try.prog w 0 (fun _ => true) true n 3 (([v0, v1, v2].drop 0).take (Try.prog.cellsOf 3)) = some y0 := hf 0 _ rfl
  have f1 : DataW.trod enc Try.prog w 0 (fun _ => true) true n 3 (([v0, v1, v2].drop 1).take (Try.prog.cellsOf 3)) = some y1 := hf 1 _ rfl
  have f2 : DataW.trod enc Try.prog w 0 (fun _ => true) true n 4 (([v0, v1, v2].drop 2).take (Try.prog.cellsOf 4)) = some y2 := hf 2 _ rfl
  obtain ⟨k, e0, _, w0⟩ := DataW.trod_int Try.underlying3 f0
  obtain ⟨d, e1, _, w1⟩ := DataW.trod_int Try.underlying3 f1
  obtain ⟨a, e2, _⟩ := DataW.trod_bool Try.underlying4 f2
  simp only [cells_int, List.drop_zero, List.take_succ_cons, List.take_zero] at e0
  simp only [cells_int, List.drop_succ_cons, List.drop_zero, List.take_succ_cons, List.take_zero] at e1
  simp only [cells_boolA, List.drop_succ_cons, List.drop_zero, List.take_succ_cons, List.take_zero] at e2
  injection e0 with e0 _
  injection e1 with e1 _
  injection e2 with e2 _
  subst e0 e1 e2
  exact ⟨⟨k, d, a⟩, ⟨wf_okI w0, wf_okI w1⟩, rfl⟩
theorem open_asks {fuel : Nat} {cs : List Value} {x : DataW H × List MemPlace} (h : DataW.trod enc Try.prog w 0 (fun _ => true) true fuel 29 cs = some x) :
    ∃ (A : Option Addr) (cap : Nat) (l : List Ask), cs = [.slice A l.length cap] ∧ l.length ≤ cap ∧ cap ≤ maxLen ∧ AsksIn w A l ∧ (∀ o ∈ l, o.wf) ∧ (A = none → cap = 0) := by
  rcases open_slice Try.underlying29 h with ⟨rfl, _⟩ | ⟨a, len, cap, m, n, D, Pl, rfl, _, hl, hm, hmm, _, hel⟩
  · exact ⟨none, 0, [], rfl, Nat.le_refl _, Nat.zero_le _, fun h => absurd rfl h, (fun o ho => by cases ho), fun _ => rfl⟩
  · simp only [if_true] at hmm
    subst hmm
    rw [cells_ask] at hel
    have hop : ∀ i, i < m → ∃ o : Ask, o.wf ∧ w.cells? 0 (a.add (i * 3)) 3 = some o.cells := fun i hi => by
      obtain ⟨cs', h1, h2⟩ := hel i hi
      obtain ⟨o, ho, rfl⟩ := open_ask h2
      exact ⟨o, ho, h1⟩
    have : Inhabited Ask := ⟨⟨0, 0, false⟩⟩
    obtain ⟨f, hf⟩ := choose_lt hop
    refine ⟨some a, m, (List.range len).map f, by simp, by simpa using hl, by assumption, (fun hne => ?_), (fun o ho => ?_), (fun h => by cases h)⟩
    · have hlen : 0 < len := by
        cases len with
        | zero => simp at hne
        | succ n => omega
      have hsp : ∃ g off, a = ⟨g, off, none⟩ := spot_none ((World.cells?_some (hf 0 (by omega)).2).2.2 0 (by show 0 < 3; omega))
      obtain ⟨g, off, rfl⟩ := hsp
      refine ⟨g, off, rfl, fun i x hi => ?_⟩
      have hil : i < len := by have := (List.getElem?_eq_some_iff.1 hi).1; simpa using this
      have hx : f i = x := by simpa [hil] using hi
      subst hx
      have hc := (World.cells?_some (hf i (by omega)).2).2.2
      simp only [add_none] at hc
      exact ⟨hc 0 (by show 0 < 3; omega), hc 1 (by show 1 < 3; omega), hc 2 (by show 2 < 3; omega)⟩
    · obtain ⟨i, hi, rfl⟩ := List.mem_map.1 ho
      exact (hf i (by have := List.mem_range.1 hi; omega)).1
end
end Go.Proofs.Ytcibkoodnfkogaa
