/- More words: lists of operations in memory. -/
import Derived.Test.YtcibkoodnfkogaaChk
import Derived.Deep.LoopGhost
import Derived.Deep.Cut
import Derived.Deep.DeepCutAuto
namespace Go.Proofs.Ytcibkoodnfkogaa
open Go.RowKit
set_option linter.unusedVariables false
set_option linter.unusedSimpArgs false
/-- An operation's five cells lie at block g from place o on. -/
structure OpAt (w : World) (g o : Nat) (x : Op) : Prop where
  c0 : w.cell? ⟨g, o, none⟩ = some (.int .i8 x.k)
  c1 : w.cell? ⟨g, o + 1, none⟩ = some (.int .u8 x.d)
  c2 : w.cell? ⟨g, o + 2, none⟩ = some (.int .u8 x.a)
  c3 : w.cell? ⟨g, o + 3, none⟩ = some (.int .u8 x.b)
  c4 : w.cell? ⟨g, o + 4, none⟩ = some (.int .i64 x.n)
theorem OpAt.keep {w w' : World} {g o : Nat} {x : Op} (h : OpAt w g o x) (hb : Below w.heap.size w w') : OpAt w' g o x := by
  have hg : g < w.heap.size := World.block_lt_of_cell? w _ h.c0
  exact ⟨(hb.cell (p := ⟨g, o, none⟩) hg).trans h.c0, (hb.cell (p := ⟨g, o + 1, none⟩) hg).trans h.c1, (hb.cell (p := ⟨g, o + 2, none⟩) hg).trans h.c2, (hb.cell (p := ⟨g, o + 3, none⟩) hg).trans h.c3, (hb.cell (p := ⟨g, o + 4, none⟩) hg).trans h.c4⟩
/-- A list of operations lies from address A on. -/
def OpsIn (w : World) (A : Option Addr) (l : List Op) : Prop :=
  l ≠ [] → ∃ g off, A = some ⟨g, off, none⟩ ∧ ∀ i x, l[i]? = some x → OpAt w g (off + i * 5) x
theorem OpsIn.keep {w w' : World} {A : Option Addr} {l : List Op} (h : OpsIn w A l) (hb : Below w.heap.size w w') : OpsIn w' A l := fun hl => by
  obtain ⟨g, off, ha, hx⟩ := h hl
  exact ⟨g, off, ha, fun i x hi => (hx i x hi).keep hb⟩
theorem OpsIn.get {w : World} {A : Option Addr} {l : List Op} (h : OpsIn w A l) (i : Nat) (hi : i < l.length) :
    ∃ g off, A = some ⟨g, off, none⟩ ∧ OpAt w g (off + i * 5) l[i] := by
  obtain ⟨g, off, ha, hx⟩ := h (by rintro rfl; simp at hi)
  exact ⟨g, off, ha, hx i l[i] (List.getElem?_eq_getElem hi)⟩
theorem bset_lt {a w : World} (h : Below a.heap.size a w) {p : Addr} (hp : a.heap.size ≤ p.block) (u : Value) : Below a.heap.size a (w.setCell p u) := h.setCell hp u
theorem cell_keep {w w' : World} {a : Addr} {v : Value} (h : w.cell? a = some v) (hb : Below w.heap.size w w') : w'.cell? a = some v := by
  rw [hb.cell (World.block_lt_of_cell? w a h)]
  exact h
end Go.Proofs.Ytcibkoodnfkogaa
