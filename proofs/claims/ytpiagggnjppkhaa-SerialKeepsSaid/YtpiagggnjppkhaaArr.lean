/- Rows of numbers in a block of their own. -/
import Derived.Test.YtpiagggnjppkhaaBase2
import Derived.Test.YtpiagggnjppkhaaGen
import Derived.Deep.MidRow
namespace Go.Proofs.Ytpiagggnjppkhaa
open Go.RowKit
set_option linter.unusedVariables false
set_option linter.unusedSimpArgs false
/-- Block g holds the row l of numbers, and no more. -/
def IntsAt (w : World) (g : Nat) (T : TypeId) (l : List Int) : Prop := w.heap[g]? = some (.cells (l.map (Value.int .i64)).toArray T (0, 0))
theorem IntsAt.lt {w : World} {g : Nat} {T : TypeId} {l : List Int} (h : IntsAt w g T l) : g < w.heap.size := (Array.getElem?_eq_some_iff.1 h).1
theorem IntsAt.cell {w : World} {g : Nat} {T : TypeId} {l : List Int} (h : IntsAt w g T l) (i : Nat) (hi : i < l.length) : w.cell? ⟨g, i, none⟩ = some (.int .i64 l[i]) := by
  rw [cell_of_row w g i _ _ _ h]
  simp [hi]
theorem IntsAt.cell2 {w : World} {g : Nat} {T : TypeId} {l : List Int} (h : IntsAt w g T l) (i : Nat) (x : Int) (hi : l[i]? = some x) : w.cell? ⟨g, i, none⟩ = some (.int .i64 x) := by
  obtain ⟨hl, rfl⟩ := List.getElem?_eq_some_iff.1 hi
  exact h.cell i hl
theorem IntsAt.frozen {w : World} {g : Nat} {T : TypeId} {l : List Int} (h : IntsAt w g T l) (i : Nat) : w.frozen? ⟨g, i, none⟩ = false := frozen_of_row w g i _ T h
theorem IntsAt.set {w : World} {g : Nat} {T : TypeId} {l : List Int} (h : IntsAt w g T l) (i : Nat) (x : Int) : IntsAt (w.setCell ⟨g, i, none⟩ (.int .i64 x)) g T (l.set i x) := by
  unfold IntsAt
  rw [heap_setCell_same w g i _ T _ h]
  simp [List.map_set]
theorem IntsAt.other {w : World} {g : Nat} {T : TypeId} {l : List Int} (h : IntsAt w g T l) {a : Addr} (hne : g ≠ a.block) (v : Value) : IntsAt (w.setCell a v) g T l := by
  unfold IntsAt
  rw [heap_setCell_other w a g v hne]
  exact h
theorem IntsAt.keep {w w' : World} {g : Nat} {T : TypeId} {l : List Int} (h : IntsAt w g T l) (hb : Below w.heap.size w w') : IntsAt w' g T l := (hb.block g h.lt).trans h
theorem IntsAt.grow {w w' : World} {g : Nat} {T : TypeId} {l : List Int} {r : Option Nat} (h : IntsAt w g T l) (hb : w.grownBy w' r) (hne : some g ≠ r) : IntsAt w' g T l := (hb.block g h.lt hne).trans h
theorem IntsAt.range {w : World} {g : Nat} {T : TypeId} {l : List Int} (h : IntsAt w g T l) : w.rangeAt g 0 (l.map (Value.int .i64)) := fun j v hv => by
  rw [Nat.zero_add, cell_of_row w g j _ _ _ h]
  simpa using hv
theorem IntsAt.there {w : World} {g : Nat} {T : TypeId} {l : List Int} (h : IntsAt w g T l) : w.there g 0 l.length := fun j hj => by
  rw [Nat.zero_add, h.cell j hj]
  exact ⟨rfl, h.frozen j⟩
theorem IntsAt.new (w : World) (T : TypeId) (l : List Int) (cs : Array Value) (n : Nat) (hn : n = w.heap.size) (hc : cs = (l.map (Value.int .i64)).toArray) : IntsAt (w.alloc (.cells cs T)) n T l := by
  subst hc hn
  exact heap_alloc_new w _
theorem ints_ok (l : List Int) : ∀ v ∈ l.map (Value.int .i64), v.oneCell' = true := fun v hv => by
  obtain ⟨x, _, rfl⟩ := List.mem_map.1 hv
  rfl
theorem set_self {l : List Int} {o : Nat} {x : Int} (h : l[o]? = some x) : l.set o x = l := by
  apply List.ext_getElem?
  intro i
  by_cases hi : o = i
  · subst hi
    rw [List.getElem?_set_self (List.getElem?_eq_some_iff.1 h).1, h]
  · rw [List.getElem?_set_ne hi]
/-- What lies there is stored once more. -/
theorem IntsAt.again {g : Nat} {T : TypeId} {l : List Int} : ∀ (k : List Int) (o : Nat) (w : World), IntsAt w g T l → (∀ j x, k[j]? = some x → l[o + j]? = some x) → IntsAt (w.setCells g o (k.map (Value.int .i64))) g T l
  | [], o, w, h, _ => h
  | x :: k, o, w, h, hk => by
    refine IntsAt.again k (o + 1) (w.setCell ⟨g, o, none⟩ (.int .i64 x)) ?_ (fun j y hj => ?_)
    · have := h.set o x
      rw [set_self (o := o) (hk 0 x rfl)] at this
      exact this
    · rw [Nat.add_assoc, Nat.add_comm 1]
      exact hk (j + 1) y hj
theorem IntsAt.apart {g b : Nat} {T : TypeId} {l : List Int} (hne : g ≠ b) : ∀ (k : List Value) (o : Nat) (w : World), IntsAt w g T l → IntsAt (w.setCells b o k) g T l
  | [], o, w, h => h
  | x :: k, o, w, h => IntsAt.apart hne k (o + 1) (w.setCell ⟨b, o, none⟩ x) (h.other hne x)
theorem bsetCells {a : World} {b : Nat} (hb : a.heap.size ≤ b) : ∀ (k : List Value) (o : Nat) (w : World), Below a.heap.size a w → Below a.heap.size a (w.setCells b o k)
  | [], o, w, h => h
  | x :: k, o, w, h => bsetCells hb k (o + 1) (w.setCell ⟨b, o, none⟩ x) (h.setCell hb x)
abbrev numsV (l : List Int) : Value := .agg (l.map (Value.int .i64)).toArray
theorem results_rows2 {P : Program} {fn : Func} {p q r : Tmp} {ty ty2 : TypeId} (h : fn.results = #[.cell p ty, .cell q ty2, .tmp r]) (tmps : Array Value) (w : World) (g g2 : Nat) (T T2 : TypeId) (l l2 : List Int) (d d2 : TypeDesc)
    (hp : tmps.getD p undef = .pointer (some ⟨g, 0, none⟩)) (hq : tmps.getD q undef = .pointer (some ⟨g2, 0, none⟩)) (hg : IntsAt w g T l) (hg2 : IntsAt w g2 T2 l2)
    (hu : P.underlying ty = some d) (hd : (match d with | .struct _ | .array _ _ => true | _ => false) = true) (hi : (P.info? ty).map (·.size) = some l.length)
    (hu2 : P.underlying ty2 = some d2) (hd2 : (match d2 with | .struct _ | .array _ _ => true | _ => false) = true) (hi2 : (P.info? ty2).map (·.size) = some l2.length) :
    (results fn tmps).run P w = .ok (.tuple #[numsV l, numsV l2, tmps.getD r undef]) w := by
  have hp' : tmps[p]?.getD undef = .pointer (some ⟨g, 0, none⟩) := by simpa using hp
  have hq' : tmps[q]?.getD undef = .pointer (some ⟨g2, 0, none⟩) := by simpa using hq
  simp [results, h, hp', hq', asAddr, run_loadVar_row w g T ty _ (0, 0) d hg hu hd (by simpa using hi), run_loadVar_row w g2 T2 ty2 _ (0, 0) d2 hg2 hu2 hd2 (by simpa using hi2)]
/-- These numbers lie from address A on. -/
def NumsIn (w : World) (A : Option Addr) (l : List Int) : Prop :=
  l ≠ [] → ∃ g off, A = some ⟨g, off, none⟩ ∧ ∀ i x, l[i]? = some x → w.cell? ⟨g, off + i, none⟩ = some (.int .i64 x)
theorem NumsIn.keep {w w' : World} {A : Option Addr} {l : List Int} (h : NumsIn w A l) (hb : Below w.heap.size w w') : NumsIn w' A l := fun hl => by
  obtain ⟨g, off, ha, hx⟩ := h hl
  exact ⟨g, off, ha, fun i x hi => cell_keep (hx i x hi) hb⟩
/-- Numbers of 64 bits. -/
def I64s (l : List Int) : Prop := ∀ x ∈ l, -9223372036854775808 ≤ x ∧ x ≤ 9223372036854775807
theorem I64s.set {l : List Int} (h : I64s l) (i : Nat) {x : Int} (hx : -9223372036854775808 ≤ x ∧ x ≤ 9223372036854775807) : I64s (l.set i x) := fun y hy => by
  rcases List.mem_or_eq_of_mem_set hy with hy | rfl
  · exact h y hy
  · exact hx
theorem i64s_zero (n : Nat) : I64s (List.replicate n 0) := fun x hx => by
  rw [(List.mem_replicate.1 hx).2]
  decide
theorem NumsIn.get {w : World} {A : Option Addr} {l : List Int} (h : NumsIn w A l) (i : Nat) (hi : i < l.length) : ∃ g off, A = some ⟨g, off, none⟩ ∧ w.cell? ⟨g, off + i, none⟩ = some (.int .i64 l[i]) := by
  obtain ⟨g, off, ha, hx⟩ := h (by rintro rfl; simp at hi)
  exact ⟨g, off, ha, hx i l[i] (List.getElem?_eq_getElem hi)⟩
end Go.Proofs.Ytpiagggnjppkhaa
