/- The contract of bundle.read. -/
import Derived.Test.YtcibkoodnfkogaaBu4
import Derived.Test.YtcibkoodnfkogaaBu5
import Derived.Deep.RegionLaw
import Derived.BigQuiet
import Derived.BigGuard
import Derived.Test.YtcibkoodnfkogaaOpen
namespace Go.Proofs.Ytcibkoodnfkogaa
open Go.RowKit
set_option linter.unusedVariables false
set_option linter.unusedSimpArgs false
/-- These words lie from address A on. -/
def WordsIn (w : World) (A : Option Addr) (l : List Int) : Prop :=
  l ≠ [] → ∃ g off, A = some ⟨g, off, none⟩ ∧ ∀ i x, l[i]? = some x → w.cell? ⟨g, off + i, none⟩ = some (.int .u64 x)
theorem WordsIn.keep {w w' : World} {A : Option Addr} {l : List Int} (h : WordsIn w A l) (hb : Below w.heap.size w w') : WordsIn w' A l := fun hl => by
  obtain ⟨g, off, ha, hx⟩ := h hl
  exact ⟨g, off, ha, fun i x hi => cell_keep (hx i x hi) hb⟩
/-- Without the zeros at its end. -/
def trim (l : List Int) : List Int := (l.reverse.dropWhile (· == 0)).reverse
theorem trim_snoc0 (l : List Int) : trim (l ++ [0]) = trim l := by simp [trim]
theorem trim_snoc (l : List Int) (x : Int) (h : x ≠ 0) : trim (l ++ [x]) = l ++ [x] := by
  have : (x == 0) = false := by simpa using h
  simp [trim, this]
def wOk (c : Int) (x : Int) : Bool := wordB x && (clsB (wordO x).k && (clsN (wordO x).k == c))
def seg (t : List Int) (ws : List Int) (c : Nat) : List Int := (ws.drop (sumU t c).toNat).take (t[c]?.getD 0).toNat
def segB (t : List Int) (ws : List Int) (c : Nat) : Bool := (trim (seg t ws c)).all (wOk c)
/-- Are the words those of a bundle? -/
def readB (t : List Int) (ws : List Int) : Bool := segB t ws 0 && segB t ws 1 && segB t ws 2 && segB t ws 3
def readO (t : List Int) (ws : List Int) (c : Nat) : List Op := (trim (seg t ws c)).map wordO
/-- Of block g the cells from place o on, n of them, may be turned, and new blocks are there: all else is as it was. -/
structure Part (g o n : Nat) (w w' : World) : Prop where
  grow : w.grownBy w' (some g)
  cell : ∀ off, off < o ∨ o + n ≤ off → w'.cell? ⟨g, off, none⟩ = w.cell? ⟨g, off, none⟩
  frozen : ∀ off, w'.frozen? ⟨g, off, none⟩ = w.frozen? ⟨g, off, none⟩
theorem Part.refl (g o n : Nat) (w : World) : Part g o n w w := ⟨⟨rfl, rfl, rfl, Nat.le_refl _, fun _ _ _ => rfl⟩, fun _ _ => rfl, fun _ => rfl⟩
theorem Part.trans {g o n : Nat} {w w' w2 : World} (h : Part g o n w w') (k : Part g o n w' w2) : Part g o n w w2 :=
  ⟨h.grow.trans k.grow, fun off ho => (k.cell off ho).trans (h.cell off ho), fun off => (k.frozen off).trans (h.frozen off)⟩
theorem Part.weak {g o n p m : Nat} {w w' : World} (h : Part g p m w w') (h1 : o ≤ p) (h2 : p + m ≤ o + n) : Part g o n w w' :=
  ⟨h.grow, fun off ho => h.cell off (by omega), h.frozen⟩
theorem Part.of_below {g o n : Nat} {w w' : World} (hb : Below w.heap.size w w') (hg : g < w.heap.size) : Part g o n w w' :=
  ⟨⟨hb.os, hb.tape, hb.output, hb.size, fun k hk _ => hb.block k hk⟩, fun off _ => hb.cell (p := ⟨g, off, none⟩) hg, fun off => hb.frozen (p := ⟨g, off, none⟩) hg⟩
theorem Part.old {g o n : Nat} {w w' : World} (h : Part g o n w w') {a : Addr} {v : Value} (hc : w.cell? a = some v) (ha : a.block ≠ g) : w'.cell? a = some v :=
  h.grow.cell hc (fun e => ha (by injection e))
theorem Part.put {g p : Nat} {wo wz W6 w7 : World} {r : Option Nat} (h : Part g p 1 wo wz) (h6 : Below wz.heap.size wz W6) (hg : g < wo.heap.size) (hgr : W6.grownBy w7 r) (hr : ∀ k, r = some k → wo.heap.size ≤ k) (u : Value) : Part g p 1 wo (w7.setCell ⟨g, p, none⟩ u) := by
  have hz := h.grow.size
  have hz6 := h6.size
  have hgr' : some g ≠ r := fun e => by have := hr g e.symm; omega
  refine ⟨⟨hgr.os.trans (h6.os.trans h.grow.os), hgr.tape.trans (h6.tape.trans h.grow.tape), hgr.output.trans (h6.output.trans h.grow.output), ?_, fun k hk hne => ?_⟩, fun off ho => ?_, fun off => ?_⟩
  · rw [World.size_setCell]
    have := hgr.size
    omega
  · rw [Below.heap_setCell _ _ _ _ (by show k ≠ g; intro e; exact hne (by rw [e])), hgr.block k (by omega) (fun e => by have := hr k e.symm; omega), h6.block k (by omega)]
    exact h.grow.block k hk hne
  · rw [World.cell?_setCell_other _ _ _ _ (by intro e; injection e with _ e _; omega), hgr.cell_far _ (by show g < _; omega) hgr', h6.cell (p := ⟨g, off, none⟩) (by show g < _; omega)]
    exact h.cell off ho
  · rw [World.frozen?_setCell, hgr.frozen_far _ (by show g < _; omega) hgr', h6.frozen (p := ⟨g, off, none⟩) (by show g < _; omega)]
    exact h.frozen off
/-- What lies in other old blocks stays. -/
theorem WordsIn.part {g o n : Nat} {w w' : World} {A : Option Addr} {l : List Int} (h : WordsIn w A l) (hf : Part g o n w w') (hg : ∀ a, A = some a → a.block ≠ g) : WordsIn w' A l := fun hl => by
  obtain ⟨k, off, rfl, hx⟩ := h hl
  have hk := hg _ rfl
  exact ⟨k, off, rfl, fun i x hi => hf.old (hx i x hi) hk⟩
theorem TabIn.part {g o n gt : Nat} {w w' : World} {t : List Int} (h : TabIn w gt t) (hf : Part g o n w w') (hg : gt ≠ g) : TabIn w' gt t := fun j hj => hf.old (h j hj) hg
/-- A list of operations in a row of the call's own. -/
def OwnO (w : World) (base : Nat) (v : Value) (l : List Op) : Prop := w.ownsRow base 55 5 v l.length (l.flatMap Op.cells)
theorem OwnO.part {g o n base : Nat} {w w' : World} {v : Value} {l : List Op} (h : OwnO w base v l) (hf : Part g o n w w') (hg : g < base) : OwnO w' base v l := by
  refine ⟨h.1, ?_⟩
  rcases h.2 with hn | ⟨k, cap, cur, hv, hbg, hk, rest⟩
  · exact .inl hn
  · refine .inr ⟨k, cap, cur, hv, hbg, ?_, rest⟩
    rw [hf.grow.block k (Array.getElem?_eq_some_iff.1 hk).1 (fun e => by injection e with e; omega)]
    exact hk
/-- A class of the bundle is read. -/
def Done (w : World) (base g p : Nat) (l : List Op) : Prop := ∃ v, w.cell? ⟨g, p, none⟩ = some v ∧ OwnO w base v l
theorem Done.part {g o n base p : Nat} {w w' : World} {l : List Op} (h : Done w base g p l) (hf : Part g o n w w') (hp : p < o ∨ o + n ≤ p) (hg : g < base) : Done w' base g p l := by
  obtain ⟨v, h1, h2⟩ := h
  exact ⟨v, (hf.cell p hp).trans h1, h2.part hf hg⟩
theorem sumU_mono {t : List Int} (h : tabOk t = true) (j : Nat) (hj : j < 4) : sumU t j + t[j]?.getD 0 ≤ sumU t 4 := by
  have h0 := units_bd h 0 (by omega)
  have h1 := units_bd h 1 (by omega)
  have h2 := units_bd h 2 (by omega)
  have h3 := units_bd h 3 (by omega)
  simp only [sumU]
  obtain rfl | rfl | rfl | rfl : j = 0 ∨ j = 1 ∨ j = 2 ∨ j = 3 := by omega
  all_goals simp only [sumU]; omega
theorem WordsIn.drop {w : World} {A : Option Addr} {l : List Int} (h : WordsIn w A l) (n : Nat) : WordsIn w (A.map (·.add n)) (l.drop n) := fun hne => by
  obtain ⟨g, off, rfl, hx⟩ := h (by rintro rfl; simp at hne)
  refine ⟨g, off + n, by simp [add_none], fun i x hi => ?_⟩
  rw [Nat.add_assoc]
  exact hx (n + i) x (by rw [← List.getElem?_drop]; exact hi)
theorem WordsIn.take {w : World} {A : Option Addr} {l : List Int} (h : WordsIn w A l) (n : Nat) : WordsIn w A (l.take n) := fun hne => by
  obtain ⟨g, off, rfl, hx⟩ := h (by rintro rfl; simp at hne)
  refine ⟨g, off, rfl, fun i x hi => hx i x ?_⟩
  rw [List.getElem?_take] at hi
  split at hi
  · exact hi
  · cases hi
theorem trim_end {l : List Int} {m : Nat} (h : trim l = trim (l.take m)) (hz : m = 0 ∨ ∃ k x, m = k + 1 ∧ l[k]? = some x ∧ x ≠ 0) : trim l = l.take m := by
  rw [h]
  rcases hz with rfl | ⟨k, x, rfl, hx, h0⟩
  · simp [trim]
  · rw [List.take_add_one, hx]
    exact trim_snoc _ _ h0
end Go.Proofs.Ytcibkoodnfkogaa
