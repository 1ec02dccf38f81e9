/- Bundles in a row of the call's own. -/
import Derived.Test.YtcibkoodnfkogaaR09
import Derived.Test.YtcibkoodnfkogaaR05
namespace Go.Proofs.Ytcibkoodnfkogaa
open Go.RowKit
set_option linter.unusedVariables false
set_option linter.unusedSimpArgs false
/-- Four cells are a bundle's, with lists of their own in memory from block B on, none of them at r. -/
def RowB (w : World) (B : Nat) (r : Option Nat) (b : Nat → List Op) (cs : List Value) : Prop :=
  ∃ x : Nat → Option Addr × Nat, cs = [.slice (x 0).1 (b 0).length (x 0).2, .slice (x 1).1 (b 1).length (x 1).2, .slice (x 2).1 (b 2).length (x 2).2, .slice (x 3).1 (b 3).length (x 3).2] ∧
    ∀ j, j < 4 → (b j).length ≤ (x j).2 ∧ ((x j).1 = none → (x j).2 = 0 ∧ b j = []) ∧ ∀ a, (x j).1 = some a → ∃ g, a = ⟨g, 0, none⟩ ∧ OpsIn w (some ⟨g, 0, none⟩) (b j) ∧ B ≤ g ∧ g < w.heap.size ∧ some g ≠ r
theorem RowB.far {w w' : World} {B : Nat} {r r' : Option Nat} {b : Nat → List Op} {cs : List Value} (h : RowB w B r b cs) (hs : w.heap.size ≤ w'.heap.size)
    (hk : ∀ g off, B ≤ g → g < w.heap.size → some g ≠ r → w'.cell? ⟨g, off, none⟩ = w.cell? ⟨g, off, none⟩) (hr : ∀ g, g < w.heap.size → some g ≠ r → some g ≠ r') : RowB w' B r' b cs := by
  obtain ⟨x, e, hx⟩ := h
  refine ⟨x, e, fun j hj => ?_⟩
  obtain ⟨h1, h2, h3⟩ := hx j hj
  refine ⟨h1, h2, fun a ha => ?_⟩
  obtain ⟨g, e, o, b1, s1, r1⟩ := h3 a ha
  exact ⟨g, e, o.far fun off => hk g off b1 s1 r1, b1, by omega, hr g s1 r1⟩
theorem RowB.len {w : World} {B : Nat} {r : Option Nat} {b : Nat → List Op} {cs : List Value} (h : RowB w B r b cs) : cs.length = 4 := by
  obtain ⟨x, rfl, _⟩ := h
  rfl
/-- The cells xs are the bundles l, four cells each. -/
def Rows4 (w : World) (B : Nat) (r : Option Nat) (l : List (Nat → List Op)) (xs : List Value) : Prop := ∀ j b, l[j]? = some b → RowB w B r b ((xs.drop (j * 4)).take 4)
theorem Rows4.far {w w' : World} {B : Nat} {r r' : Option Nat} {l : List (Nat → List Op)} {xs : List Value} (h : Rows4 w B r l xs) (hs : w.heap.size ≤ w'.heap.size)
    (hk : ∀ g off, B ≤ g → g < w.heap.size → some g ≠ r → w'.cell? ⟨g, off, none⟩ = w.cell? ⟨g, off, none⟩) (hr : ∀ g, g < w.heap.size → some g ≠ r → some g ≠ r') : Rows4 w' B r' l xs := fun j b hj => (h j b hj).far hs hk hr
theorem Rows4.snoc {w : World} {B : Nat} {r : Option Nat} {l : List (Nat → List Op)} {xs cs : List Value} {b : Nat → List Op} (h : Rows4 w B r l xs) (hl : xs.length = l.length * 4) (hc : RowB w B r b cs) : Rows4 w B r (l ++ [b]) (xs ++ cs) := fun j c hj => by
  have h4 := hc.len
  by_cases h1 : j < l.length
  · rw [List.getElem?_append_left h1] at hj
    have := h j c hj
    rw [List.drop_append_of_le_length (by omega), List.take_append_of_le_length (by simp; omega)]
    exact this
  · have hj2 := (List.getElem?_eq_some_iff.1 hj).1
    simp at hj2
    obtain rfl : j = l.length := by omega
    rw [List.getElem?_append_right (Nat.le_refl _), Nat.sub_self] at hj
    simp at hj
    subst hj
    rw [List.drop_append, List.drop_of_length_le (by omega), hl, Nat.sub_self, List.drop_zero, List.nil_append, List.take_of_length_le (by omega)]
    exact hc
theorem rows4_in {w : World} {B base e n cap g : Nat} {r : Option Nat} {l : List (Nat → List Op)} {xs : List Value} (h : w.ownsRow base e 4 (.slice (some ⟨g, 0, none⟩) n cap) n xs) (hn : n = l.length) (hr : Rows4 w B r l xs) : BunsIn w (some ⟨g, 0, none⟩) l := fun _ => by
  subst hn
  refine ⟨_, 0, rfl, fun i b hb => ?_⟩
  have hi : i < l.length := (List.getElem?_eq_some_iff.1 hb).1
  obtain ⟨x, e, hx⟩ := hr i b hb
  have hc : ∀ j, j < 4 → w.cell? ⟨g, 0 + i * 4 + j, none⟩ = ((xs.drop (i * 4)).take 4)[j]? := fun j hj => by
    rw [Nat.zero_add, h.cellAt _ (by omega), List.getElem?_take, if_pos hj, List.getElem?_drop]
  rw [e] at hc
  refine ⟨fun j => (x j).1, fun j => (x j).2, fun j hj => ⟨?_, ?_, (hx j hj).1, fun hn => ((hx j hj).2.1 hn).1⟩⟩
  · rw [hc j hj]
    obtain rfl | rfl | rfl | rfl : j = 0 ∨ j = 1 ∨ j = 2 ∨ j = 3 := by omega
    all_goals rfl
  · show OpsIn w (x j).1 (b j)
    rcases hxj : (x j).1 with _ | a
    · rw [((hx j hj).2.1 hxj).2]
      exact fun h => absurd rfl h
    · obtain ⟨g2, rfl, o, _⟩ := (hx j hj).2.2 a hxj
      exact o
theorem RowB.own {w : World} {B base : Nat} {b : Nat → List Op} {v : Nat → Value} (h : ∀ j, j < 4 → OwnO w base (v j) (b j)) (hB : B ≤ base) {r : Option Nat} (hr : ∀ k, r = some k → k < base) : RowB w B r b [v 0, v 1, v 2, v 3] := by
  have hx : ∀ j, j < 4 → ∃ x : Option Addr × Nat, v j = .slice x.1 (b j).length x.2 ∧ (b j).length ≤ x.2 ∧ (x.1 = none → x.2 = 0 ∧ b j = []) ∧ ∀ a, x.1 = some a → ∃ g, a = ⟨g, 0, none⟩ ∧ OpsIn w (some ⟨g, 0, none⟩) (b j) ∧ B ≤ g ∧ g < w.heap.size ∧ some g ≠ r := fun j hj => by
    have ho := h j hj
    rcases ho.2 with ⟨he, h0⟩ | ⟨k, cap, cur, he, hbg, hk, hnc, rest⟩
    · have : b j = [] := List.eq_nil_of_length_eq_zero h0
      refine ⟨(none, 0), by rw [he, this]; rfl, by rw [this]; exact Nat.zero_le _, fun _ => ⟨rfl, this⟩, fun a ha => by cases ha⟩
    · refine ⟨(some ⟨k, 0, none⟩, cap), he, hnc, (fun h => by cases h), fun a ha => ?_⟩
      injection ha with ha
      subst ha
      rw [he] at ho
      refine ⟨k, rfl, own_ops ho rfl, by omega, (Array.getElem?_eq_some_iff.1 hk).1, fun e => ?_⟩
      have := hr k e.symm
      omega
  obtain ⟨x, hx⟩ := Go.Deep.choose_lt hx
  refine ⟨x, ?_, fun j hj => (hx j hj).2⟩
  rw [(hx 0 (by omega)).1, (hx 1 (by omega)).1, (hx 2 (by omega)).1, (hx 3 (by omega)).1]
/-- What the document's Decode answers. -/
def RDecP (t ws : List Int) (w : World) (e : Ending) (w' : World) : Prop :=
  ∃ (A : Option Addr) (n c : Nat), e = .returned (.tuple #[.slice A n c, .int .i64 (decE t ws)]) ∧ Below w.heap.size w w' ∧ (decE t ws ≠ 0 → n = 0) ∧ (decE t ws = 0 → n = (decL t ws).length ∧ BunsIn w' A (decL t ws))
theorem bun_info2 : ∃ i z, Try.prog.info? 91 = some i ∧ i.zero = some z ∧ i.size = 4 ∧ i.bytes = 96 ∧ z.cells.size = 4 := by
  obtain ⟨i, h1, h2, h3, h4⟩ := bun_info
  exact ⟨i, _, h1, h2, h3, h4, rfl⟩
end Go.Proofs.Ytcibkoodnfkogaa
