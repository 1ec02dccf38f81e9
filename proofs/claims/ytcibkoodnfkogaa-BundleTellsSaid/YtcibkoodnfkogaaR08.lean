/- The document's bundle of words: plain laws. -/
import Derived.Test.YtcibkoodnfkogaaBuP
import Derived.Test.YtcibkoodnfkogaaBu8
namespace Go.Proofs.Ytcibkoodnfkogaa
open Go.RowKit
set_option linter.unusedVariables false
set_option linter.unusedSimpArgs false
theorem wOk_zero (c : Int) : wOk c 0 = false := by
  rw [Bool.eq_false_iff]
  intro h
  unfold wOk at h
  rw [Bool.and_eq_true, Bool.and_eq_true] at h
  have := cls_pos h.2.1
  unfold wordO at this
  simp at this
theorem seg_bad {S : List Int} {c : Int} {i q : Nat} {x y : Int} (hx : S[i]? = some x) (hb : wOk c x = false) (hq : i ≤ q) (hy : S[q]? = some y) (h0 : y ≠ 0) : (trim S).all (wOk c) = false := by
  obtain ⟨n, hn⟩ := trim_split S
  have hqt : q < (trim S).length := by
    rcases Nat.lt_or_ge q (trim S).length with h | h
    · exact h
    · exfalso
      rw [hn, List.getElem?_append_right h, List.getElem?_replicate] at hy
      split at hy
      · injection hy with hy; exact h0 hy.symm
      · cases hy
  rw [Bool.eq_false_iff]
  intro ha
  have hm : x ∈ trim S := by
    rw [hn, List.getElem?_append_left (by omega)] at hx
    exact List.mem_of_getElem? hx
  have := List.all_eq_true.1 ha x hm
  rw [hb] at this
  cases this
/-- What the words of a class are, as far as they are read: operations' words, then none. -/
def Half (c : Int) (T P : List Int) (z : Nat) : Prop := T = P ++ List.replicate z 0 ∧ ∀ x ∈ P, x ≠ 0 ∧ wOk c x = true
theorem Half.nil (c : Int) : Half c [] [] 0 := ⟨rfl, fun x hx => by cases hx⟩
theorem Half.zero {c : Int} {T P : List Int} {z : Nat} (h : Half c T P z) : Half c (T ++ [0]) P (z + 1) := ⟨by rw [h.1, List.replicate_succ', List.append_assoc], h.2⟩
theorem Half.word {c : Int} {T P : List Int} {x : Int} (h : Half c T P 0) (h0 : x ≠ 0) (hx : wOk c x = true) : Half c (T ++ [x]) (P ++ [x]) 0 := by
  refine ⟨by rw [h.1]; simp, fun y hy => ?_⟩
  rcases List.mem_append.1 hy with hy | hy
  · exact h.2 y hy
  · rw [List.mem_singleton] at hy
    subst hy
    exact ⟨h0, hx⟩
theorem Half.trim {c : Int} {T P : List Int} {z : Nat} (h : Half c T P z) : trim T = P := by
  rw [h.1, trim_zeros, trim_nz _ fun x hx => (h.2 x hx).1]
theorem Half.all {c : Int} {T P : List Int} {z : Nat} (h : Half c T P z) : (Go.Proofs.Ytcibkoodnfkogaa.trim T).all (wOk c) = true := by
  rw [h.trim, List.all_eq_true]
  exact fun x hx => (h.2 x hx).2
theorem Half.len {c : Int} {T P : List Int} {z : Nat} (h : Half c T P z) : P.length ≤ T.length := by
  rw [h.1, List.length_append]; omega
theorem Part.frozen_old {g o n : Nat} {w w' : World} (h : Part g o n w w') {a : Addr} (hf : w.frozen? a = false) (ha : a.block < w.heap.size) (hg : a.block ≠ g) : w'.frozen? a = false :=
  (h.grow.frozen_far a ha (fun e => hg (Option.some.inj e))).trans hf
/-- What the document's bundle answers. -/
def BunP (t ws : List Int) (w : World) (e : Ending) (w' : World) : Prop :=
  ∃ v : Nat → Option Addr × Nat × Nat, e = .returned (.tuple #[.agg #[.slice (v 0).1 (v 0).2.1 (v 0).2.2, .slice (v 1).1 (v 1).2.1 (v 1).2.2, .slice (v 2).1 (v 2).2.1 (v 2).2.2, .slice (v 3).1 (v 3).2.1 (v 3).2.2], .bool (readB t ws)]) ∧ Below w.heap.size w w' ∧ (readB t ws = true → ∀ j, j < 4 → OwnO w' w.heap.size (.slice (v j).1 (v j).2.1 (v j).2.2) (readO t ws j))
end Go.Proofs.Ytcibkoodnfkogaa
