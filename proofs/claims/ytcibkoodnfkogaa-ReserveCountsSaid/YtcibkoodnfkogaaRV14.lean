/- Asks in a row of the call's own. -/
import Derived.Test.YtcibkoodnfkogaaRV13
import Derived.Test.YtcibkoodnfkogaaPrg15
namespace Go.Proofs.Ytcibkoodnfkogaa
open Go.RowKit Go.Maps
set_option linter.unusedVariables false
set_option linter.unusedSimpArgs false
theorem aflat_len (l : List Ask) : (l.flatMap Ask.cells).length = l.length * 3 := by
  induction l with
  | nil => rfl
  | cons x l ih => rw [List.flatMap_cons, List.length_append, ih]; simp [Ask.cells]; omega
theorem aflat_get (l : List Ask) (i : Nat) (x : Ask) (h : l[i]? = some x) (j : Nat) (hj : j < 3) : (l.flatMap Ask.cells)[i * 3 + j]? = x.cells[j]? := by
  induction l generalizing i with
  | nil => simp at h
  | cons y l ih =>
    rw [List.flatMap_cons]
    cases i with
    | zero =>
      have hy : y = x := by simpa using h
      subst hy
      rw [List.getElem?_append_left (by simp [Ask.cells]; omega), Nat.zero_mul, Nat.zero_add]
    | succ i =>
      rw [List.getElem?_append_right (by simp [Ask.cells]; omega), show (i + 1) * 3 + j - y.cells.length = i * 3 + j by simp [Ask.cells]; omega]
      exact ih i (by simpa using h)
def OwnK (w : World) (base : Nat) (v : Value) (l : List Ask) : Prop := w.ownsRow base 34 3 v l.length (l.flatMap Ask.cells)
theorem OwnK.nil (w : World) (base : Nat) : OwnK w base (.slice none 0 0) [] := ⟨rfl, .inl ⟨rfl, rfl⟩⟩
theorem OwnK.snoc {w : World} {base g c : Nat} {l : List Ask} {x : Ask} (h : w.ownsRow base 34 3 (.slice (some ⟨g, 0, none⟩) (l.length + 1) c) (l.length + 1) (l.flatMap Ask.cells ++ x.cells)) : OwnK w base (.slice (some ⟨g, 0, none⟩) (l.length + 1) c) (l ++ [x]) := by
  unfold OwnK
  rw [List.length_append, List.flatMap_append]
  simpa using h
theorem ask_one (x : Ask) : ∀ u ∈ Ask.cells x, u.oneCell' = true := by
  intro u hu
  simp only [Ask.cells, List.mem_cons, List.not_mem_nil, or_false] at hu
  rcases hu with rfl | rfl | rfl <;> rfl
theorem own_grow {w w' : World} {base : Nat} {e : TypeId} {size : Nat} {v : Value} {n : Nat} {xs : List Value} (h : w.ownsRow base e size v n xs) {b : Nat} (hg : w.grownBy w' (some b)) (hb : b < base) : w'.ownsRow base e size v n xs := by
  refine ⟨h.1, ?_⟩
  rcases h.2 with hn | ⟨k, cap, cur, hv, hbg, hk, rest⟩
  · exact .inl hn
  · refine .inr ⟨k, cap, cur, hv, hbg, ?_, rest⟩
    rw [hg.block k (Array.getElem?_eq_some_iff.1 hk).1 (fun e => by injection e with e; omega)]
    exact hk
/-- The row as an argument is: address, length, room; the asks. -/
theorem OwnK.open {w : World} {base : Nat} {v : Value} {l : List Ask} (h : OwnK w base v l) : ∃ A cap, v = .slice A l.length cap ∧ l.length ≤ cap ∧ AsksIn w A l ∧ (∀ a, A = some a → base ≤ a.block) := by
  rcases h.2 with ⟨rfl, hn⟩ | ⟨g, cap, cur, rfl, hbg, hk, hc, hm, hcs, ht⟩
  · have : l = [] := List.eq_nil_of_length_eq_zero hn
    subst this
    exact ⟨none, 0, rfl, Nat.le_refl _, fun h => absurd rfl h, fun a h => by cases h⟩
  · refine ⟨_, cap, rfl, hc, fun _ => ⟨g, 0, rfl, fun i x hi => ?_⟩, fun a h => by cases h; exact hbg⟩
    have hil : i < l.length := (List.getElem?_eq_some_iff.1 hi).1
    have hcell : ∀ j u, j < 3 → x.cells[j]? = some u → w.cell? ⟨g, 0 + i * 3 + j, none⟩ = some u := fun j u hj hu => by
      rw [cell_of_row _ _ _ _ _ _ hk]
      have h1 := aflat_get l i x hi j hj
      rw [← ht, List.getElem?_take_of_lt (by omega), hu] at h1
      rw [Nat.zero_add, ← Array.getElem?_toList]
      exact h1
    exact ⟨hcell 0 _ (by omega) rfl, hcell 1 _ (by omega) rfl, hcell 2 _ (by omega) rfl⟩
end Go.Proofs.Ytcibkoodnfkogaa
