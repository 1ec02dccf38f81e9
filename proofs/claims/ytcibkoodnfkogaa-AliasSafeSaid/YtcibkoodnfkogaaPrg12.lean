/- What a program needs of a table. -/
import Derived.Test.YtcibkoodnfkogaaPrg5
import Derived.Test.YtcibkoodnfkogaaPrg11
import Derived.Deep.RegionHeld3
import Derived.Deep.DrawnRows
namespace Go.Proofs.Ytcibkoodnfkogaa
open Go.RowKit
set_option linter.unusedVariables false
set_option linter.unusedSimpArgs false
def lackL (l : List Blk) (t : List Int) : Bool := l.any fun b => usesB b.ops t || usesB b.body t
theorem lackL_yes {l : List Blk} {t : List Int} {i : Nat} (hi : i < l.length) (h : (usesB l[i].ops t || usesB l[i].body t) = true) : lackL l t = true :=
  List.any_eq_true.2 ⟨l[i], List.getElem_mem hi, h⟩
theorem lackL_no {l : List Blk} {t : List Int} (h : ∀ j (hj : j < l.length), (usesB l[j].ops t || usesB l[j].body t) = false) : lackL l t = false := by
  rw [Bool.eq_false_iff]
  intro ha
  obtain ⟨o, hm, ho⟩ := List.any_eq_true.1 ha
  obtain ⟨j, hj, rfl⟩ := List.getElem_of_mem hm
  rw [h j hj] at ho
  cases ho
/-- What is wrong with a program on a table (0: nothing). -/
def needE (l : List Blk) (t : List Int) : Int :=
  if prgE l ≠ 0 then prgE l else if tabE t ≠ 0 then tabE t else if t[(3 : Nat)]?.getD 0 = 0 then 21 else if lackL l t then 21 else 0
theorem thirteen {α : Type} {l : List α} (h : l.length = 13) : ∃ a0 a1 a2 a3 a4 a5 a6 a7 a8 a9 a10 a11 a12, l = [a0, a1, a2, a3, a4, a5, a6, a7, a8, a9, a10, a11, a12] := by
  match l, h with
  | [a0, a1, a2, a3, a4, a5, a6, a7, a8, a9, a10, a11, a12], _ => exact ⟨a0, a1, a2, a3, a4, a5, a6, a7, a8, a9, a10, a11, a12, rfl⟩
/-- The thirteen numbers as values. -/
abbrev tabX (a0 a1 a2 a3 a4 a5 a6 a7 a8 a9 a10 a11 a12 : Int) : Value := .agg #[.int .i64 a0, .int .i64 a1, .int .i64 a2, .int .i64 a3, .int .i64 a4, .int .i64 a5, .int .i64 a6, .int .i64 a7, .int .i64 a8, .int .i64 a9, .int .i64 a10, .int .i64 a11, .int .i64 a12]
theorem prgE_len {l : List Blk} (h : prgE l = 0) : l.length ≤ 128 ∧ l.length + sumB l ≤ 1024 ∧ l.length ≠ 0 := by
  unfold prgE at h
  split at h
  · omega
  · split at h
    · omega
    · omega
theorem tabV_X {t : List Int} (ht : t.length = 13) : tabV t = tabX (t[(0 : Nat)]?.getD 0) (t[(1 : Nat)]?.getD 0) (t[(2 : Nat)]?.getD 0) (t[(3 : Nat)]?.getD 0) (t[(4 : Nat)]?.getD 0) (t[(5 : Nat)]?.getD 0) (t[(6 : Nat)]?.getD 0) (t[(7 : Nat)]?.getD 0) (t[(8 : Nat)]?.getD 0) (t[(9 : Nat)]?.getD 0) (t[(10 : Nat)]?.getD 0) (t[(11 : Nat)]?.getD 0) (t[(12 : Nat)]?.getD 0) := by
  obtain ⟨a0, a1, a2, a3, a4, a5, a6, a7, a8, a9, a10, a11, a12, rfl⟩ := thirteen ht
  rfl
/-- A table's cells right behind its boxing. -/
theorem TabIn.box (a0 a1 a2 a3 a4 a5 a6 a7 a8 a9 a10 a11 a12 : Int) (w : World) (T : TypeId) : TabIn (w.alloc (.cells #[.int .i64 a0, .int .i64 a1, .int .i64 a2, .int .i64 a3, .int .i64 a4, .int .i64 a5, .int .i64 a6, .int .i64 a7, .int .i64 a8, .int .i64 a9, .int .i64 a10, .int .i64 a11, .int .i64 a12] T)) w.heap.size [a0, a1, a2, a3, a4, a5, a6, a7, a8, a9, a10, a11, a12] := fun j hj => by
  rw [cell_of_row _ _ _ _ _ _ (heap_alloc_new _ _)]
  obtain rfl | rfl | rfl | rfl | rfl | rfl | rfl | rfl | rfl | rfl | rfl | rfl | rfl : j = 0 ∨ j = 1 ∨ j = 2 ∨ j = 3 ∨ j = 4 ∨ j = 5 ∨ j = 6 ∨ j = 7 ∨ j = 8 ∨ j = 9 ∨ j = 10 ∨ j = 11 ∨ j = 12 := by omega
  all_goals rfl
theorem hsz (w : World) (o : Obj) : (w.alloc o).heap.size = w.heap.size + 1 := by simp
end Go.Proofs.Ytcibkoodnfkogaa
