/- Lists of operations as one row of cells; a block's row. (In ../a these lie in Like and Prg15.) -/
import Derived.Test.YtpiagggnjppkhaaBase2
import Derived.Test.YtpiagggnjppkhaaGen
import Derived.Test.YtpiagggnjppkhaaPrg3
import Derived.Deep.AppendLies
namespace Go.Proofs.Ytpiagggnjppkhaa
open Go.RowKit
set_option linter.unusedVariables false
set_option linter.unusedSimpArgs false
theorem flat_len (l : List Op) : (l.flatMap Op.cells).length = l.length * 5 := by
  induction l with
  | nil => rfl
  | cons x l ih => rw [List.flatMap_cons, List.length_append, ih]; simp [Op.cells]; omega
theorem flat_get (l : List Op) (i : Nat) (x : Op) (h : l[i]? = some x) (j : Nat) (hj : j < 5) : (l.flatMap Op.cells)[i * 5 + j]? = x.cells[j]? := by
  induction l generalizing i with
  | nil => simp at h
  | cons y l ih =>
    rw [List.flatMap_cons]
    cases i with
    | zero =>
      have hy : y = x := by simpa using h
      subst hy
      rw [List.getElem?_append_left (by simp [Op.cells]; omega), Nat.zero_mul, Nat.zero_add]
    | succ i =>
      rw [List.getElem?_append_right (by simp [Op.cells]; omega), show (i + 1) * 5 + j - y.cells.length = i * 5 + j by simp [Op.cells]; omega]
      exact ih i (by simpa using h)
theorem flat_of (l : List Op) (m : Nat) (u : Value) (h : (l.flatMap Op.cells)[m]? = some u) : ∃ i j x, m = i * 5 + j ∧ j < 5 ∧ l[i]? = some x ∧ x.cells[j]? = some u := by
  have hm : m < l.length * 5 := by rw [← flat_len]; exact (List.getElem?_eq_some_iff.1 h).1
  have hi : m / 5 < l.length := by omega
  have hx : l[m / 5]? = some l[m / 5] := List.getElem?_eq_getElem hi
  refine ⟨m / 5, m % 5, l[m / 5], by omega, by omega, hx, ?_⟩
  rw [← flat_get l (m / 5) _ hx (m % 5) (by omega), show m / 5 * 5 + m % 5 = m by omega]
  exact h
theorem flat_one (l : List Op) : ∀ u ∈ l.flatMap Op.cells, u.oneCell' = true := by
  intro u hu
  obtain ⟨x, _, hx⟩ := List.mem_flatMap.1 hu
  simp only [Op.cells, List.mem_cons, List.not_mem_nil, or_false] at hx
  rcases hx with rfl | rfl | rfl | rfl | rfl <;> rfl
theorem OpsIn.flat {w : World} {g off : Nat} {l : List Op} (h : OpsIn w (some ⟨g, off, none⟩) l) : ∀ j u, (l.flatMap Op.cells)[j]? = some u → w.cell? ((⟨g, off, none⟩ : Addr).add j) = some u := by
  intro m u hm
  obtain ⟨i, j, x, rfl, hj, hx, hu⟩ := flat_of l m u hm
  obtain ⟨g', off', he, hc⟩ := h (by rintro rfl; simp at hx)
  injection he with he
  injection he with h1 h2
  subst h1 h2
  obtain ⟨c0, c1, c2, c3, c4⟩ := hc i x hx
  have ha : (⟨g, off, none⟩ : Addr).add (i * 5 + j) = ⟨g, off + i * 5 + j, none⟩ := by
    unfold Addr.add
    split
    · next h0 => rw [show off + i * 5 + j = off by omega]
    · rw [Nat.add_assoc]
  rw [ha]
  obtain rfl | rfl | rfl | rfl | rfl : j = 0 ∨ j = 1 ∨ j = 2 ∨ j = 3 ∨ j = 4 := by omega
  all_goals
    simp only [Op.cells, List.getElem?_cons_zero, List.getElem?_cons_succ] at hu
    injection hu with hu
    subst hu
    assumption
theorem own_ops {w : World} {base e g n cap : Nat} {l : List Op} (h : w.ownsRow base e 5 (.slice (some ⟨g, 0, none⟩) n cap) n (l.flatMap Op.cells)) (hn : n = l.length) : OpsIn w (some ⟨g, 0, none⟩) l := fun _ => by
  subst hn
  refine ⟨_, _, rfl, fun i x hx => ?_⟩
  have hi : i < l.length := (List.getElem?_eq_some_iff.1 hx).1
  have hc : ∀ j, j < 5 → w.cell? ⟨g, 0 + i * 5 + j, none⟩ = x.cells[j]? := fun j hj => by
    rw [Nat.zero_add, h.cellAt _ (by omega)]
    exact flat_get l i x hx j hj
  exact ⟨hc 0 (by omega), hc 1 (by omega), hc 2 (by omega), hc 3 (by omega), hc 4 (by omega)⟩
theorem op_info : ∃ i z, Try.prog.info? 53 = some i ∧ i.zero = some z ∧ i.size = 5 ∧ i.bytes = 16 ∧ z.cells.size = 5 := by
  have h : (Try.prog.info? 53).map (fun i => (i.zero.map (·.cells.size), i.size, i.bytes)) = some (some 5, 5, 16) := by kernel_rfl
  cases hi : Try.prog.info? 53 with
  | none => rw [hi] at h; cases h
  | some i =>
    rw [hi] at h
    cases hz : i.zero with
    | none => simp [hz] at h
    | some z =>
      simp [hz] at h
      exact ⟨i, z, rfl, hz, h.2.1, h.2.2, h.1⟩
/-- Six cells are a block's, with lists of their own in memory from block B on, none of them at r. -/
def RowOf (w : World) (B : Nat) (r : Option Nat) (b : Blk) (cs : List Value) : Prop :=
  ∃ (g c g2 c2 : Nat), cs = [.slice (some ⟨g, 0, none⟩) b.ops.length c, .int .i8 b.en, .int .u8 b.a, .slice (some ⟨g2, 0, none⟩) b.body.length c2, .int .i64 b.th, .int .i64 b.el] ∧
    OpsIn w (some ⟨g, 0, none⟩) b.ops ∧ OpsIn w (some ⟨g2, 0, none⟩) b.body ∧ b.ops.length ≤ c ∧ b.body.length ≤ c2 ∧ B ≤ g ∧ B ≤ g2 ∧ g < w.heap.size ∧ g2 < w.heap.size ∧ some g ≠ r ∧ some g2 ≠ r
theorem RowOf.far {w w' : World} {B : Nat} {r r' : Option Nat} {b : Blk} {cs : List Value} (h : RowOf w B r b cs) (hs : w.heap.size ≤ w'.heap.size)
    (hk : ∀ g off, B ≤ g → g < w.heap.size → some g ≠ r → w'.cell? ⟨g, off, none⟩ = w.cell? ⟨g, off, none⟩) (hr : ∀ g, g < w.heap.size → some g ≠ r → some g ≠ r') : RowOf w' B r' b cs := by
  obtain ⟨g, c, g2, c2, e, o1, o2, l1, l2, b1, b2, s1, s2, r1, r2⟩ := h
  exact ⟨g, c, g2, c2, e, o1.far fun off => hk g off b1 s1 r1, o2.far fun off => hk g2 off b2 s2 r2, l1, l2, b1, b2, by omega, by omega, hr g s1 r1, hr g2 s2 r2⟩
theorem RowOf.below {w w' : World} {B : Nat} {r : Option Nat} {b : Blk} {cs : List Value} (h : RowOf w B r b cs) (hb : Below w.heap.size w w') : RowOf w' B r b cs :=
  h.far hb.size (fun _ off _ hg _ => hb.cell (p := ⟨_, off, none⟩) hg) (fun _ _ h => h)
/-- The cells xs are the blocks l, six cells each. -/
def Rows6 (w : World) (B : Nat) (r : Option Nat) (l : List Blk) (xs : List Value) : Prop := ∀ j b, l[j]? = some b → RowOf w B r b ((xs.drop (j * 6)).take 6)
theorem Rows6.far {w w' : World} {B : Nat} {r r' : Option Nat} {l : List Blk} {xs : List Value} (h : Rows6 w B r l xs) (hs : w.heap.size ≤ w'.heap.size)
    (hk : ∀ g off, B ≤ g → g < w.heap.size → some g ≠ r → w'.cell? ⟨g, off, none⟩ = w.cell? ⟨g, off, none⟩) (hr : ∀ g, g < w.heap.size → some g ≠ r → some g ≠ r') : Rows6 w' B r' l xs := fun j b hj => (h j b hj).far hs hk hr
theorem Rows6.below {w w' : World} {B : Nat} {r : Option Nat} {l : List Blk} {xs : List Value} (h : Rows6 w B r l xs) (hb : Below w.heap.size w w') : Rows6 w' B r l xs := fun j b hj => (h j b hj).below hb
theorem Rows6.snoc {w : World} {B : Nat} {r : Option Nat} {l : List Blk} {xs cs : List Value} {i : Nat} (hi : i < l.length) (h : Rows6 w B r (l.take i) xs) (hl : xs.length = i * 6) (hc : RowOf w B r l[i] cs) : Rows6 w B r (l.take (i + 1)) (xs ++ cs) := fun j b hj => by
  have h6 : cs.length = 6 := by obtain ⟨g, c, g2, c2, rfl, _⟩ := hc; rfl
  have hj1 : j < i + 1 := by have := (List.getElem?_eq_some_iff.1 hj).1; simp at this; omega
  by_cases h1 : j < i
  · have := h j b (by rw [List.getElem?_take] at hj ⊢; simp only [hj1, if_true] at hj; simp only [h1, if_true]; exact hj)
    rw [List.drop_append_of_le_length (by omega), List.take_append_of_le_length (by simp; omega)]
    exact this
  · obtain rfl : j = i := by omega
    have hb : l[j] = b := by simpa [hi] using hj
    subst hb
    have h0 : xs.length - j * 6 = 0 := by omega
    rw [List.drop_append, List.drop_of_length_le (by omega), hl, Nat.sub_self, List.drop_zero, List.nil_append, List.take_of_length_le (by omega)]
    exact hc
theorem blk_info : ∃ i z, Try.prog.info? 50 = some i ∧ i.zero = some z ∧ i.size = 6 ∧ i.bytes = 72 ∧ z.cells.size = 6 := by
  have h : (Try.prog.info? 50).map (fun i => (i.zero.map (·.cells.size), i.size, i.bytes)) = some (some 6, 6, 72) := by kernel_rfl
  cases hi : Try.prog.info? 50 with
  | none => rw [hi] at h; cases h
  | some i =>
    rw [hi] at h
    cases hz : i.zero with
    | none => simp [hz] at h
    | some z =>
      simp [hz] at h
      exact ⟨i, z, rfl, hz, h.2.1, h.2.2, h.1⟩
end Go.Proofs.Ytpiagggnjppkhaa
