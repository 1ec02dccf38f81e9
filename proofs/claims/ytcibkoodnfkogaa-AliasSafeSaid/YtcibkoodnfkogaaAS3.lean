/- The plain law: two operations that are said not to meet never touch the same cell. -/
import Derived.Test.YtcibkoodnfkogaaAS2
import Derived.Test.YtcibkoodnfkogaaAli3
namespace Go.Proofs.Ytcibkoodnfkogaa
open Go.RowKit
set_option linter.unusedVariables false
set_option linter.unusedSimpArgs false
def wrR (o : Op) (r : Int) : Bool := wrB o && (wrN o == r)
theorem shp_d {k : Int} (h : 1 ≤ k ∧ k ≤ 15) : (shp k).d = true := by
  obtain rfl | rfl | rfl | rfl | rfl | rfl | rfl | rfl | rfl | rfl | rfl | rfl | rfl | rfl | rfl : k = 1 ∨ k = 2 ∨ k = 3 ∨ k = 4 ∨ k = 5 ∨ k = 6 ∨ k = 7 ∨ k = 8 ∨ k = 9 ∨ k = 10 ∨ k = 11 ∨ k = 12 ∨ k = 13 ∨ k = 14 ∨ k = 15 := by omega
  all_goals decide
/-- What an operation does not write stays. -/
theorem doR_keep {o : Op} (hw : o.wf) (R M : List Int) (r : Int) (hr : 0 ≤ r) (h : wrR o r = false) : (doR o R M)[r.toNat]? = R[r.toNat]? := by
  cases hB : doB o R with
  | false => unfold doR; rw [if_pos hB]
  | true =>
    have hA : alB o = true := by unfold doB at hB; rw [Bool.and_eq_true] at hB; exact hB.1
    have hA2 := hA
    unfold alB at hA2
    rw [Bool.and_eq_true, decide_eq_true_eq] at hA2
    obtain ⟨hc, h1, h17⟩ := hA2
    by_cases h16 : o.k = 16 ∨ o.k = 17
    · have : doR o R M = R := by unfold doR; rw [hB, if_neg (by simp), if_neg (by omega), if_neg (by omega), if_pos h16]
      rw [this]
    · have hd := shp_d (k := o.k) (by omega)
      have hb : wrB o = true := by unfold wrB; rw [hd, hc]; rfl
      have hn : wrN o = o.d := by unfold wrN; rw [if_pos hb]
      unfold wrR at h
      rw [hb, hn, Bool.true_and] at h
      have hne : ¬ o.d = r := by intro e; rw [e] at h; simp at h
      have hd0 := hw.d0
      have hne2 : o.d.toNat ≠ r.toNat := by omega
      have hset : ∀ x, (R.set o.d.toNat x)[r.toNat]? = R[r.toNat]? := fun x => List.getElem?_set_ne hne2
      unfold doR
      rw [hB, if_neg (by simp)]
      by_cases hk1 : o.k = 1
      · rw [if_pos hk1]; exact hset _
      rw [if_neg hk1]
      by_cases hk15 : o.k = 15
      · rw [if_pos hk15]; exact hset _
      rw [if_neg hk15, if_neg h16]
      exact hset _
/-- One time through the list: the cells that were met, and the registers behind. -/
def RowOk (l : List Op) (R0 row R : List Int) : Prop :=
  row.length ≤ l.length ∧ ∃ S : Nat → List Int, S 0 = R0 ∧ S row.length = R ∧ ∀ i (hi : i < l.length), i < row.length → row[i]? = some (doC l[i] (S i)) ∧ ∀ r : Int, 0 ≤ r → wrR l[i] r = false → (S (i + 1))[r.toNat]? = (S i)[r.toNat]?
theorem RowOk.nil (l : List Op) (R : List Int) : RowOk l R [] R := ⟨Nat.zero_le _, fun _ => R, rfl, rfl, fun i _ hi => absurd hi (by simp)⟩
theorem RowOk.snoc {l : List Op} {R0 row R : List Int} (h : RowOk l R0 row R) (hi : row.length < l.length) (R' : List Int) (hR : ∀ r : Int, 0 ≤ r → wrR l[row.length] r = false → R'[r.toNat]? = R[r.toNat]?) : RowOk l R0 (row ++ [doC l[row.length] R]) R' := by
  obtain ⟨h1, S, s0, s1, h2⟩ := h
  refine ⟨by simp; omega, fun i => if i = row.length + 1 then R' else S i, ?_, ?_, fun i hi2 hi3 => ?_⟩
  · simp [s0]
  · simp
  · rw [List.length_append] at hi3
    simp at hi3
    by_cases h : i = row.length
    · subst h
      refine ⟨?_, fun r hr hw => ?_⟩
      · simp only [Nat.ne_of_lt (Nat.lt_succ_self row.length), if_false, s1]
        simp
      · simp only [if_true, Nat.ne_of_lt (Nat.lt_succ_self row.length), if_false, s1]
        exact hR r hr hw
    · have hi4 : i < row.length := by omega
      obtain ⟨a, b⟩ := h2 i hi2 hi4
      have n1 : ¬ i = row.length + 1 := by omega
      have n2 : ¬ i + 1 = row.length + 1 := by omega
      refine ⟨?_, fun r hr hw => ?_⟩
      · simp only [n1, if_false]
        rw [List.getElem?_append_left hi4]
        exact a
      · simp only [n1, n2, if_false]
        exact b r hr hw
theorem walkS {l : List Op} {S : Nat → List Int} {n : Nat} (h : ∀ i (hi : i < l.length), i < n → ∀ r : Int, 0 ≤ r → wrR l[i] r = false → (S (i + 1))[r.toNat]? = (S i)[r.toNat]?) (hn : n ≤ l.length) (r : Int) (hr : 0 ≤ r) (i : Nat) :
    ∀ d, i + d ≤ n → (∀ m (hm : m < l.length), i ≤ m → m < i + d → wrR l[m] r = false) → (S (i + d))[r.toNat]? = (S i)[r.toNat]?
  | 0, _, _ => rfl
  | d + 1, hd, hw => by
    rw [← Nat.add_assoc, h (i + d) (by omega) (by omega) r hr (hw (i + d) (by omega) (by omega) (by omega))]
    exact walkS h hn r hr i d (by omega) (fun m hm h1 h2 => hw m hm h1 (by omega))
/-- The times through the list. -/
def RowsOk (l : List Op) (R00 : List Int) (rows : List (List Int)) (R : List Int) : Prop :=
  (∀ r : Int, 0 ≤ r → (∀ o ∈ l, wrR o r = false) → R[r.toNat]? = R00[r.toNat]?) ∧
  ∀ (k : Nat) (row : List Int), rows[k]? = some row → ∃ R0 R1, RowOk l R0 row R1 ∧ ∀ r : Int, 0 ≤ r → (∀ o ∈ l, wrR o r = false) → R0[r.toNat]? = R00[r.toNat]?
theorem RowsOk.nil (l : List Op) (R : List Int) : RowsOk l R [] R := ⟨fun _ _ _ => rfl, fun k row h => by simp at h⟩
theorem RowOk.stay {l : List Op} {R0 row R : List Int} (h : RowOk l R0 row R) (r : Int) (hr : 0 ≤ r) (hw : ∀ o ∈ l, wrR o r = false) : R[r.toNat]? = R0[r.toNat]? := by
  obtain ⟨h1, S, rfl, rfl, h2⟩ := h
  have := walkS (S := S) (n := row.length) (fun i hi hi2 => (h2 i hi hi2).2) h1 r hr 0 row.length (by omega) (fun m hm _ _ => hw _ (List.getElem_mem hm))
  rw [Nat.zero_add] at this
  exact this
theorem RowsOk.snoc {l : List Op} {R00 R R' row : List Int} {rows : List (List Int)} (h : RowsOk l R00 rows R) (hr : RowOk l R row R') : RowsOk l R00 (rows ++ [row]) R' := by
  refine ⟨fun r h0 hw => (hr.stay r h0 hw).trans (h.1 r h0 hw), fun k c hk => ?_⟩
  by_cases hlt : k < rows.length
  · rw [List.getElem?_append_left hlt] at hk
    exact h.2 k c hk
  · have h2 := (List.getElem?_eq_some_iff.1 hk).1
    simp at h2
    obtain rfl : k = rows.length := by omega
    rw [List.getElem?_append_right (Nat.le_refl _), Nat.sub_self] at hk
    simp at hk
    subst hk
    exact ⟨R, R', hr, h.1⟩
theorem doC_some {o : Op} {R : List Int} (h : 0 ≤ doC o R) : memB o = true ∧ doC o R = celN o R := by
  unfold doC at h ⊢
  by_cases hc : alB o = true ∧ (o.k = 15 ∨ o.k = 16)
  · rw [if_pos hc]
    refine ⟨?_, rfl⟩
    obtain ⟨h1, h2⟩ := hc
    unfold alB at h1
    rw [Bool.and_eq_true] at h1
    unfold memB
    rw [h1.1]
    rcases h2 with e | e <;> rw [e] <;> rfl
  · rw [if_neg hc] at h
    omega
/-- The same cell: they may meet, if the base was not turned between. -/
theorem cell_safe {a b : Op} {Ra Rb : List Int} {st : List Op} {c : Int} (ha : doC a Ra = c) (hb : doC b Rb = c) (h0 : 0 ≤ c) (hl : ¬ (a.k = 15 ∧ b.k = 15)) (hs : written st a.a = false → Rb[a.a.toNat]? = Ra[a.a.toNat]?) : meetB a b st = true := by
  obtain ⟨m1, e1⟩ := doC_some (o := a) (R := Ra) (by omega)
  obtain ⟨m2, e2⟩ := doC_some (o := b) (R := Rb) (by omega)
  have hl2 : (a.k == 15 && b.k == 15) = false := by
    rw [Bool.eq_false_iff]
    intro h
    rw [Bool.and_eq_true, beq_iff_eq, beq_iff_eq] at h
    exact hl h
  unfold meetB
  rw [m1, m2, hl2]
  simp only [Bool.true_and, Bool.not_false]
  by_cases haa : a.a = b.a
  · cases hw : written st a.a with
    | true => simp
    | false =>
      have hx := hs hw
      have : celN a Ra = celN b Rb := by omega
      unfold celN at this
      rw [← haa, hx] at this
      generalize Ra[a.a.toNat]?.getD 0 = x at this
      have he : a.n % 256 = b.n % 256 := by omega
      simp [he]
  · simp [haa]
theorem written_wr {st : List Op} {r : Int} (h : written st r = false) : ∀ o ∈ st, wrR o r = false := fun o ho => by
  unfold written at h
  rw [List.any_eq_false] at h
  have := h o ho
  unfold wrR
  simpa using this
/-- The theorem: of two entries. -/
theorem rows_safe {l : List Op} {R00 R : List Int} {rows : List (List Int)} (h : RowsOk l R00 rows R) (hwf : ∀ o ∈ l, o.wf) {k g i j : Nat} {rk rg : List Int} {c : Int} (hk : rows[k]? = some rk) (hg : rows[g]? = some rg) (hi : rk[i]? = some c) (hj : rg[j]? = some c) (h0 : 0 ≤ c)
    (hil : i < l.length) (hjl : j < l.length) (hl : ¬ (l[i].k = 15 ∧ l[j].k = 15)) : roundL l i j = true ∧ (k = g → i < j → meetL l i j = true) := by
  obtain ⟨R0, R1, hr1, hs1⟩ := h.2 k rk hk
  obtain ⟨P0, P1, hr2, hs2⟩ := h.2 g rg hg
  have hi2 := (List.getElem?_eq_some_iff.1 hi).1
  have hj2 := (List.getElem?_eq_some_iff.1 hj).1
  have ha0 : 0 ≤ l[i].a := (hwf _ (List.getElem_mem hil)).a0
  refine ⟨?_, ?_⟩
  · obtain ⟨h1, S, rfl, _, h2⟩ := hr1
    obtain ⟨h3, T, rfl, _, h4⟩ := hr2
    have ci := (h2 i hil hi2).1
    have cj := (h4 j hjl hj2).1
    rw [hi] at ci
    rw [hj] at cj
    injection ci with ci
    injection cj with cj
    unfold roundL
    rw [dif_pos ⟨by omega, by omega, by omega, by omega⟩]
    simp only [Int.toNat_natCast]
    refine cell_safe ci.symm cj.symm h0 hl (fun hw => ?_)
    have hw2 := written_wr hw
    have e1 := walkS (S := S) (n := rk.length) (fun i hi hi2 => (h2 i hi hi2).2) h1 l[i].a ha0 0 i (by omega) (fun m hm _ _ => hw2 _ (List.getElem_mem hm))
    have e2 := walkS (S := T) (n := rg.length) (fun i hi hi2 => (h4 i hi hi2).2) h3 l[i].a ha0 0 j (by omega) (fun m hm _ _ => hw2 _ (List.getElem_mem hm))
    rw [Nat.zero_add] at e1 e2
    rw [e1, e2, hs1 _ ha0 hw2, hs2 _ ha0 hw2]
  · intro hkg hij
    subst hkg
    rw [hk] at hg
    injection hg with hg
    subst hg
    obtain ⟨h1, S, rfl, _, h2⟩ := hr1
    have ci := (h2 i hil hi2).1
    have cj := (h2 j hjl hj2).1
    rw [hi] at ci
    rw [hj] at cj
    injection ci with ci
    injection cj with cj
    unfold meetL
    rw [dif_pos ⟨by omega, by omega, by omega⟩]
    simp only [Int.toNat_natCast]
    refine cell_safe ci.symm cj.symm h0 hl (fun hw => ?_)
    have hw2 := written_wr hw
    have e1 := walkS (S := S) (n := rk.length) (fun i hi hi2 => (h2 i hi hi2).2) h1 l[i].a ha0 i (j - i) (by omega) (fun m hm hm1 hm2 => hw2 _ (by
      unfold cut
      refine List.mem_iff_getElem?.2 ⟨m - i, ?_⟩
      rw [List.getElem?_drop, List.getElem?_take, if_pos (by omega), Nat.add_sub_cancel' hm1, List.getElem?_eq_getElem hm]))
    rw [show i + (j - i) = j by omega] at e1
    exact e1
end Go.Proofs.Ytcibkoodnfkogaa
