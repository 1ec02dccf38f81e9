/- A unit more never hurts, units that no operation uses do not matter: the plain law. -/
import Derived.Test.YtcibkoodnfkogaaPrg17
import Derived.Test.YtcibkoodnfkogaaPrg16
namespace Go.Proofs.Ytcibkoodnfkogaa
open Go.RowKit
set_option linter.unusedVariables false
set_option linter.unusedSimpArgs false
/-- A table with another number of units of a class. -/
def setU (t : List Int) (c : Nat) (x : Int) : List Int := t.set c x
theorem setU_get {t : List Int} (ht : t.length = 13) (c : Nat) (hc : c < 4) (x : Int) (j : Nat) : (setU t c x)[j]?.getD 0 = if j = c then x else t[j]?.getD 0 := by
  unfold setU
  by_cases h : j = c
  · subst h
    rw [List.getElem?_set_self (by omega), if_pos rfl]
    rfl
  · rw [List.getElem?_set_ne (fun e => h e.symm), if_neg h]
/-- A program's operation: its class, told by the kinds, is its class. -/
theorem ucls_cls (k : Int) (h1 : 1 ≤ k) (h2 : k ≤ 17) : clsB k = true ∧ clsN k = ucls k := by
  have hk : ∃ m : Nat, m < 18 ∧ 1 ≤ m ∧ k = m := ⟨k.toNat, by omega, by omega, by omega⟩
  obtain ⟨m, hm, hm1, rfl⟩ := hk
  have hall : ∀ m : Nat, m < 18 → 1 ≤ m → clsB (m : Int) = true ∧ clsN (m : Int) = ucls (m : Int) := by decide +kernel
  exact hall m hm hm1
theorem opOk_kind {o : Op} (h : opOk o = true) : 1 ≤ o.k ∧ o.k ≤ 17 := by
  unfold opOk at h
  simp only [Bool.and_eq_true, decide_eq_true_eq] at h
  exact h.1
theorem lackB_ok {o : Op} (h : opOk o = true) (t : List Int) : lackB t o = (t[(ucls o.k).toNat]?.getD 0 == 0) := by
  obtain ⟨h1, h2⟩ := opOk_kind h
  obtain ⟨hb, hn⟩ := ucls_cls o.k h1 h2
  unfold lackB
  rw [hb, hn, Bool.true_and]
theorem ucls_lt (k : Int) : 0 ≤ ucls k ∧ ucls k ≤ 2 := by
  unfold ucls
  split
  · omega
  · split <;> omega
/-- Has a program an operation of a class? -/
def hasP (l : List Blk) (c : Int) : Bool := l.any fun b => hasC b.ops c || hasC b.body c
theorem firstE_zero2 {m : Int} {l : List Blk} (h : firstE m l = 0) : ∀ b ∈ l, allOk b.ops = true ∧ allOk b.body = true := by
  induction l with
  | nil => intro b hb; cases hb
  | cons x l ih =>
    unfold firstE at h
    by_cases hx : blkE x m = 0
    · rw [if_pos hx] at h
      intro b hb
      rcases List.mem_cons.1 hb with rfl | hb
      · unfold blkE at hx
        cases h1 : allOk b.ops <;> cases h2 : endB b m <;> cases h3 : allOk b.body <;> rw [h1, h2, h3] at hx <;> simp at hx ⊢
      · exact ih h b hb
    · rw [if_neg hx] at h
      exact absurd h hx
theorem prg_ok {l : List Blk} (h : prgE l = 0) : ∀ b ∈ l, allOk b.ops = true ∧ allOk b.body = true := by
  have hz := prgE_len h
  unfold prgE at h
  rw [if_neg (by omega), if_neg (by omega)] at h
  exact firstE_zero2 h
theorem uses_iff {l : List Op} (h : allOk l = true) (t : List Int) : usesB l t = l.any fun o => t[(ucls o.k).toNat]?.getD 0 == 0 := by
  unfold usesB
  rw [Bool.eq_iff_iff, List.any_eq_true, List.any_eq_true]
  unfold allOk at h
  rw [List.all_eq_true] at h
  constructor
  · rintro ⟨o, ho, hl⟩
    exact ⟨o, ho, by rw [← lackB_ok (h o ho)]; exact hl⟩
  · rintro ⟨o, ho, hl⟩
    exact ⟨o, ho, by rw [lackB_ok (h o ho)]; exact hl⟩
/-- The list lacks nothing: each of its classes has a unit. -/
theorem uses_no {l : List Op} (h : allOk l = true) (t : List Int) : usesB l t = false ↔ ∀ o ∈ l, t[(ucls o.k).toNat]?.getD 0 ≠ 0 := by
  rw [uses_iff h, List.any_eq_false]
  simp
def opsP (l : List Blk) : List Op := l.flatMap fun b => b.ops ++ b.body
theorem lack_no {l : List Blk} (h : ∀ b ∈ l, allOk b.ops = true ∧ allOk b.body = true) (t : List Int) : lackL l t = false ↔ ∀ o ∈ opsP l, t[(ucls o.k).toNat]?.getD 0 ≠ 0 := by
  unfold lackL opsP
  rw [List.any_eq_false]
  constructor
  · intro hn o ho
    obtain ⟨b, hb, hob⟩ := List.mem_flatMap.1 ho
    have := hn b hb
    simp only [Bool.or_eq_true, not_or, Bool.not_eq_true] at this
    rcases List.mem_append.1 hob with h1 | h1
    · exact (uses_no (h b hb).1 t).1 this.1 o h1
    · exact (uses_no (h b hb).2 t).1 this.2 o h1
  · intro hn b hb
    simp only [Bool.or_eq_true, not_or, Bool.not_eq_true]
    exact ⟨(uses_no (h b hb).1 t).2 fun o ho => hn o (List.mem_flatMap.2 ⟨b, hb, List.mem_append.2 (.inl ho)⟩),
      (uses_no (h b hb).2 t).2 fun o ho => hn o (List.mem_flatMap.2 ⟨b, hb, List.mem_append.2 (.inr ho)⟩)⟩
theorem has_iff (l : List Blk) (c : Int) : hasP l c = true ↔ ∃ o ∈ opsP l, ucls o.k = c := by
  unfold hasP opsP hasC
  rw [List.any_eq_true]
  simp only [Bool.or_eq_true, List.any_eq_true, beq_iff_eq]
  constructor
  · rintro ⟨b, hb, ⟨o, ho, h⟩ | ⟨o, ho, h⟩⟩
    · exact ⟨o, List.mem_flatMap.2 ⟨b, hb, List.mem_append.2 (.inl ho)⟩, h⟩
    · exact ⟨o, List.mem_flatMap.2 ⟨b, hb, List.mem_append.2 (.inr ho)⟩, h⟩
  · rintro ⟨o, ho, h⟩
    obtain ⟨b, hb, hob⟩ := List.mem_flatMap.1 ho
    rcases List.mem_append.1 hob with h1 | h1
    · exact ⟨b, hb, .inl ⟨o, h1, h⟩⟩
    · exact ⟨b, hb, .inr ⟨o, h1, h⟩⟩
theorem needE_zero {l : List Blk} {t : List Int} (h : needE l t = 0) : prgE l = 0 ∧ tabE t = 0 ∧ t[(3 : Nat)]?.getD 0 ≠ 0 ∧ lackL l t = false := by
  unfold needE at h
  by_cases h1 : prgE l = 0
  · rw [if_neg (fun x => x h1)] at h
    by_cases h2 : tabE t = 0
    · rw [if_neg (fun x => x h2)] at h
      by_cases h3 : t[(3 : Nat)]?.getD 0 = 0
      · rw [if_pos h3] at h; omega
      · rw [if_neg h3] at h
        cases h4 : lackL l t
        · exact ⟨h1, h2, h3, rfl⟩
        · rw [h4, if_pos rfl] at h; omega
    · rw [if_pos h2] at h; exact absurd h h2
  · rw [if_pos h1] at h; exact absurd h h1
theorem tabE_iff {t : List Int} : tabE t = 0 ↔ tabOk t = true := by
  unfold tabE
  cases tabOk t <;> simp
theorem tabOk_set {t : List Int} (ht : t.length = 13) (c : Nat) (hc : c < 4) (x : Int) (h : tabOk t = true) (h0 : 0 ≤ x) (h8 : x ≤ 8) : tabOk (setU t c x) = true := by
  have g := setU_get ht c hc x
  unfold tabOk clsOk at h ⊢
  simp only [g, Bool.and_eq_true, decide_eq_true_eq] at h ⊢
  obtain rfl | rfl | rfl | rfl : c = 0 ∨ c = 1 ∨ c = 2 ∨ c = 3 := by omega
  all_goals simp_all
/-- A unit more never hurts. -/
theorem need_more {l : List Blk} {t : List Int} (ht : t.length = 13) (c : Nat) (hc : c < 4) (x : Int) (h : needE l t = 0) (h0 : 1 ≤ x) (h8 : x ≤ 8) : needE l (setU t c x) = 0 := by
  obtain ⟨h1, h2, h3, h4⟩ := needE_zero h
  have g := setU_get ht c hc x
  unfold needE
  rw [if_neg (fun e => e h1), if_neg (fun e => e (tabE_iff.2 (tabOk_set ht c hc x (tabE_iff.1 h2) (by omega) h8))), if_neg, if_neg]
  · rw [Bool.not_eq_true]
    refine (lack_no (prg_ok h1) _).2 fun o ho => ?_
    rw [g]
    split
    · omega
    · exact (lack_no (prg_ok h1) _).1 h4 o ho
  · rw [g]
    split
    · omega
    · exact h3
/-- Without a class's units: right, just if the class is not used. -/
theorem need_none {l : List Blk} {t : List Int} (ht : t.length = 13) (c : Nat) (hc : c < 4) (h : needE l t = 0) : needE l (setU t c 0) = if ((c : Int) == 3 || hasP l c) then 21 else 0 := by
  obtain ⟨h1, h2, h3, h4⟩ := needE_zero h
  have g := setU_get ht c hc 0
  unfold needE
  rw [if_neg (fun e => e h1), if_neg (fun e => e (tabE_iff.2 (tabOk_set ht c hc 0 (tabE_iff.1 h2) (by omega) (by omega)))), g]
  by_cases hc3 : 3 = c
  · subst hc3
    simp
  · have hb : ((c : Int) == 3) = false := by rw [Bool.eq_false_iff]; intro e; have := eq_of_beq e; omega
    rw [if_neg hc3, if_neg h3, hb, Bool.false_or]
    cases hh : hasP l c
    · rw [if_neg, if_neg (by decide)]
      rw [Bool.not_eq_true]
      refine (lack_no (prg_ok h1) _).2 fun o ho => ?_
      rw [g, if_neg]
      · exact (lack_no (prg_ok h1) _).1 h4 o ho
      · intro e
        have hl := ucls_lt o.k
        have : hasP l c = true := (has_iff l c).2 ⟨o, ho, by omega⟩
        rw [hh] at this
        cases this
    · rw [if_pos, if_pos rfl]
      cases hx : lackL l (setU t c 0)
      · obtain ⟨o, ho, e⟩ := (has_iff l c).1 hh
        have := (lack_no (prg_ok h1) _).1 hx o ho
        rw [g, if_pos (by have hl := ucls_lt o.k; omega)] at this
        exact absurd rfl this
      · rfl
end Go.Proofs.Ytcibkoodnfkogaa
