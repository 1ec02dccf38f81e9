/- Programs of one block; two cells of five that change places. -/
import Derived.Test.YtcibkoodnfkogaaY17
import Derived.Test.YtcibkoodnfkogaaY22
import Derived.Test.YtcibkoodnfkogaaY26
import Derived.Maps.AppendAt
namespace Go.Proofs.Ytcibkoodnfkogaa
open Go.RowKit
set_option linter.unusedVariables false
set_option linter.unusedSimpArgs false
theorem one_prg {l : List Op} (hok : ∀ o ∈ l, opOk o = true) (hl : l.length ≤ 200) : prgE [oneB l] = 0 := by
  have hs : sumB [oneB l] = l.length := by simp [sumB, oneB]
  have ha : allOk (oneB l).ops = true := List.all_eq_true.2 hok
  have he : endB (oneB l) (([oneB l] : List Blk).length : Int) = true := by
    show endB ⟨l, 2, 0, [], 0, 0⟩ 1 = true
    unfold endB
    rfl
  have hb : blkE (oneB l) (([oneB l] : List Blk).length : Int) = 0 := by
    unfold blkE
    rw [ha, he]
    rfl
  unfold prgE
  rw [hs, if_neg (by show ¬ (128 < 1 ∨ 1024 < 1 + l.length); omega), if_neg (by show ¬ (1 = 0); omega)]
  unfold firstE
  rw [if_pos hb]
  rfl
theorem one_wf {l : List Op} (hw : ∀ o ∈ l, o.wf) (hl : l.length ≤ 200) : ∀ b ∈ [oneB l], b.wf := fun b hb => by
  rw [List.mem_singleton.1 hb]
  exact ⟨hw, (fun o ho => by cases ho), by show (-128 : Int) ≤ 2; decide, by show (2 : Int) ≤ 127; decide, by show (0 : Int) ≤ 0; decide, by show (0 : Int) ≤ 255; decide, by show (-9223372036854775808 : Int) ≤ 0; decide, by show (0 : Int) ≤ 9223372036854775807; decide, by show (-9223372036854775808 : Int) ≤ 0; decide, by show (0 : Int) ≤ 9223372036854775807; decide, by show l.length ≤ _; omega, by show 0 ≤ _; omega⟩
theorem one_new {l : List Op} (hok : ∀ o ∈ l, opOk o = true) (hl : l.length ≤ 200) (r m : List Int) : newE [oneB l] r m = if 32 < r.length ∨ 256 < m.length then 2 else 0 := by unfold newE; rw [if_pos (one_prg hok hl)]
theorem one_at {w : World} {g : Nat} {A : Option Addr} {l : List Op} {c : Nat} (h0 : w.cell? ⟨g, 0, none⟩ = some (.slice A l.length c)) (h1 : w.cell? ⟨g, 1, none⟩ = some (.int .i8 2)) (h2 : w.cell? ⟨g, 2, none⟩ = some (.int .u8 0)) (h3 : w.cell? ⟨g, 3, none⟩ = some (.slice none 0 0)) (h4 : w.cell? ⟨g, 4, none⟩ = some (.int .i64 0)) (h5 : w.cell? ⟨g, 5, none⟩ = some (.int .i64 0))
    (ho : OpsIn w A l) (hc : l.length ≤ c) (hn : A = none → c = 0) : BlksIn w (some ⟨g, 0, none⟩) [oneB l] := fun _ => ⟨g, 0, rfl, fun i x hi => by
  cases i with
  | zero =>
    simp only [List.getElem?_cons_zero, Option.some.injEq] at hi
    subst hi
    exact ⟨A, c, none, 0, h0, h1, h2, h3, h4, h5, ho, (fun h => absurd rfl h), hc, Nat.le_refl _, hn, fun _ => rfl⟩
  | succ i => simp at hi⟩
/-- An operation is stored. -/
def put5 (w : World) (g o : Nat) (x : Op) : World := ((((w.setCell ⟨g, o, none⟩ (.int .i8 x.k)).setCell ⟨g, o + 1, none⟩ (.int .u8 x.d)).setCell ⟨g, o + 2, none⟩ (.int .u8 x.a)).setCell ⟨g, o + 3, none⟩ (.int .u8 x.b)).setCell ⟨g, o + 4, none⟩ (.int .i64 x.n)
theorem put5_far {w : World} {g o : Nat} {x : Op} {p : Addr} {u : Value} (h : w.cell? p = some u) (hp : p.block ≠ g ∨ p.off < o ∨ o + 5 ≤ p.off) : (put5 w g o x).cell? p = some u := by
  have hne : ∀ j, j < 5 → (⟨g, o + j, none⟩ : Addr) ≠ p := fun j hj e => by
    subst e
    rcases hp with h | h | h
    · exact h rfl
    · have h : o + j < o := h; omega
    · have h : o + 5 ≤ o + j := h; omega
  unfold put5
  exact set_other (set_other (set_other (set_other (set_other h (hne 0 (by omega))) (hne 1 (by omega))) (hne 2 (by omega))) (hne 3 (by omega))) (hne 4 (by omega))
theorem put5_same {w : World} {g o : Nat} {x y : Op} (h : OpAt w g o y) : OpAt (put5 w g o x) g o x := by
  obtain ⟨c0, c1, c2, c3, c4⟩ := h
  have hne : ∀ i j, i ≠ j → (⟨g, o + i, none⟩ : Addr) ≠ ⟨g, o + j, none⟩ := fun i j hij e => by injection e; omega
  unfold put5
  refine ⟨?_, ?_, ?_, ?_, ?_⟩
  · exact set_other (set_other (set_other (set_other (set_same c0) (hne 1 0 (by omega))) (hne 2 0 (by omega))) (hne 3 0 (by omega))) (hne 4 0 (by omega))
  · exact set_other (set_other (set_other (set_same (set_other c1 (hne 0 1 (by omega)))) (hne 2 1 (by omega))) (hne 3 1 (by omega))) (hne 4 1 (by omega))
  · exact set_other (set_other (set_same (set_other (set_other c2 (hne 0 2 (by omega))) (hne 1 2 (by omega)))) (hne 3 2 (by omega))) (hne 4 2 (by omega))
  · exact set_other (set_same (set_other (set_other (set_other c3 (hne 0 3 (by omega))) (hne 1 3 (by omega))) (hne 2 3 (by omega)))) (hne 4 3 (by omega))
  · exact set_same (set_other (set_other (set_other (set_other c4 (hne 0 4 (by omega))) (hne 1 4 (by omega))) (hne 2 4 (by omega))) (hne 3 4 (by omega)))
theorem put5_other {w : World} {g o o' : Nat} {x y : Op} (h : OpAt w g o' y) (hd : o' + 5 ≤ o ∨ o + 5 ≤ o') : OpAt (put5 w g o x) g o' y := by
  obtain ⟨c0, c1, c2, c3, c4⟩ := h
  have hf : ∀ j, j < 5 → (⟨g, o' + j, none⟩ : Addr).off < o ∨ o + 5 ≤ (⟨g, o' + j, none⟩ : Addr).off := fun j hj => by show o' + j < o ∨ o + 5 ≤ o' + j; omega
  exact ⟨put5_far c0 (.inr (hf 0 (by omega))), put5_far c1 (.inr (hf 1 (by omega))), put5_far c2 (.inr (hf 2 (by omega))), put5_far c3 (.inr (hf 3 (by omega))), put5_far c4 (.inr (hf 4 (by omega)))⟩
theorem put5_trn (w : World) (g o : Nat) (x : Op) : Trn g none w (put5 w g o x) := (((((Trn.refl g none w).set _ _).set _ _).set _ _).set _ _).set _ _
theorem swap_in {w : World} {g i : Nat} {l : List Op} {a b : Op} (h : OpsIn w (some ⟨g, 0, none⟩) l) (hi : l[i]? = some a) (hj : l[i + 1]? = some b) : OpsIn (put5 (put5 w g (i * 5) b) g ((i + 1) * 5) a) (some ⟨g, 0, none⟩) (swapL l i a b) := fun _ => by
  have hil := (List.getElem?_eq_some_iff.1 hi).1
  have hjl := (List.getElem?_eq_some_iff.1 hj).1
  obtain ⟨g', o', he, hx⟩ := h (by rintro rfl; simp at hi)
  injection he with he
  injection he with e1 e2
  subst e1 e2
  refine ⟨g, 0, rfl, fun k x hk => ?_⟩
  have hw : ∀ k y, l[k]? = some y → OpAt w g (0 + k * 5) y := hx
  by_cases h1 : k = i + 1
  · subst h1
    have : x = a := by
      unfold swapL at hk
      rw [List.getElem?_set_self (by rw [List.length_set]; omega)] at hk
      exact (Option.some.inj hk).symm
    subst this
    have h2 := put5_other (x := b) (o := i * 5) (hw _ _ hj) (.inr (by omega))
    rw [Nat.zero_add] at h2 ⊢
    exact put5_same h2
  · by_cases h0 : k = i
    · subst h0
      have : x = b := by
        unfold swapL at hk
        rw [List.getElem?_set_ne (by omega), List.getElem?_set_self (by omega)] at hk
        exact (Option.some.inj hk).symm
      subst this
      have h2 := hw _ _ hi
      rw [Nat.zero_add] at h2 ⊢
      exact put5_other (put5_same h2) (.inl (by omega))
    · have hk2 : l[k]? = some x := by
        unfold swapL at hk
        rwa [List.getElem?_set_ne (by omega), List.getElem?_set_ne (by omega)] at hk
      have h2 := hw _ _ hk2
      rw [Nat.zero_add] at h2 ⊢
      exact put5_other (put5_other h2 (by omega)) (by omega)
theorem swap_len (l : List Op) (i : Nat) (a b : Op) : (swapL l i a b).length = l.length := by unfold swapL; rw [List.length_set, List.length_set]
set_option maxHeartbeats 4000000 in
set_option maxRecDepth 100000 in
theorem wpList_app_ops2 {ops : Array Oper} {rest : List Oper} {o : Oper} {a : Act} {w : World} {Q : Exit → Act → World → Prop} (hgd : o.guard = none) (s x : Operand)
    (ho : o.op = .call { callee := .builtin .append, args := #[s, x], argTypes := #[38, 38] }) (base k : Nat) (l : List Op) (A : Option Addr) (c : Nat)
    (hs : a.eval s = .slice (some ⟨k, 0, none⟩) 0 0) (hx : a.eval x = .slice A l.length c) (hA : OpsIn w A l) (hne : l ≠ []) (he : w.heap[k]? = some (.cells #[] 55 (0, 0))) (hk : base ≤ k) (hw : base ≤ w.heap.size) (hm : l.length ≤ 8000000000000)
    (h : ∀ g c' w', OpsIn w' (some ⟨g, 0, none⟩) l → l.length ≤ c' → base ≤ g → g < w'.heap.size → Below base w w' → (∀ o, w'.frozen? ⟨g, o, none⟩ = false) →
      wpList Try.prog ops Q rest (a.put o.dst (.slice (some ⟨g, 0, none⟩) l.length c')) w') : wpList Try.prog ops Q (o :: rest) a w := by
  obtain ⟨ii, z, hi, hz, h5, h16, hz5⟩ := op_info
  obtain ⟨gA, offA, hAe, _⟩ := hA hne
  subst hAe
  refine wpList_plain hgd fun K hK => ?_
  have hnews : ∀ j u, (l.flatMap Op.cells)[j]? = some u → w.cell? ((⟨gA, offA, none⟩ : Addr).add j) = some u := fun j u hu => OpsIn.flat hA j u hu
  obtain ⟨v', w', hr, h2, h3, h4, hat⟩ := run_append_own_at (P := Try.prog) w base 38 o.type 55 ii z 5 16 Try.underlying38 hi hz h5 h16 hz5 (by omega) (.slice (some ⟨k, 0, none⟩) 0 0) 0 [] (own_none he hk) ⟨gA, offA, none⟩ l.length c (l.flatMap Op.cells) (flat_len l) hnews (flat_one l) (by unfold maxLen; omega) (by omega) hw
  have hform : ∃ g c', v' = .slice (some ⟨g, 0, none⟩) l.length c' ∧ l.length ≤ c' ∧ ∀ o, w'.frozen? ⟨g, o, none⟩ = false := by
    rcases h2.2 with ⟨hv, _⟩ | ⟨g, cap, cur, hv, _, hg, hnc, _⟩
    · have := (h4.1 hv).1
      cases this
    · rw [Nat.zero_add] at hv hnc
      exact ⟨g, cap, hv, hnc, fun o => frozen_of_row w' g o _ _ hg⟩
  obtain ⟨g, c', rfl, hlc, hfz⟩ := hform
  rw [Nat.zero_add, List.nil_append] at h2
  have hne : ∀ b : Nat, b ≠ k → some b ≠ Value.ownBlock (.slice (some ⟨k, 0, none⟩) 0 0) := fun b hb e => by
    injection e with e
    exact hb e
  have hh := h g c' w' (own_ops h2 rfl) hlc (h2.lt g rfl).1 (h2.lt g rfl).2 ⟨h3.os, h3.tape, h3.output, h3.size, fun b hb => h3.block b (by omega) (hne b (by omega))⟩ hfz
  unfold Oper.wp execOp
  simp only [ho, resolve, invoke, builtin, Sem.run_bind, Sem.run_pure, Result.andThen_ok, List.map_toArray, List.map_cons, List.map_nil, hs, hx, hr]
  exact hK _ _ hh
/-- The place, brought into the list. -/
theorem at_bd {a : Int} {n : Nat} (hn : 2 ≤ n) (h0 : -9223372036854775808 ≤ a) (h1 : a ≤ 9223372036854775807) : ∃ i : Nat, i + 1 < n ∧ (a.tmod ((n : Int) - 1) + (n : Int) - 1).tmod ((n : Int) - 1) = i ∧ -(n : Int) < a.tmod ((n : Int) - 1) ∧ a.tmod ((n : Int) - 1) < n := by
  have hm : (0 : Int) < (n : Int) - 1 := by omega
  have x1 := Int.tmod_lt_of_pos a hm
  have x2 := Int.lt_tmod_of_pos a hm
  generalize a.tmod ((n : Int) - 1) = x at *
  have y0 : 0 ≤ x + (n : Int) - 1 := by omega
  have y1 := Int.tmod_lt_of_pos (x + (n : Int) - 1) hm
  have y2 := Int.tmod_nonneg ((n : Int) - 1) y0
  exact ⟨((x + (n : Int) - 1).tmod ((n : Int) - 1)).toNat, by omega, by omega, by omega, by omega⟩
end Go.Proofs.Ytcibkoodnfkogaa
