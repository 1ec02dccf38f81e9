/- A list of operations is appended to an empty row of the call's own. -/
import Derived.Test.YtpiagggnjppkhaaFlat
import Derived.Laws.AppendOwnNone
import Derived.Maps.AppendAt
namespace Go.Proofs.Ytpiagggnjppkhaa
open Go.RowKit
set_option linter.unusedVariables false
set_option linter.unusedSimpArgs false
theorem own_none {w : World} {base k sz : Nat} {T : TypeId} (h : w.heap[k]? = some (.cells #[] T (0, 0))) (hb : base ≤ k) : w.ownsRow base T sz (.slice (some ⟨k, 0, none⟩) 0 0) 0 [] :=
  ⟨by simp, .inr ⟨k, 0, #[], rfl, hb, h, Nat.le_refl _, Nat.zero_le _, by simp, by simp⟩⟩
set_option maxHeartbeats 4000000 in
set_option maxRecDepth 100000 in
theorem wpList_app_ops {ops : Array Oper} {rest : List Oper} {o : Oper} {a : Act} {w : World} {Q : Exit → Act → World → Prop} (hgd : o.guard = none) (s x : Operand)
    (ho : o.op = .call { callee := .builtin .append, args := #[s, x], argTypes := #[47, 47] }) (base k : Nat) (l : List Op) (A : Option Addr) (c : Nat)
    (hs : a.eval s = .slice (some ⟨k, 0, none⟩) 0 0) (hx : a.eval x = .slice A l.length c) (hA : OpsIn w A l) (hn : A = none → c = 0) (he : w.heap[k]? = some (.cells #[] 53 (0, 0))) (hk : base ≤ k) (hw : base ≤ w.heap.size) (hm : l.length ≤ 8000000000000)
    (h : ∀ g c' w', OpsIn w' (some ⟨g, 0, none⟩) l → l.length ≤ c' → base ≤ g → g < w'.heap.size → Below base w w' → (∀ b, b < w.heap.size → b ≠ k → w'.heap[b]? = w.heap[b]?) → (g = k ∨ g = w.heap.size) →
      wpList Try.prog ops Q rest (a.put o.dst (.slice (some ⟨g, 0, none⟩) l.length c')) w') : wpList Try.prog ops Q (o :: rest) a w := by
  obtain ⟨ii, z, hi, hz, h5, h16, hz5⟩ := op_info
  cases A with
  | none =>
    obtain rfl : c = 0 := hn rfl
    have hl0 : l = [] := by
      cases l with
      | nil => rfl
      | cons x l => obtain ⟨g, off, he, _⟩ := hA (by simp); cases he
    subst hl0
    refine wpList_append_own_none hgd s x 47 ho base 53 ii 5 Try.underlying47 hi (.slice (some ⟨k, 0, none⟩) 0 0) 0 [] hs (own_none he hk) hx ?_
    exact h k 0 w (fun hne => absurd rfl hne) (Nat.le_refl _) hk (Array.getElem?_eq_some_iff.1 he).1 (Below.refl _ _) (fun _ _ _ => rfl) (.inl rfl)
  | some ad =>
    refine wpList_plain hgd fun K hK => ?_
    have hnews : ∀ j u, (l.flatMap Op.cells)[j]? = some u → w.cell? (ad.add j) = some u := by
      intro j u hu
      by_cases hne : l = []
      · subst hne; simp at hu
      · obtain ⟨g, off, he, hx⟩ := hA hne
        injection he with he
        subst he
        exact OpsIn.flat hA j u hu
    obtain ⟨v', w', hr, h2, h3, h4, hat⟩ := run_append_own_at (P := Try.prog) w base 47 o.type 53 ii z 5 16 Try.underlying47 hi hz h5 h16 hz5 (by omega) (.slice (some ⟨k, 0, none⟩) 0 0) 0 [] (own_none he hk) ad l.length c (l.flatMap Op.cells) (flat_len l) hnews (flat_one l) (by unfold maxLen; omega) (by omega) hw
    have hform : ∃ g c', v' = .slice (some ⟨g, 0, none⟩) l.length c' ∧ l.length ≤ c' := by
      rcases h2.2 with ⟨hv, _⟩ | ⟨g, cap, cur, hv, _, _, hnc, _⟩
      · have := (h4.1 hv).1
        cases this
      · rw [Nat.zero_add] at hv hnc
        exact ⟨g, cap, hv, hnc⟩
    obtain ⟨g, c', rfl, hlc⟩ := hform
    rw [Nat.zero_add, List.nil_append] at h2
    have hne : ∀ b : Nat, b ≠ k → some b ≠ Value.ownBlock (.slice (some ⟨k, 0, none⟩) 0 0) := fun b hb e => by
      injection e with e
      exact hb e
    have hh := h g c' w' (own_ops h2 rfl) hlc (h2.lt g rfl).1 (h2.lt g rfl).2 ⟨h3.os, h3.tape, h3.output, h3.size, fun b hb => h3.block b (by omega) (hne b (by omega))⟩ (fun b hb hbk => h3.block b hb (hne b hbk)) (by
      rcases hat with e | e
      · exact .inl (by injection e)
      · exact .inr (by injection e))
    unfold Oper.wp execOp
    simp only [ho, resolve, invoke, builtin, Sem.run_bind, Sem.run_pure, Result.andThen_ok, List.map_toArray, List.map_cons, List.map_nil, hs, hx, hr]
    exact hK _ _ hh
end Go.Proofs.Ytpiagggnjppkhaa
