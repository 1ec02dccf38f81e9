/- A list of numbers is appended to an empty row of the call's own, whatever it is. -/
import Derived.Test.YtpiagggnjppkhaaZ17
namespace Go.Proofs.Ytpiagggnjppkhaa
open Go.RowKit
set_option linter.unusedVariables false
set_option linter.unusedSimpArgs false
/-- A slice value that reads as these numbers. -/
def ListV (w : World) (X : Value) (l : List Int) : Prop :=
  (X = .slice none 0 0 ∧ l = []) ∨ ∃ q off c, X = .slice (some ⟨q, off, none⟩) l.length c ∧ ∀ j u, (l.map (Value.int .i64))[j]? = some u → w.cell? ⟨q, off + j, none⟩ = some u
theorem ListV.keep {w w' : World} {X : Value} {l : List Int} (h : ListV w X l) (hb : Below w.heap.size w w') : ListV w' X l := by
  rcases h with h | ⟨q, off, c, hX, hc⟩
  · exact .inl h
  · exact .inr ⟨q, off, c, hX, fun j u hu => cell_keep (hc j u hu) hb⟩
set_option maxHeartbeats 4000000 in
set_option maxRecDepth 100000 in
theorem app_list {ops : Array Oper} {o : Oper} {a : Act} {w : World} {K : Act → World → Prop} {Q : Exit → Act → World → Prop} {E : Prop} (hgd : o.guard = none) (s x : Operand)
    (ho : o.op = .call { callee := .builtin .append, args := #[s, x], argTypes := #[25, 25] }) (base : Nat) (k : Nat) (l : List Int) (X : Value)
    (hs : a.eval s = .slice (some ⟨k, 0, none⟩) 0 0) (hx : a.eval x = X) (hX : ListV w X l) (he : w.heap[k]? = some (.cells #[] 2 (0, 0))) (hk : base ≤ k) (hw : base ≤ w.heap.size) (hm : l.length ≤ 10000000000000)
    (h : ∀ g c w', NumsIn w' (some ⟨g, 0, none⟩) l → base ≤ g → g < w'.heap.size → (k = g ∨ g = w.heap.size) → Below base w w' → (∀ b o, b < w.heap.size → b ≠ k → w'.cell? ⟨b, o, none⟩ = w.cell? ⟨b, o, none⟩) →
      (∀ b o, b < w.heap.size → b ≠ k → w'.frozen? ⟨b, o, none⟩ = w.frozen? ⟨b, o, none⟩) → w.heap.size ≤ w'.heap.size → K (a.put o.dst (.slice (some ⟨g, 0, none⟩) l.length c)) w') :
    if Region.wanted o (yielded ops a.tmps) = true then Oper.wp Try.prog o a w K Q else E := by
  rcases hX with ⟨rfl, rfl⟩ | ⟨q, off, c, rfl, hn⟩
  · refine app_nothing hgd s x ho base k hs hx he hk ?_
    exact h k 0 w (fun hne => absurd rfl hne) hk (Array.getElem?_eq_some_iff.1 he).1 (.inl rfl) (Below.refl _ _) (fun _ _ _ _ => rfl) (fun _ _ _ _ => rfl) (Nat.le_refl _)
  · have hwd : Region.wanted o (yielded ops a.tmps) = true := by simp [Region.wanted, hgd]
    rw [if_pos hwd]
    obtain ⟨ii, z, hi, hz, h1, h8, hz1⟩ := int_info
    obtain ⟨v', w', hr, h2, h3, h4, h5⟩ := run_append_own_at (P := Try.prog) w base 25 o.type 2 ii z 1 8 Try.underlying25 hi hz h1 h8 hz1 (by omega) (.slice (some ⟨k, 0, none⟩) 0 0) 0 [] (own_empty he hk) ⟨q, off, none⟩ l.length c (l.map (Value.int .i64)) (by simp) (fun j u hu => by rw [addr_add]; exact hn j u hu) (ints_one l) (by unfold maxLen; omega) (by omega) hw
    have hform : ∃ g c', v' = .slice (some ⟨g, 0, none⟩) l.length c' := by
      rcases h2.2 with ⟨hv, _⟩ | ⟨g, cap, cur, hv, _⟩
      · have := (h4.1 hv).1
        cases this
      · rw [Nat.zero_add] at hv
        exact ⟨g, cap, hv⟩
    obtain ⟨g, c', rfl⟩ := hform
    rw [Nat.zero_add, List.nil_append] at h2
    unfold Oper.wp execOp
    simp only [ho, resolve, invoke, builtin, Sem.run_bind, Sem.run_pure, Result.andThen_ok, List.map_toArray, List.map_cons, List.map_nil, hs, hx, hr]
    have hne : ∀ b : Nat, b ≠ k → some b ≠ Value.ownBlock (.slice (some ⟨k, 0, none⟩) 0 0) := fun b hb e => by
      injection e with e
      exact hb e
    refine h g c' w' (nums_own h2 rfl) (own_ge h2 g rfl).1 (own_ge h2 g rfl).2 ?_ ?_ (fun b o hb hbk => h3.cell_far ⟨b, o, none⟩ hb (hne b hbk)) (fun b o hb hbk => h3.frozen_far ⟨b, o, none⟩ hb (hne b hbk)) h3.size
    · rcases h5 with e | e
      · exact .inl (by injection e with e; exact e.symm)
      · exact .inr (by injection e)
    · exact ⟨h3.os, h3.tape, h3.output, h3.size, fun b hb => h3.block b (by omega) (hne b (by omega))⟩
set_option maxHeartbeats 4000000 in
set_option maxRecDepth 100000 in
theorem app_nil {ops : Array Oper} {o : Oper} {a : Act} {w : World} {K : Act → World → Prop} {Q : Exit → Act → World → Prop} {E : Prop} (hgd : o.guard = none) (s x : Operand)
    (ho : o.op = .call { callee := .builtin .append, args := #[s, x], argTypes := #[25, 25] }) (q off : Nat) (l : List Int) (n c : Nat) (hln : l.length = n)
    (hs : a.eval s = .slice none 0 0) (hx : a.eval x = .slice (some ⟨q, off, none⟩) n c) (hl : 0 < l.length) (hm : l.length ≤ 10000000000000)
    (hn : ∀ j u, (l.map (Value.int .i64))[j]? = some u → w.cell? ⟨q, off + j, none⟩ = some u)
    (h : ∀ g c w', NumsIn w' (some ⟨g, 0, none⟩) l → w.heap.size ≤ g → g < w'.heap.size → Below w.heap.size w w' → K (a.put o.dst (.slice (some ⟨g, 0, none⟩) n c)) w') :
    if Region.wanted o (yielded ops a.tmps) = true then Oper.wp Try.prog o a w K Q else E := by
  subst hln
  obtain ⟨ii, z, hi, hz, h1, h8, hz1⟩ := int_info
  refine step_append_lies w hgd s x 25 ho w.heap.size 2 ii z 1 8 Try.underlying25 hi hz h1 h8 hz1 (by omega) (.slice none 0 0) 0 [] hs (World.ownsRow_nil _ _ _ _) ⟨q, off, none⟩ l.length c (l.map (Value.int .i64)) hx (by simp) (fun j u hu => by rw [addr_add]; exact hn j u hu) (ints_one l) hl (by unfold maxLen; omega) (by omega) (Nat.le_refl _) _ rfl ?_
  intro g c' w' hown hg hat hlt
  rw [Nat.zero_add] at hown ⊢
  rw [List.nil_append] at hown
  exact h g c' w' (nums_own hown rfl) (own_ge hown g rfl).1 hlt ⟨hg.os, hg.tape, hg.output, hg.size, fun k hk => hg.block k hk (by intro e; cases e)⟩
end Go.Proofs.Ytpiagggnjppkhaa
