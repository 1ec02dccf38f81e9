/- Laws on memory that name no program: cells behind stores, rows of the call's own. -/
import Derived.Test.YtpiagggnjppkhaaBase2
import Derived.Deep.AppendLies
import Derived.Deep.RegionHeld3
import Derived.Laws.OwnMore
namespace Go.Proofs.Ytpiagggnjppkhaa
open Go.RowKit
set_option linter.unusedVariables false
set_option linter.unusedSimpArgs false
/-- The block g of w' is as it was in w. -/
theorem OpsIn.far {w w' : World} {g o : Nat} {l : List Op} (h : OpsIn w (some ⟨g, o, none⟩) l) (hk : ∀ off, w'.cell? ⟨g, off, none⟩ = w.cell? ⟨g, off, none⟩) : OpsIn w' (some ⟨g, o, none⟩) l := fun hne => by
  obtain ⟨g', off, he, hx⟩ := h hne
  injection he with he
  injection he with h1 h2
  subst h1 h2
  refine ⟨_, _, rfl, fun i x hi => ?_⟩
  obtain ⟨c0, c1, c2, c3, c4⟩ := hx i x hi
  exact ⟨(hk _).trans c0, (hk _).trans c1, (hk _).trans c2, (hk _).trans c3, (hk _).trans c4⟩
theorem OpsIn.set {w : World} {g o : Nat} {l : List Op} (h : OpsIn w (some ⟨g, o, none⟩) l) {p : Addr} (hp : p.block ≠ g) (u : Value) : OpsIn (w.setCell p u) (some ⟨g, o, none⟩) l :=
  h.far fun _ => World.cell?_setCell_far _ _ _ _ hp
theorem set_same {w : World} {p : Addr} {x u : Value} (h : w.cell? p = some x) : (w.setCell p u).cell? p = some u := World.cell?_setCell_same w _ _ h
theorem set_other {w : World} {p q : Addr} {x u : Value} (h : w.cell? q = some x) (hne : p ≠ q) : (w.setCell p u).cell? q = some x := (World.cell?_setCell_other w _ _ _ hne).trans h
theorem set_frozen {w : World} {p q : Addr} {u : Value} (h : w.frozen? q = false) : (w.setCell p u).frozen? q = false := by rw [World.frozen?_setCell]; exact h
theorem own_below {w w' : World} {base : Nat} {e : TypeId} {size : Nat} {v : Value} {n : Nat} {xs : List Value} (h : w.ownsRow base e size v n xs) (hb : Below w.heap.size w w') : w'.ownsRow base e size v n xs := by
  refine ⟨h.1, ?_⟩
  rcases h.2 with hn | ⟨g, cap, cur, rfl, hbg, hg, rest⟩
  · exact .inl hn
  · exact .inr ⟨g, cap, cur, rfl, hbg, (hb.block g (Array.getElem?_eq_some_iff.1 hg).1).trans hg, rest⟩
theorem heap_new_at (w : World) (o : Obj) (n : Nat) (hn : n = w.heap.size) : (w.alloc o).heap[n]? = some o := by subst hn; exact heap_alloc_new w o
theorem frozen_keep {w w' : World} {a : Addr} (h : w.frozen? a = false) (ha : a.block < w.heap.size) (hb : Below w.heap.size w w') : w'.frozen? a = false := (hb.frozen (p := a) ha).trans h
theorem gb_below {w0 w w' : World} {r : Option Nat} (h : w0.grownBy w r) (hb : Below w.heap.size w w') : w0.grownBy w' r :=
  h.trans ⟨hb.os, hb.tape, hb.output, hb.size, fun k hk _ => hb.block k hk⟩
theorem gb_trans {w0 w w' : World} {r : Option Nat} (h : w0.grownBy w r) (k : w.grownBy w' r) : w0.grownBy w' r := h.trans k
theorem gb_refl (w : World) (r : Option Nat) : w.grownBy w r := ⟨rfl, rfl, rfl, Nat.le_refl _, fun _ _ _ => rfl⟩
/-- Nothing is appended, at a step of a region that draws its order. -/
theorem step_append_none {P : Program} {w : World} {ops : Array Oper} {o : Oper} {a : Act} {K : Act → World → Prop} {Q : Exit → Act → World → Prop} {E : Prop} (hgd : o.guard = none) (s x : Operand) (t : TypeId)
    (ho : o.op = .call { callee := .builtin .append, args := #[s, x], argTypes := #[t, t] })
    (base : Nat) (e : TypeId) (i : TypeInfo) (size : Nat) (ht : P.underlying t = some (.slice e)) (hi : P.info? e = some i)
    (v : Value) (n : Nat) (xs : List Value) (hs : a.eval s = v) (hown : w.ownsRow base e size v n xs) (hx : a.eval x = .slice none 0 0)
    (h : K (a.put o.dst v) w) : if Region.wanted o (yielded ops a.tmps) = true then Oper.wp P o a w K Q else E := by
  have hw : Region.wanted o (yielded ops a.tmps) = true := by simp [Region.wanted, hgd]
  rw [if_pos hw]
  have hrun := run_append_owned_none (P := P) (w := w) base t o.type e i size ht hi v n xs hown
  unfold Oper.wp
  simp [execOp, ho, resolve, invoke, builtin, hs, hx, hrun, Result.andThen]
  exact h
/-- A row of the call's own, one cell an element. -/
theorem own_row1 {w : World} {base : Nat} {e : TypeId} {v : Value} {n : Nat} {xs : List Value} (h : w.ownsRow base e 1 v n xs) : ∃ (A : Option Addr) (c : Nat), v = .slice A n c ∧ (0 < n → ∃ g, A = some ⟨g, 0, none⟩ ∧ base ≤ g ∧ g < w.heap.size ∧ ∀ k, k < n → w.cell? ⟨g, k, none⟩ = xs[k]?) := by
  rcases h.2 with ⟨he, h0⟩ | ⟨k, cap, cur, he, hbg, hk, hrest⟩
  · subst h0
    exact ⟨none, 0, he, fun h => absurd h (Nat.lt_irrefl _)⟩
  · subst he
    exact ⟨_, cap, rfl, fun _ => ⟨k, rfl, hbg, (Array.getElem?_eq_some_iff.1 hk).1, fun i hi => h.cellAt i (by omega)⟩⟩
theorem own_moved {w w' : World} {base : Nat} {e : TypeId} {size : Nat} {v : Value} {n : Nat} {xs : List Value} (h : w.ownsRow base e size v n xs) (hk : ∀ b, v.ownBlock = some b → w'.heap[b]? = w.heap[b]?) : w'.ownsRow base e size v n xs := by
  refine ⟨h.1, ?_⟩
  rcases h.2 with hn | ⟨g, cap, cur, rfl, hbg, hg, rest⟩
  · exact .inl hn
  · exact .inr ⟨g, cap, cur, rfl, hbg, (hk g rfl).trans hg, rest⟩
end Go.Proofs.Ytpiagggnjppkhaa
