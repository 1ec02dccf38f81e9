/- Laws on memory that name no program: cells behind stores, rows of the call's own. -/
import Derived.Test.YtpiagggnjppkhaaZ1
import Derived.Deep.AppendLies
import Derived.Deep.RegionHeld3
import Derived.Laws.OwnMore
import Derived.Deep.MidRow
namespace Go.Proofs.Ytpiagggnjppkhaa
open Go.RowKit
set_option linter.unusedVariables false
set_option linter.unusedSimpArgs false
section
open Go.RowKit
/-- The block g of w' is as it was in w. -/
theorem OpsIn.far {w w' : World} {g o : Nat} {l : List Op} (h : OpsIn w (some ⟨g, o, none⟩) l) (hk : ∀ off, w'.cell? ⟨g, off, none⟩ = w.cell? ⟨g, off, none⟩) : OpsIn w' (some ⟨g, o, none⟩) l := fun hne => by
  obtain ⟨g', off, he, hx⟩ := h hne
  injection he with he
  injection he with h1 h2
  subst h1 h2
  refine ⟨_, _, rfl, fun i x hi => ?_⟩
  obtain ⟨c0, c1, c2, c3, c4⟩ := hx i x hi
  exact ⟨(hk _).trans c0, (hk _).trans c1, (hk _).trans c2, (hk _).trans c3, (hk _).trans c4⟩
theorem OpsIn.set {w : World} {g o : Nat} {l : List Op} (h : OpsIn w (some ⟨g, o, none⟩) l) {p : Addr} (hp : p.block ≠ g) (u : Value) : OpsIn (w.setCell p u) (some ⟨g, o, none⟩) l :=
  h.far fun _ => World.cell?_setCell_far _ _ _ _ hp
theorem set_same {w : World} {p : Addr} {x u : Value} (h : w.cell? p = some x) : (w.setCell p u).cell? p = some u := World.cell?_setCell_same w _ _ h
theorem set_other {w : World} {p q : Addr} {x u : Value} (h : w.cell? q = some x) (hne : p ≠ q) : (w.setCell p u).cell? q = some x := (World.cell?_setCell_other w _ _ _ hne).trans h
theorem set_frozen {w : World} {p q : Addr} {u : Value} (h : w.frozen? q = false) : (w.setCell p u).frozen? q = false := by rw [World.frozen?_setCell]; exact h
theorem own_below {w w' : World} {base : Nat} {e : TypeId} {size : Nat} {v : Value} {n : Nat} {xs : List Value} (h : w.ownsRow base e size v n xs) (hb : Below w.heap.size w w') : w'.ownsRow base e size v n xs := by
  refine ⟨h.1, ?_⟩
  rcases h.2 with hn | ⟨g, cap, cur, rfl, hbg, hg, rest⟩
  · exact .inl hn
  · exact .inr ⟨g, cap, cur, rfl, hbg, (hb.block g (Array.getElem?_eq_some_iff.1 hg).1).trans hg, rest⟩
theorem heap_new_at (w : World) (o : Obj) (n : Nat) (hn : n = w.heap.size) : (w.alloc o).heap[n]? = some o := by subst hn; exact heap_alloc_new w o
theorem frozen_keep {w w' : World} {a : Addr} (h : w.frozen? a = false) (ha : a.block < w.heap.size) (hb : Below w.heap.size w w') : w'.frozen? a = false := (hb.frozen (p := a) ha).trans h
theorem gb_below {w0 w w' : World} {r : Option Nat} (h : w0.grownBy w r) (hb : Below w.heap.size w w') : w0.grownBy w' r :=
  h.trans ⟨hb.os, hb.tape, hb.output, hb.size, fun k hk _ => hb.block k hk⟩
theorem gb_trans {w0 w w' : World} {r : Option Nat} (h : w0.grownBy w r) (k : w.grownBy w' r) : w0.grownBy w' r := h.trans k
theorem gb_refl (w : World) (r : Option Nat) : w.grownBy w r := ⟨rfl, rfl, rfl, Nat.le_refl _, fun _ _ _ => rfl⟩
/-- Nothing is appended, at a step of a region that draws its order. -/
theorem step_append_none {P : Program} {w : World} {ops : Array Oper} {o : Oper} {a : Act} {K : Act → World → Prop} {Q : Exit → Act → World → Prop} {E : Prop} (hgd : o.guard = none) (s x : Operand) (t : TypeId)
    (ho : o.op = .call { callee := .builtin .append, args := #[s, x], argTypes := #[t, t] })
    (base : Nat) (e : TypeId) (i : TypeInfo) (size : Nat) (ht : P.underlying t = some (.slice e)) (hi : P.info? e = some i)
    (v : Value) (n : Nat) (xs : List Value) (hs : a.eval s = v) (hown : w.ownsRow base e size v n xs) (hx : a.eval x = .slice none 0 0)
    (h : K (a.put o.dst v) w) : if Region.wanted o (yielded ops a.tmps) = true then Oper.wp P o a w K Q else E := by
  have hw : Region.wanted o (yielded ops a.tmps) = true := by simp [Region.wanted, hgd]
  rw [if_pos hw]
  have hrun := run_append_owned_none (P := P) (w := w) base t o.type e i size ht hi v n xs hown
  unfold Oper.wp
  simp [execOp, ho, resolve, invoke, builtin, hs, hx, hrun, Result.andThen]
  exact h
/-- A row of the call's own, one cell an element. -/
theorem own_row1 {w : World} {base : Nat} {e : TypeId} {v : Value} {n : Nat} {xs : List Value} (h : w.ownsRow base e 1 v n xs) : ∃ (A : Option Addr) (c : Nat), v = .slice A n c ∧ (0 < n → ∃ g, A = some ⟨g, 0, none⟩ ∧ base ≤ g ∧ g < w.heap.size ∧ ∀ k, k < n → w.cell? ⟨g, k, none⟩ = xs[k]?) := by
  rcases h.2 with ⟨he, h0⟩ | ⟨k, cap, cur, he, hbg, hk, hrest⟩
  · subst h0
    exact ⟨none, 0, he, fun h => absurd h (Nat.lt_irrefl _)⟩
  · subst he
    exact ⟨_, cap, rfl, fun _ => ⟨k, rfl, hbg, (Array.getElem?_eq_some_iff.1 hk).1, fun i hi => h.cellAt i (by omega)⟩⟩
theorem own_moved {w w' : World} {base : Nat} {e : TypeId} {size : Nat} {v : Value} {n : Nat} {xs : List Value} (h : w.ownsRow base e size v n xs) (hk : ∀ b, v.ownBlock = some b → w'.heap[b]? = w.heap[b]?) : w'.ownsRow base e size v n xs := by
  refine ⟨h.1, ?_⟩
  rcases h.2 with hn | ⟨g, cap, cur, rfl, hbg, hg, rest⟩
  · exact .inl hn
  · exact .inr ⟨g, cap, cur, rfl, hbg, (hk g rfl).trans hg, rest⟩
end
/- Rows of numbers in a block of their own. -/
section
open Go.RowKit
/-- Block g holds the row l of numbers, and no more. -/
def IntsAt (w : World) (g : Nat) (T : TypeId) (l : List Int) : Prop := w.heap[g]? = some (.cells (l.map (Value.int .i64)).toArray T (0, 0))
theorem IntsAt.lt {w : World} {g : Nat} {T : TypeId} {l : List Int} (h : IntsAt w g T l) : g < w.heap.size := (Array.getElem?_eq_some_iff.1 h).1
theorem IntsAt.cell {w : World} {g : Nat} {T : TypeId} {l : List Int} (h : IntsAt w g T l) (i : Nat) (hi : i < l.length) : w.cell? ⟨g, i, none⟩ = some (.int .i64 l[i]) := by
  rw [cell_of_row w g i _ _ _ h]
  simp [hi]
theorem IntsAt.cell2 {w : World} {g : Nat} {T : TypeId} {l : List Int} (h : IntsAt w g T l) (i : Nat) (x : Int) (hi : l[i]? = some x) : w.cell? ⟨g, i, none⟩ = some (.int .i64 x) := by
  obtain ⟨hl, rfl⟩ := List.getElem?_eq_some_iff.1 hi
  exact h.cell i hl
theorem IntsAt.frozen {w : World} {g : Nat} {T : TypeId} {l : List Int} (h : IntsAt w g T l) (i : Nat) : w.frozen? ⟨g, i, none⟩ = false := frozen_of_row w g i _ T h
theorem IntsAt.set {w : World} {g : Nat} {T : TypeId} {l : List Int} (h : IntsAt w g T l) (i : Nat) (x : Int) : IntsAt (w.setCell ⟨g, i, none⟩ (.int .i64 x)) g T (l.set i x) := by
  unfold IntsAt
  rw [heap_setCell_same w g i _ T _ h]
  simp [List.map_set]
theorem IntsAt.other {w : World} {g : Nat} {T : TypeId} {l : List Int} (h : IntsAt w g T l) {a : Addr} (hne : g ≠ a.block) (v : Value) : IntsAt (w.setCell a v) g T l := by
  unfold IntsAt
  rw [heap_setCell_other w a g v hne]
  exact h
theorem IntsAt.keep {w w' : World} {g : Nat} {T : TypeId} {l : List Int} (h : IntsAt w g T l) (hb : Below w.heap.size w w') : IntsAt w' g T l := (hb.block g h.lt).trans h
theorem IntsAt.grow {w w' : World} {g : Nat} {T : TypeId} {l : List Int} {r : Option Nat} (h : IntsAt w g T l) (hb : w.grownBy w' r) (hne : some g ≠ r) : IntsAt w' g T l := (hb.block g h.lt hne).trans h
theorem IntsAt.range {w : World} {g : Nat} {T : TypeId} {l : List Int} (h : IntsAt w g T l) : w.rangeAt g 0 (l.map (Value.int .i64)) := fun j v hv => by
  rw [Nat.zero_add, cell_of_row w g j _ _ _ h]
  simpa using hv
theorem IntsAt.there {w : World} {g : Nat} {T : TypeId} {l : List Int} (h : IntsAt w g T l) : w.there g 0 l.length := fun j hj => by
  rw [Nat.zero_add, h.cell j hj]
  exact ⟨rfl, h.frozen j⟩
theorem IntsAt.new (w : World) (T : TypeId) (l : List Int) (cs : Array Value) (n : Nat) (hn : n = w.heap.size) (hc : cs = (l.map (Value.int .i64)).toArray) : IntsAt (w.alloc (.cells cs T)) n T l := by
  subst hc hn
  exact heap_alloc_new w _
theorem ints_ok (l : List Int) : ∀ v ∈ l.map (Value.int .i64), v.oneCell' = true := fun v hv => by
  obtain ⟨x, _, rfl⟩ := List.mem_map.1 hv
  rfl
theorem set_self {l : List Int} {o : Nat} {x : Int} (h : l[o]? = some x) : l.set o x = l := by
  apply List.ext_getElem?
  intro i
  by_cases hi : o = i
  · subst hi
    rw [List.getElem?_set_self (List.getElem?_eq_some_iff.1 h).1, h]
  · rw [List.getElem?_set_ne hi]
/-- What lies there is stored once more. -/
theorem IntsAt.again {g : Nat} {T : TypeId} {l : List Int} : ∀ (k : List Int) (o : Nat) (w : World), IntsAt w g T l → (∀ j x, k[j]? = some x → l[o + j]? = some x) → IntsAt (w.setCells g o (k.map (Value.int .i64))) g T l
  | [], o, w, h, _ => h
  | x :: k, o, w, h, hk => by
    refine IntsAt.again k (o + 1) (w.setCell ⟨g, o, none⟩ (.int .i64 x)) ?_ (fun j y hj => ?_)
    · have := h.set o x
      rw [set_self (o := o) (hk 0 x rfl)] at this
      exact this
    · rw [Nat.add_assoc, Nat.add_comm 1]
      exact hk (j + 1) y hj
theorem IntsAt.apart {g b : Nat} {T : TypeId} {l : List Int} (hne : g ≠ b) : ∀ (k : List Value) (o : Nat) (w : World), IntsAt w g T l → IntsAt (w.setCells b o k) g T l
  | [], o, w, h => h
  | x :: k, o, w, h => IntsAt.apart hne k (o + 1) (w.setCell ⟨b, o, none⟩ x) (h.other hne x)
theorem bsetCells {a : World} {b : Nat} (hb : a.heap.size ≤ b) : ∀ (k : List Value) (o : Nat) (w : World), Below a.heap.size a w → Below a.heap.size a (w.setCells b o k)
  | [], o, w, h => h
  | x :: k, o, w, h => bsetCells hb k (o + 1) (w.setCell ⟨b, o, none⟩ x) (h.setCell hb x)
abbrev numsV (l : List Int) : Value := .agg (l.map (Value.int .i64)).toArray
theorem results_rows2 {P : Program} {fn : Func} {p q r : Tmp} {ty ty2 : TypeId} (h : fn.results = #[.cell p ty, .cell q ty2, .tmp r]) (tmps : Array Value) (w : World) (g g2 : Nat) (T T2 : TypeId) (l l2 : List Int) (d d2 : TypeDesc)
    (hp : tmps.getD p undef = .pointer (some ⟨g, 0, none⟩)) (hq : tmps.getD q undef = .pointer (some ⟨g2, 0, none⟩)) (hg : IntsAt w g T l) (hg2 : IntsAt w g2 T2 l2)
    (hu : P.underlying ty = some d) (hd : (match d with | .struct _ | .array _ _ => true | _ => false) = true) (hi : (P.info? ty).map (·.size) = some l.length)
    (hu2 : P.underlying ty2 = some d2) (hd2 : (match d2 with | .struct _ | .array _ _ => true | _ => false) = true) (hi2 : (P.info? ty2).map (·.size) = some l2.length) :
    (results fn tmps).run P w = .ok (.tuple #[numsV l, numsV l2, tmps.getD r undef]) w := by
  have hp' : tmps[p]?.getD undef = .pointer (some ⟨g, 0, none⟩) := by simpa using hp
  have hq' : tmps[q]?.getD undef = .pointer (some ⟨g2, 0, none⟩) := by simpa using hq
  simp [results, h, hp', hq', asAddr, run_loadVar_row w g T ty _ (0, 0) d hg hu hd (by simpa using hi), run_loadVar_row w g2 T2 ty2 _ (0, 0) d2 hg2 hu2 hd2 (by simpa using hi2)]
/-- These numbers lie from address A on. -/
def NumsIn (w : World) (A : Option Addr) (l : List Int) : Prop :=
  l ≠ [] → ∃ g off, A = some ⟨g, off, none⟩ ∧ ∀ i x, l[i]? = some x → w.cell? ⟨g, off + i, none⟩ = some (.int .i64 x)
theorem NumsIn.keep {w w' : World} {A : Option Addr} {l : List Int} (h : NumsIn w A l) (hb : Below w.heap.size w w') : NumsIn w' A l := fun hl => by
  obtain ⟨g, off, ha, hx⟩ := h hl
  exact ⟨g, off, ha, fun i x hi => cell_keep (hx i x hi) hb⟩
/-- Numbers of 64 bits. -/
def I64s (l : List Int) : Prop := ∀ x ∈ l, -9223372036854775808 ≤ x ∧ x ≤ 9223372036854775807
theorem I64s.set {l : List Int} (h : I64s l) (i : Nat) {x : Int} (hx : -9223372036854775808 ≤ x ∧ x ≤ 9223372036854775807) : I64s (l.set i x) := fun y hy => by
  rcases List.mem_or_eq_of_mem_set hy with hy | rfl
  · exact h y hy
  · exact hx
theorem i64s_zero (n : Nat) : I64s (List.replicate n 0) := fun x hx => by
  rw [(List.mem_replicate.1 hx).2]
  decide
theorem NumsIn.get {w : World} {A : Option Addr} {l : List Int} (h : NumsIn w A l) (i : Nat) (hi : i < l.length) : ∃ g off, A = some ⟨g, off, none⟩ ∧ w.cell? ⟨g, off + i, none⟩ = some (.int .i64 l[i]) := by
  obtain ⟨g, off, ha, hx⟩ := h (by rintro rfl; simp at hi)
  exact ⟨g, off, ha, hx i l[i] (List.getElem?_eq_getElem hi)⟩
end
end Go.Proofs.Ytpiagggnjppkhaa
