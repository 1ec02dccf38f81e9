/- The machine's list, end, and the question whether it is stuck. -/
import Derived.Test.YtcibkoodnfkogaaY19
namespace Go.Proofs.Ytcibkoodnfkogaa
open Go.RowKit
set_option linter.unusedVariables false
set_option linter.unusedSimpArgs false
section
open Go.RowKit
/-- The list among which the place is, in memory. -/
def LstAt (S : Nat → Prop) (w : World) (l : List Blk) (m : Mc) (e : Ending) (w' : World) : Prop :=
  ∃ (L : Option Addr) (c : Nat), e = .returned (.slice L (lstS l m).length c) ∧ OpsIn w' L (lstS l m) ∧ (lstS l m).length ≤ c ∧ Below w.heap.size w w' ∧ SpotS S L (lstS l m)
theorem lst_ops {l : List Blk} {m : Mc} {b : Blk} (hb : l[m.blk]? = some b) (h : m.body = false) : lstS l m = b.ops := by unfold lstS; rw [hb, h]; rfl
theorem lst_body {l : List Blk} {m : Mc} {b : Blk} (hb : l[m.blk]? = some b) (h : m.body = true) : lstS l m = b.body := by unfold lstS; rw [hb, h]; rfl
set_option maxHeartbeats 4000000 in
set_option maxRecDepth 100000 in
theorem list_any {g B : Nat} {S : Nat → Prop} {A : Option Addr} {l : List Blk} {cap : Nat} {pv : Value} {m : Mc} {w : World} (h : Mach w g 158 322 B S A l cap 2 pv m doX) (hbl : m.blk < l.length) (h128 : l.length ≤ 128) :
    Calls Try.prog 132 #[.pointer (some ⟨g, 0, none⟩)] w (LstAt S w l m) := by
  obtain ⟨q, o, rfl, _, hq⟩ := h.blks.get m.blk hbl
  obtain ⟨B1, c1, B2, c2, k0, k1, k2, k3, k4, k5, o1, o2, l1, l2, s1, s2⟩ := hq
  have hbk : l[m.blk]? = some l[m.blk] := List.getElem?_eq_getElem hbl
  have r0 : w.cell? ⟨g, 0, none⟩ = some (.slice (some ⟨q, o, none⟩) l.length cap) := h.cells.cell 0 (by decide)
  have r1 : w.cell? ⟨g, 289, none⟩ = some (.int .i64 m.blk) := h.cells.cell 289 (by decide)
  have r2 : w.cell? ⟨g, 290, none⟩ = some (.bool m.body) := h.cells.cell 290 (by decide)
  have hgl := h.cells.lt
  have hql : q < w.heap.size := World.block_lt_of_cell? w _ k0
  have hij : (m.blk : Int) < (l.length : Int) := by omega
  have hi0 : (0 : Int) ≤ (m.blk : Int) := by omega
  have e1 := lst_ops hbk
  have e2 := lst_body hbk
  generalize l[m.blk] = b at *
  clear h hbk
  cases hbd : m.body with
  | false =>
    have e := hid (e1 hbd)
    rw [hbd] at r2
    have O1 := hid o1
    have S1 := hid s1
    clear e1 e2 hbd o1 o2 s1 s2
    go_enter Try.func132, Try.ntmps132
    go_wp2
    go_quiet (fail)
    go_wp2
    refine bodyPost_ret (v := .slice B1 b.ops.length c1) (by simp [results, Try.results132, go_sem]) rfl ?_
    exact ⟨B1, c1, by rw [e.out], by rw [e.out]; exact O1.out.keep (by ((with_reducible (repeat (first | assumption | exact Below.refl _ _ | refine bset ?_ (Nat.le_refl _) _ | refine balloc ?_ _ | refine bdrew ?_ | refine bdrewN ?_ _))); done)), by rw [e.out]; exact l1, (by ((with_reducible (repeat (first | assumption | exact Below.refl _ _ | refine bset ?_ (Nat.le_refl _) _ | refine balloc ?_ _ | refine bdrew ?_ | refine bdrewN ?_ _))); done)), by rw [e.out]; exact S1.out⟩
  | true =>
    have e := hid (e2 hbd)
    rw [hbd] at r2
    have O1 := hid o2
    have S1 := hid s2
    clear e1 e2 hbd o1 o2 s1 s2
    go_enter Try.func132, Try.ntmps132
    go_wp2
    go_quiet (fail)
    go_wp2
    refine bodyPost_ret (v := .slice B2 b.body.length c2) (by simp [results, Try.results132, go_sem]) rfl ?_
    exact ⟨B2, c2, by rw [e.out], by rw [e.out]; exact O1.out.keep (by ((with_reducible (repeat (first | assumption | exact Below.refl _ _ | refine bset ?_ (Nat.le_refl _) _ | refine balloc ?_ _ | refine bdrew ?_ | refine bdrewN ?_ _))); done)), by rw [e.out]; exact l2, (by ((with_reducible (repeat (first | assumption | exact Below.refl _ _ | refine bset ?_ (Nat.le_refl _) _ | refine balloc ?_ _ | refine bdrew ?_ | refine bdrewN ?_ _))); done)), by rw [e.out]; exact S1.out⟩
end
/- The state of the machine. -/
section
open Go.RowKit
theorem own_empty {w : World} {base k : Nat} {T : TypeId} (h : w.heap[k]? = some (.cells #[] T (0, 0))) (hb : base ≤ k) : w.ownsRow base T 1 (.slice (some ⟨k, 0, none⟩) 0 0) 0 [] :=
  ⟨rfl, .inr ⟨k, 0, #[], rfl, hb, h, Nat.le_refl _, Nat.zero_le _, rfl, rfl⟩⟩
/-- Behind the question for the state: registers and cells in new rows. -/
def StateS (m : Mc) (w : World) (e : Ending) (w' : World) : Prop :=
  ∃ (A1 A2 : Option Addr) (c1 c2 : Nat), e = .returned (.agg #[.slice A1 m.R.length c1, .slice A2 m.M.length c2]) ∧ Below w.heap.size w w' ∧
    (NumsIn w' A1 m.R ∧ ∀ a, A1 = some a → w.heap.size ≤ a.block ∧ a.block < w'.heap.size) ∧ (NumsIn w' A2 m.M ∧ ∀ a, A2 = some a → w.heap.size ≤ a.block ∧ a.block < w'.heap.size)
theorem alloc_old (w : World) (o : Obj) {k : Nat} (h : k < w.heap.size) : (w.alloc o).heap[k]? = w.heap[k]? := (balloc (Below.refl w.heap.size w) o).block k h
theorem nums_same_block {w w' : World} {A : Option Addr} {l : List Int} (h : NumsIn w A l) (hk : ∀ a, A = some a → w'.heap[a.block]? = w.heap[a.block]?) : NumsIn w' A l := fun hne => by
  obtain ⟨g, o, ha, hx⟩ := h hne
  have hb : w'.heap[g]? = w.heap[g]? := hk _ ha
  exact ⟨g, o, ha, fun i x hi => (World.cell?_of_block (a := ⟨g, o + i, none⟩) hb).trans (hx i x hi)⟩
theorem ints_one (l : List Int) : ∀ u ∈ l.map (Value.int .i64), u.oneCell' = true := ints_ok l
theorem nums_own {w : World} {base k n c : Nat} {T : TypeId} {l : List Int} (h : w.ownsRow base T 1 (.slice (some ⟨k, 0, none⟩) n c) n (l.map (Value.int .i64))) (hn : n = l.length) : NumsIn w (some ⟨k, 0, none⟩) l := fun _ => by
  subst hn
  refine ⟨k, 0, rfl, fun i x hi => ?_⟩
  have hl := (List.getElem?_eq_some_iff.1 hi).1
  rw [Nat.zero_add, h.cellAt i (by omega), List.getElem?_map, hi]
  rfl
theorem addr_add (g o j : Nat) : (⟨g, o, none⟩ : Addr).add j = ⟨g, o + j, none⟩ := by unfold Addr.add; split <;> simp_all
/-- Numbers are appended to an empty row of the call's own: at a step of a region that draws. -/
theorem app_nums {ops : Array Oper} {o : Oper} {a : Act} {w : World} {K : Act → World → Prop} {Q : Exit → Act → World → Prop} {E : Prop} (hgd : o.guard = none) (s x : Operand)
    (ho : o.op = .call { callee := .builtin .append, args := #[s, x], argTypes := #[42, 42] }) (base : Nat) (k q off : Nat) (l : List Int) (n c : Nat) (hln : l.length = n)
    (hs : a.eval s = .slice (some ⟨k, 0, none⟩) 0 0) (hx : a.eval x = .slice (some ⟨q, off, none⟩) n c) (he : w.heap[k]? = some (.cells #[] 2 (0, 0))) (hk : base ≤ k) (hw : base ≤ w.heap.size)
    (hl : 0 < l.length) (hm : l.length ≤ 10000000000000) (hn : ∀ j u, (l.map (Value.int .i64))[j]? = some u → w.cell? ⟨q, off + j, none⟩ = some u)
    (h : ∀ g c w', NumsIn w' (some ⟨g, 0, none⟩) l → base ≤ g → g < w'.heap.size → (k = g ∨ g = w.heap.size) → w.grownBy w' (some k) → K (a.put o.dst (.slice (some ⟨g, 0, none⟩) n c)) w') :
    if Region.wanted o (yielded ops a.tmps) = true then Oper.wp Try.prog o a w K Q else E := by
  subst hln
  obtain ⟨ii, z, hi, hz, h1, h8, hz1⟩ := int_info
  refine step_append_lies w hgd s x 42 ho base 2 ii z 1 8 Try.underlying42 hi hz h1 h8 hz1 (by omega) (.slice (some ⟨k, 0, none⟩) 0 0) 0 [] hs (own_empty he hk) ⟨q, off, none⟩ l.length c (l.map (Value.int .i64)) hx (by simp) (fun j u hu => by rw [addr_add]; exact hn j u hu) (ints_one l) hl (by unfold maxLen; omega) (by omega) hw _ rfl ?_
  intro g c' w' hown hg hat hlt
  rw [Nat.zero_add] at hown ⊢
  rw [List.nil_append] at hown
  refine h g c' w' (nums_own hown rfl) (own_ge hown g rfl).1 hlt ?_ hg
  rcases hat with e | e
  · exact .inl (by injection e)
  · exact .inr e
/-- The same where nothing is appended. -/
theorem app_nothing {ops : Array Oper} {o : Oper} {a : Act} {w : World} {K : Act → World → Prop} {Q : Exit → Act → World → Prop} {E : Prop} (hgd : o.guard = none) (s x : Operand)
    (ho : o.op = .call { callee := .builtin .append, args := #[s, x], argTypes := #[42, 42] }) (base : Nat) (k : Nat)
    (hs : a.eval s = .slice (some ⟨k, 0, none⟩) 0 0) (hx : a.eval x = .slice none 0 0) (he : w.heap[k]? = some (.cells #[] 2 (0, 0))) (hk : base ≤ k)
    (h : K (a.put o.dst (.slice (some ⟨k, 0, none⟩) 0 0)) w) :
    if Region.wanted o (yielded ops a.tmps) = true then Oper.wp Try.prog o a w K Q else E := by
  obtain ⟨ii, z, hi, hz, h1, h8, hz1⟩ := int_info
  exact step_append_none hgd s x 42 ho base 2 ii 1 Try.underlying42 hi _ 0 [] hs (own_empty he hk) hx h
set_option maxHeartbeats 4000000 in
set_option maxRecDepth 100000 in
theorem state_any {g B : Nat} {S : Nat → Prop} {A : Option Addr} {l : List Blk} {cap : Nat} {pv : Value} {m : Mc} {w : World} (h : Mach w g 158 322 B S A l cap 2 pv m doX) (hr : m.R.length = 32) (hm : m.M.length = 256) :
    Calls Try.prog 63 #[.pointer (some ⟨g, 0, none⟩)] w (StateS m w) := by
  have hgl := h.cells.lt
  have hgl1 : g < w.heap.size + 1 := by omega
  have HR := hid (show ∀ j u, (m.R.map (Value.int .i64))[j]? = some u → w.cell? ⟨g, 1 + j, none⟩ = some u from fun j u hu => by
    rw [List.getElem?_map] at hu
    cases hx : m.R[j]? with
    | none => rw [hx] at hu; cases hu
    | some x =>
      rw [hx] at hu
      have hj := (List.getElem?_eq_some_iff.1 hx).1
      rw [h.regs.R j (by omega), hx]
      simpa using hu)
  have HM := hid (show ∀ j u, (m.M.map (Value.int .i64))[j]? = some u → w.cell? ⟨g, 33 + j, none⟩ = some u from fun j u hu => by
    rw [List.getElem?_map] at hu
    cases hx : m.M[j]? with
    | none => rw [hx] at hu; cases hu
    | some x =>
      rw [hx] at hu
      have hj := (List.getElem?_eq_some_iff.1 hx).1
      rw [h.regs.M j (by omega), hx]
      simpa using hu)
  clear h
  go_enter Try.func63, Try.ntmps63
  go_wp2
  go_region_law (first
    | ((refine app_nums rfl _ _ rfl (w.heap.size + 1) (w.heap.size + 1) g 1 m.R 32 32 hr rfl rfl ?_ ?_ ?_ ?_ ?_ ?_ ?_); (next => first | (refine heap_new_at _ _ _ ?_; (first | omega | (simp; done) | (simp; omega))) | (refine (alloc_old _ _ ?_).trans (heap_new_at _ _ _ ?_) <;> (first | omega | (simp; done) | (simp; omega))) | (refine (hgrow9.block _ ?_ ?_).trans (heap_new_at _ _ _ ?_) <;> (first | omega | (simp; done) | (simp; omega))) | (refine (hgrow9.block _ ?_ ?_).trans ((alloc_old _ _ ?_).trans (heap_new_at _ _ _ ?_)) <;> (first | omega | (simp; done) | (simp; omega)))); (next => omega); (next => (first | omega | (simp; done) | (simp; omega))); (next => omega); (next => omega); (next => exact fun j u hu => cell_keep (HR.out j u hu) (by ((with_reducible (repeat (first | assumption | exact Below.refl _ _ | refine bset ?_ (Nat.le_refl _) _ | refine balloc ?_ _ | refine bdrew ?_ | refine bdrewN ?_ _))); done))); intro g1 d1 w9 hnn1 hgb1 hlt1 hat1 hgrow9; have B9 : Below w.heap.size w w9 := (Below.grown (w' := w9) (by ((with_reducible (repeat (first | assumption | exact Below.refl _ _ | refine bset ?_ (Nat.le_refl _) _ | refine balloc ?_ _ | refine bdrew ?_ | refine bdrewN ?_ _))); done)) hgrow9 (by (first | omega | (simp; done) | (simp; omega))) (fun k hk => by injection hk with hk; omega)); have hz9 : w.heap.size + 1 + 1 < w9.heap.size + 1 := (by have := hgrow9.size; (try simp at this); omega); have hz8 : w.heap.size < w9.heap.size := (by omega); have hz7 : w.heap.size + 1 < w9.heap.size := (by omega); have rc0 : w9.cell? ⟨w.heap.size, 0, none⟩ = some (.slice none 0 0) := ((hgrow9.cell_far ⟨w.heap.size, 0, none⟩ (by (first | omega | (simp; done) | (simp; omega))) (by (first | omega | (simp; done) | (simp; omega)))).trans (by go_simp)); have rc1 : w9.cell? ⟨w.heap.size, 1, none⟩ = some (.slice none 0 0) := ((hgrow9.cell_far ⟨w.heap.size, 1, none⟩ (by (first | omega | (simp; done) | (simp; omega))) (by (first | omega | (simp; done) | (simp; omega)))).trans (by go_simp)); have rf0 : w9.frozen? ⟨w.heap.size, 0, none⟩ = false := ((hgrow9.frozen_far ⟨w.heap.size, 0, none⟩ (by (first | omega | (simp; done) | (simp; omega))) (by (first | omega | (simp; done) | (simp; omega)))).trans (by go_simp)); have rf1 : w9.frozen? ⟨w.heap.size, 1, none⟩ = false := ((hgrow9.frozen_far ⟨w.heap.size, 1, none⟩ (by (first | omega | (simp; done) | (simp; omega))) (by (first | omega | (simp; done) | (simp; omega)))).trans (by go_simp)))
    | ((refine app_nums rfl _ _ rfl (w.heap.size + 1) (w.heap.size + 1 + 1) g 1 m.R 32 32 hr rfl rfl ?_ ?_ ?_ ?_ ?_ ?_ ?_); (next => first | (refine heap_new_at _ _ _ ?_; (first | omega | (simp; done) | (simp; omega))) | (refine (alloc_old _ _ ?_).trans (heap_new_at _ _ _ ?_) <;> (first | omega | (simp; done) | (simp; omega))) | (refine (hgrow9.block _ ?_ ?_).trans (heap_new_at _ _ _ ?_) <;> (first | omega | (simp; done) | (simp; omega))) | (refine (hgrow9.block _ ?_ ?_).trans ((alloc_old _ _ ?_).trans (heap_new_at _ _ _ ?_)) <;> (first | omega | (simp; done) | (simp; omega)))); (next => omega); (next => (first | omega | (simp; done) | (simp; omega))); (next => omega); (next => omega); (next => exact fun j u hu => cell_keep (HR.out j u hu) (by ((with_reducible (repeat (first | assumption | exact Below.refl _ _ | refine bset ?_ (Nat.le_refl _) _ | refine balloc ?_ _ | refine bdrew ?_ | refine bdrewN ?_ _))); done))); intro g1 d1 w9 hnn1 hgb1 hlt1 hat1 hgrow9; have B9 : Below w.heap.size w w9 := (Below.grown (w' := w9) (by ((with_reducible (repeat (first | assumption | exact Below.refl _ _ | refine bset ?_ (Nat.le_refl _) _ | refine balloc ?_ _ | refine bdrew ?_ | refine bdrewN ?_ _))); done)) hgrow9 (by (first | omega | (simp; done) | (simp; omega))) (fun k hk => by injection hk with hk; omega)); have hz9 : w.heap.size + 1 + 1 < w9.heap.size + 1 := (by have := hgrow9.size; (try simp at this); omega); have hz8 : w.heap.size < w9.heap.size := (by omega); have hz7 : w.heap.size + 1 < w9.heap.size := (by omega); have rc0 : w9.cell? ⟨w.heap.size, 0, none⟩ = some (.slice none 0 0) := ((hgrow9.cell_far ⟨w.heap.size, 0, none⟩ (by (first | omega | (simp; done) | (simp; omega))) (by (first | omega | (simp; done) | (simp; omega)))).trans (by go_simp)); have rc1 : w9.cell? ⟨w.heap.size, 1, none⟩ = some (.slice none 0 0) := ((hgrow9.cell_far ⟨w.heap.size, 1, none⟩ (by (first | omega | (simp; done) | (simp; omega))) (by (first | omega | (simp; done) | (simp; omega)))).trans (by go_simp)); have rf0 : w9.frozen? ⟨w.heap.size, 0, none⟩ = false := ((hgrow9.frozen_far ⟨w.heap.size, 0, none⟩ (by (first | omega | (simp; done) | (simp; omega))) (by (first | omega | (simp; done) | (simp; omega)))).trans (by go_simp)); have rf1 : w9.frozen? ⟨w.heap.size, 1, none⟩ = false := ((hgrow9.frozen_far ⟨w.heap.size, 1, none⟩ (by (first | omega | (simp; done) | (simp; omega))) (by (first | omega | (simp; done) | (simp; omega)))).trans (by go_simp)))
    | ((refine app_nums rfl _ _ rfl (w.heap.size + 1) (w.heap.size + 1 + 1) g 33 m.M 256 256 hm rfl rfl ?_ ?_ ?_ ?_ ?_ ?_ ?_); (next => first | (refine heap_new_at _ _ _ ?_; (first | omega | (simp; done) | (simp; omega))) | (refine (alloc_old _ _ ?_).trans (heap_new_at _ _ _ ?_) <;> (first | omega | (simp; done) | (simp; omega))) | (refine (hgrow9.block _ ?_ ?_).trans (heap_new_at _ _ _ ?_) <;> (first | omega | (simp; done) | (simp; omega))) | (refine (hgrow9.block _ ?_ ?_).trans ((alloc_old _ _ ?_).trans (heap_new_at _ _ _ ?_)) <;> (first | omega | (simp; done) | (simp; omega)))); (next => omega); (next => (first | omega | (simp; done) | (simp; omega))); (next => omega); (next => omega); (next => exact fun j u hu => cell_keep (HM.out j u hu) (by ((with_reducible (repeat (first | assumption | exact Below.refl _ _ | refine bset ?_ (Nat.le_refl _) _ | refine balloc ?_ _ | refine bdrew ?_ | refine bdrewN ?_ _))); done))); intro g33 d33 w8 hnn33 hgb33 hlt33 hat33 hgrow8; have B8 : Below w.heap.size w w8 := (Below.grown (w' := w8) (by ((with_reducible (repeat (first | assumption | exact Below.refl _ _ | refine bset ?_ (Nat.le_refl _) _ | refine balloc ?_ _ | refine bdrew ?_ | refine bdrewN ?_ _))); done)) hgrow8 (by (first | omega | (simp; done) | (simp; omega))) (fun k hk => by injection hk with hk; omega)); have hy9 : w.heap.size + 1 + 1 < w8.heap.size + 1 := (by have := hgrow8.size; (try simp at this); omega); have hy8 : w.heap.size < w8.heap.size := (by omega); have hy7 : w.heap.size + 1 < w8.heap.size := (by omega); have qc0 : w8.cell? ⟨w.heap.size, 0, none⟩ = some (.slice none 0 0) := ((hgrow8.cell_far ⟨w.heap.size, 0, none⟩ (by (first | omega | (simp; done) | (simp; omega))) (by (first | omega | (simp; done) | (simp; omega)))).trans (by go_simp)); have qc1 : w8.cell? ⟨w.heap.size, 1, none⟩ = some (.slice none 0 0) := ((hgrow8.cell_far ⟨w.heap.size, 1, none⟩ (by (first | omega | (simp; done) | (simp; omega))) (by (first | omega | (simp; done) | (simp; omega)))).trans (by go_simp)); have qf0 : w8.frozen? ⟨w.heap.size, 0, none⟩ = false := ((hgrow8.frozen_far ⟨w.heap.size, 0, none⟩ (by (first | omega | (simp; done) | (simp; omega))) (by (first | omega | (simp; done) | (simp; omega)))).trans (by go_simp)); have qf1 : w8.frozen? ⟨w.heap.size, 1, none⟩ = false := ((hgrow8.frozen_far ⟨w.heap.size, 1, none⟩ (by (first | omega | (simp; done) | (simp; omega))) (by (first | omega | (simp; done) | (simp; omega)))).trans (by go_simp)))
    | ((refine app_nums rfl _ _ rfl (w.heap.size + 1) (w.heap.size + 1) g 33 m.M 256 256 hm rfl rfl ?_ ?_ ?_ ?_ ?_ ?_ ?_); (next => first | (refine heap_new_at _ _ _ ?_; (first | omega | (simp; done) | (simp; omega))) | (refine (alloc_old _ _ ?_).trans (heap_new_at _ _ _ ?_) <;> (first | omega | (simp; done) | (simp; omega))) | (refine (hgrow9.block _ ?_ ?_).trans (heap_new_at _ _ _ ?_) <;> (first | omega | (simp; done) | (simp; omega))) | (refine (hgrow9.block _ ?_ ?_).trans ((alloc_old _ _ ?_).trans (heap_new_at _ _ _ ?_)) <;> (first | omega | (simp; done) | (simp; omega)))); (next => omega); (next => (first | omega | (simp; done) | (simp; omega))); (next => omega); (next => omega); (next => exact fun j u hu => cell_keep (HM.out j u hu) (by ((with_reducible (repeat (first | assumption | exact Below.refl _ _ | refine bset ?_ (Nat.le_refl _) _ | refine balloc ?_ _ | refine bdrew ?_ | refine bdrewN ?_ _))); done))); intro g33 d33 w8 hnn33 hgb33 hlt33 hat33 hgrow8; have B8 : Below w.heap.size w w8 := (Below.grown (w' := w8) (by ((with_reducible (repeat (first | assumption | exact Below.refl _ _ | refine bset ?_ (Nat.le_refl _) _ | refine balloc ?_ _ | refine bdrew ?_ | refine bdrewN ?_ _))); done)) hgrow8 (by (first | omega | (simp; done) | (simp; omega))) (fun k hk => by injection hk with hk; omega)); have hy9 : w.heap.size + 1 + 1 < w8.heap.size + 1 := (by have := hgrow8.size; (try simp at this); omega); have hy8 : w.heap.size < w8.heap.size := (by omega); have hy7 : w.heap.size + 1 < w8.heap.size := (by omega); have qc0 : w8.cell? ⟨w.heap.size, 0, none⟩ = some (.slice none 0 0) := ((hgrow8.cell_far ⟨w.heap.size, 0, none⟩ (by (first | omega | (simp; done) | (simp; omega))) (by (first | omega | (simp; done) | (simp; omega)))).trans (by go_simp)); have qc1 : w8.cell? ⟨w.heap.size, 1, none⟩ = some (.slice none 0 0) := ((hgrow8.cell_far ⟨w.heap.size, 1, none⟩ (by (first | omega | (simp; done) | (simp; omega))) (by (first | omega | (simp; done) | (simp; omega)))).trans (by go_simp)); have qf0 : w8.frozen? ⟨w.heap.size, 0, none⟩ = false := ((hgrow8.frozen_far ⟨w.heap.size, 0, none⟩ (by (first | omega | (simp; done) | (simp; omega))) (by (first | omega | (simp; done) | (simp; omega)))).trans (by go_simp)); have qf1 : w8.frozen? ⟨w.heap.size, 1, none⟩ = false := ((hgrow8.frozen_far ⟨w.heap.size, 1, none⟩ (by (first | omega | (simp; done) | (simp; omega))) (by (first | omega | (simp; done) | (simp; omega)))).trans (by go_simp)))
    | ((refine app_nums rfl _ _ rfl (w.heap.size + 1) (w9.heap.size) g 33 m.M 256 256 hm rfl rfl ?_ ?_ ?_ ?_ ?_ ?_ ?_); (next => first | (refine heap_new_at _ _ _ ?_; (first | omega | (simp; done) | (simp; omega))) | (refine (alloc_old _ _ ?_).trans (heap_new_at _ _ _ ?_) <;> (first | omega | (simp; done) | (simp; omega))) | (refine (hgrow9.block _ ?_ ?_).trans (heap_new_at _ _ _ ?_) <;> (first | omega | (simp; done) | (simp; omega))) | (refine (hgrow9.block _ ?_ ?_).trans ((alloc_old _ _ ?_).trans (heap_new_at _ _ _ ?_)) <;> (first | omega | (simp; done) | (simp; omega)))); (next => omega); (next => (first | omega | (simp; done) | (simp; omega))); (next => omega); (next => omega); (next => exact fun j u hu => cell_keep (HM.out j u hu) (by ((with_reducible (repeat (first | assumption | exact Below.refl _ _ | refine bset ?_ (Nat.le_refl _) _ | refine balloc ?_ _ | refine bdrew ?_ | refine bdrewN ?_ _))); done))); intro g33 d33 w8 hnn33 hgb33 hlt33 hat33 hgrow8; have B8 : Below w.heap.size w w8 := (Below.grown (w' := w8) (by ((with_reducible (repeat (first | assumption | exact Below.refl _ _ | refine bset ?_ (Nat.le_refl _) _ | refine balloc ?_ _ | refine bdrew ?_ | refine bdrewN ?_ _))); done)) hgrow8 (by (first | omega | (simp; done) | (simp; omega))) (fun k hk => by injection hk with hk; omega)); have hy9 : w.heap.size + 1 + 1 < w8.heap.size + 1 := (by have := hgrow8.size; (try simp at this); omega); have hy8 : w.heap.size < w8.heap.size := (by omega); have hy7 : w.heap.size + 1 < w8.heap.size := (by omega); have qc0 : w8.cell? ⟨w.heap.size, 0, none⟩ = some (.slice none 0 0) := ((hgrow8.cell_far ⟨w.heap.size, 0, none⟩ (by (first | omega | (simp; done) | (simp; omega))) (by (first | omega | (simp; done) | (simp; omega)))).trans (by go_simp)); have qc1 : w8.cell? ⟨w.heap.size, 1, none⟩ = some (.slice none 0 0) := ((hgrow8.cell_far ⟨w.heap.size, 1, none⟩ (by (first | omega | (simp; done) | (simp; omega))) (by (first | omega | (simp; done) | (simp; omega)))).trans (by go_simp)); have qf0 : w8.frozen? ⟨w.heap.size, 0, none⟩ = false := ((hgrow8.frozen_far ⟨w.heap.size, 0, none⟩ (by (first | omega | (simp; done) | (simp; omega))) (by (first | omega | (simp; done) | (simp; omega)))).trans (by go_simp)); have qf1 : w8.frozen? ⟨w.heap.size, 1, none⟩ = false := ((hgrow8.frozen_far ⟨w.heap.size, 1, none⟩ (by (first | omega | (simp; done) | (simp; omega))) (by (first | omega | (simp; done) | (simp; omega)))).trans (by go_simp))))
  all_goals
    have hg1 : w8.heap[g1]? = w9.heap[g1]? := by
      simp at hat1
      first
        | (refine (hgrow8.block g1 ?_ ?_) <;> (first | omega | (simp; done) | (simp; omega)))
        | (refine (hgrow8.block g1 ?_ ?_).trans (alloc_old _ _ ?_) <;> (first | omega | (simp; done) | (simp; omega)))
    have N1 := hid (nums_same_block (w' := w8) hnn1 (fun a ha => by injection ha with ha; subst ha; exact hg1))
    have hs8 : w9.heap.size ≤ w8.heap.size := by have := hgrow8.size; (try simp at this); omega
    have N2 := hid hnn33
    clear hnn1 hnn33 hat1 hat33 hgrow9 hgrow8 hg1 HR HM rc0 rc1 rf0 rf1
    go_wp2
    refine bodyPost_ret (v := .agg #[.slice (some ⟨g1, 0, none⟩) 32 d1, .slice (some ⟨g33, 0, none⟩) 256 d33]) (by simp [results, Try.results63, go_sem, qc0, qc1]) rfl ?_
    refine ⟨some ⟨g1, 0, none⟩, some ⟨g33, 0, none⟩, d1, d33, by rw [hr, hm], ?_, ⟨?_, ?_⟩, ⟨?_, ?_⟩⟩
    · exact (B8.setCell (p := ⟨w.heap.size, 0, none⟩) (Nat.le_refl _) _).setCell (p := ⟨w.heap.size, 1, none⟩) (Nat.le_refl _) _
    · exact nums_same_block N1.out fun a ha => by injection ha with ha; subst ha; exact (heap_setCell_other _ _ _ _ (by show g1 ≠ w.heap.size; omega)).trans (heap_setCell_other _ _ _ _ (by show g1 ≠ w.heap.size; omega))
    · intro a ha
      injection ha with ha
      subst ha
      exact ⟨by show w.heap.size ≤ g1; omega, by simp; omega⟩
    · exact nums_same_block N2.out fun a ha => by injection ha with ha; subst ha; exact (heap_setCell_other _ _ _ _ (by show g33 ≠ w.heap.size; omega)).trans (heap_setCell_other _ _ _ _ (by show g33 ≠ w.heap.size; omega))
    · intro a ha
      injection ha with ha
      subst ha
      exact ⟨by show w.heap.size ≤ g33; omega, by simp; omega⟩
end
/- A list of numbers is appended to an empty row of the call's own, whatever it is. -/
section
open Go.RowKit
/-- A slice value that reads as these numbers. -/
def ListV (w : World) (X : Value) (l : List Int) : Prop :=
  (X = .slice none 0 0 ∧ l = []) ∨ ∃ q off c, X = .slice (some ⟨q, off, none⟩) l.length c ∧ ∀ j u, (l.map (Value.int .i64))[j]? = some u → w.cell? ⟨q, off + j, none⟩ = some u
theorem ListV.keep {w w' : World} {X : Value} {l : List Int} (h : ListV w X l) (hb : Below w.heap.size w w') : ListV w' X l := by
  rcases h with h | ⟨q, off, c, hX, hc⟩
  · exact .inl h
  · exact .inr ⟨q, off, c, hX, fun j u hu => cell_keep (hc j u hu) hb⟩
set_option maxHeartbeats 4000000 in
set_option maxRecDepth 100000 in
theorem app_list {ops : Array Oper} {o : Oper} {a : Act} {w : World} {K : Act → World → Prop} {Q : Exit → Act → World → Prop} {E : Prop} (hgd : o.guard = none) (s x : Operand)
    (ho : o.op = .call { callee := .builtin .append, args := #[s, x], argTypes := #[42, 42] }) (base : Nat) (k : Nat) (l : List Int) (X : Value)
    (hs : a.eval s = .slice (some ⟨k, 0, none⟩) 0 0) (hx : a.eval x = X) (hX : ListV w X l) (he : w.heap[k]? = some (.cells #[] 2 (0, 0))) (hk : base ≤ k) (hw : base ≤ w.heap.size) (hm : l.length ≤ 10000000000000)
    (h : ∀ g c w', NumsIn w' (some ⟨g, 0, none⟩) l → base ≤ g → g < w'.heap.size → (k = g ∨ g = w.heap.size) → Below base w w' → (∀ b o, b < w.heap.size → b ≠ k → w'.cell? ⟨b, o, none⟩ = w.cell? ⟨b, o, none⟩) →
      (∀ b o, b < w.heap.size → b ≠ k → w'.frozen? ⟨b, o, none⟩ = w.frozen? ⟨b, o, none⟩) → w.heap.size ≤ w'.heap.size → K (a.put o.dst (.slice (some ⟨g, 0, none⟩) l.length c)) w') :
    if Region.wanted o (yielded ops a.tmps) = true then Oper.wp Try.prog o a w K Q else E := by
  rcases hX with ⟨rfl, rfl⟩ | ⟨q, off, c, rfl, hn⟩
  · refine app_nothing hgd s x ho base k hs hx he hk ?_
    exact h k 0 w (fun hne => absurd rfl hne) hk (Array.getElem?_eq_some_iff.1 he).1 (.inl rfl) (Below.refl _ _) (fun _ _ _ _ => rfl) (fun _ _ _ _ => rfl) (Nat.le_refl _)
  · have hwd : Region.wanted o (yielded ops a.tmps) = true := by simp [Region.wanted, hgd]
    rw [if_pos hwd]
    obtain ⟨ii, z, hi, hz, h1, h8, hz1⟩ := int_info
    obtain ⟨v', w', hr, h2, h3, h4, h5⟩ := run_append_own_at (P := Try.prog) w base 42 o.type 2 ii z 1 8 Try.underlying42 hi hz h1 h8 hz1 (by omega) (.slice (some ⟨k, 0, none⟩) 0 0) 0 [] (own_empty he hk) ⟨q, off, none⟩ l.length c (l.map (Value.int .i64)) (by simp) (fun j u hu => by rw [addr_add]; exact hn j u hu) (ints_one l) (by unfold maxLen; omega) (by omega) hw
    have hform : ∃ g c', v' = .slice (some ⟨g, 0, none⟩) l.length c' := by
      rcases h2.2 with ⟨hv, _⟩ | ⟨g, cap, cur, hv, _⟩
      · have := (h4.1 hv).1
        cases this
      · rw [Nat.zero_add] at hv
        exact ⟨g, cap, hv⟩
    obtain ⟨g, c', rfl⟩ := hform
    rw [Nat.zero_add, List.nil_append] at h2
    unfold Oper.wp execOp
    simp only [ho, resolve, invoke, builtin, Sem.run_bind, Sem.run_pure, Result.andThen_ok, List.map_toArray, List.map_cons, List.map_nil, hs, hx, hr]
    have hne : ∀ b : Nat, b ≠ k → some b ≠ Value.ownBlock (.slice (some ⟨k, 0, none⟩) 0 0) := fun b hb e => by
      injection e with e
      exact hb e
    refine h g c' w' (nums_own h2 rfl) (own_ge h2 g rfl).1 (own_ge h2 g rfl).2 ?_ ?_ (fun b o hb hbk => h3.cell_far ⟨b, o, none⟩ hb (hne b hbk)) (fun b o hb hbk => h3.frozen_far ⟨b, o, none⟩ hb (hne b hbk)) h3.size
    · rcases h5 with e | e
      · exact .inl (by injection e with e; exact e.symm)
      · exact .inr (by injection e)
    · exact ⟨h3.os, h3.tape, h3.output, h3.size, fun b hb => h3.block b (by omega) (hne b (by omega))⟩
set_option maxHeartbeats 4000000 in
set_option maxRecDepth 100000 in
theorem app_nil {ops : Array Oper} {o : Oper} {a : Act} {w : World} {K : Act → World → Prop} {Q : Exit → Act → World → Prop} {E : Prop} (hgd : o.guard = none) (s x : Operand)
    (ho : o.op = .call { callee := .builtin .append, args := #[s, x], argTypes := #[42, 42] }) (q off : Nat) (l : List Int) (n c : Nat) (hln : l.length = n)
    (hs : a.eval s = .slice none 0 0) (hx : a.eval x = .slice (some ⟨q, off, none⟩) n c) (hl : 0 < l.length) (hm : l.length ≤ 10000000000000)
    (hn : ∀ j u, (l.map (Value.int .i64))[j]? = some u → w.cell? ⟨q, off + j, none⟩ = some u)
    (h : ∀ g c w', NumsIn w' (some ⟨g, 0, none⟩) l → w.heap.size ≤ g → g < w'.heap.size → Below w.heap.size w w' → K (a.put o.dst (.slice (some ⟨g, 0, none⟩) n c)) w') :
    if Region.wanted o (yielded ops a.tmps) = true then Oper.wp Try.prog o a w K Q else E := by
  subst hln
  obtain ⟨ii, z, hi, hz, h1, h8, hz1⟩ := int_info
  refine step_append_lies w hgd s x 42 ho w.heap.size 2 ii z 1 8 Try.underlying42 hi hz h1 h8 hz1 (by omega) (.slice none 0 0) 0 [] hs (World.ownsRow_nil _ _ _ _) ⟨q, off, none⟩ l.length c (l.map (Value.int .i64)) hx (by simp) (fun j u hu => by rw [addr_add]; exact hn j u hu) (ints_one l) hl (by unfold maxLen; omega) (by omega) (Nat.le_refl _) _ rfl ?_
  intro g c' w' hown hg hat hlt
  rw [Nat.zero_add] at hown ⊢
  rw [List.nil_append] at hown
  exact h g c' w' (nums_own hown rfl) (own_ge hown g rfl).1 hlt ⟨hg.os, hg.tape, hg.output, hg.size, fun k hk => hg.block k hk (by intro e; cases e)⟩
end
end Go.Proofs.Ytcibkoodnfkogaa
