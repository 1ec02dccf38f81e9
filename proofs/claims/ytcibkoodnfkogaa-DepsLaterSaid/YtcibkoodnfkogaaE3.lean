/- Dependences: the document's pair. -/
import Derived.Test.YtcibkoodnfkogaaE2
import Derived.Laws.OwnMore
namespace Go.Proofs.Ytcibkoodnfkogaa
open Go.RowKit
set_option linter.unusedVariables false
set_option linter.unusedSimpArgs false
/-- The document's list while it is made: it lies behind w, behind the table's box. -/
structure RpAt (w wx : World) (t : List Int) (v : Value) (out : List Edge) : Prop where
  bel : Below w.heap.size w wx
  sz : w.heap.size < wx.heap.size
  ct : ∀ m, m < 13 → wx.cell? ⟨w.heap.size, m, none⟩ = some (.int .i64 (t[m]?.getD 0))
  own : wx.ownsRow (w.heap.size + 1) 99 5 v out.length (edgesV out)
  nl : out = [] → v = .slice none 0 0
theorem RpAt.keep {w wx wy : World} {t : List Int} {v : Value} {out : List Edge} (h : RpAt w wx t v out) (hb : Below wx.heap.size wx wy) : RpAt w wy t v out :=
  ⟨btrans h.bel hb, Nat.lt_of_lt_of_le h.sz hb.size, fun m hm => cell_keep (h.ct m hm) hb, own_below h.own hb, h.nl⟩
theorem RpAt.push {w wx w6 w7 : World} {t : List Int} {v v' : Value} {out es : List Edge} {n : Nat} (h : RpAt w wx t v out) (hb : Below wx.heap.size wx w6) (hg : w6.grownBy w7 v.ownBlock) (hn : n = (out ++ es).length) (he : es ≠ [])
    (ho : w7.ownsRow (w.heap.size + 1) 99 5 v' n (edgesV out ++ edgesV es)) : RpAt w w7 t v' (out ++ es) := by
  have hlt : ∀ k, v.ownBlock = some k → w.heap.size + 1 ≤ k := fun k hk => (h.own.lt k hk).1
  subst hn
  refine ⟨(btrans h.bel hb).grown hg (Nat.le_trans h.bel.size hb.size) (fun k hk => by have := hlt k hk; omega), Nat.lt_of_lt_of_le h.sz (Nat.le_trans hb.size hg.size), fun m hm => ?_, by rw [edgesV_app]; exact ho, fun h0 => absurd (List.append_eq_nil_iff.1 h0).2 he⟩
  exact hg.cell (cell_keep (h.ct m hm) hb) (fun e => by have := hlt w.heap.size e.symm; omega)
/-- A list of dependences is answered. -/
def EdgeL (l : List Edge) (w : World) (e : Ending) (w' : World) : Prop :=
  ∃ (A : Option Addr) (c : Nat), e = .returned (.slice A l.length c) ∧ l.length ≤ c ∧ (l = [] → A = none ∧ c = 0) ∧ EdgesIn w' A l ∧ Below w.heap.size w w'
theorem RpAt.done {w wx : World} {t : List Int} {v : Value} {out : List Edge} (h : RpAt w wx t v out) : EdgeL out w (.returned v) wx := by
  obtain ⟨A, c, rfl, hc, he⟩ := own_edges h.own
  exact ⟨A, c, rfl, hc, (fun h0 => by have := h.nl h0; injection this with h1 _ h3; exact ⟨h1, h3⟩), he, h.bel⟩
/-- The document's dependences of a pair. -/
def rmemE (t : List Int) (a b : Op) (i j ds : Int) (m : Bool) : List Edge := if m && (a.k == 16 || b.k == 16) then [⟨i, j, if a.k == 16 && b.k == 15 then t[(6 : Nat)]?.getD 0 else if a.k == 16 then 1 else 0, ds, 3⟩] else []
def rpairE (t : List Int) (a b : Op) (i j ds : Int) (m : Bool) : List Edge :=
  (if wrB b && seesB a (wrN b) then [Edge.mk i j 0 ds 1] else []) ++ ((if wrB b && hitB a (wrN b) then [Edge.mk i j (max 0 (latE t a - latE t b + 1)) ds 2] else []) ++ (rmemE t a b i j ds m ++ ordE a b i j ds))
theorem rpairE_eq {a b : Op} (hwb : b.wf) (hwa : a.wf) (t : List Int) (i j ds : Int) (m : Bool) (hm : m = true → b.k = 15 ∨ b.k = 16) : rpairE t a b i j ds m = pairE t a b i j ds m := by
  have hme : rmemE t a b i j ds m = memE t a b i j ds m := by
    unfold rmemE memE
    cases m with
    | false => rfl
    | true =>
      rcases hm rfl with h | h
      · rw [h]
        cases ha : (a.k == 16) <;> simp
      · rw [h]
        cases ha : (a.k == 16) <;> simp
  unfold rpairE pairE antiE outE
  rw [hme]
  cases h : wrB b with
  | false => rw [dN_no h]; rfl
  | true =>
    have hd := (d_bd hwb h).1
    rw [dN_yes h, wrN_d h, decide_eq_true hd]
    have e : hitB a b.d = (dN a == b.d) := by
      unfold hitB
      cases ha : wrB a with
      | false => rw [dN_no ha, Bool.false_and, eq_comm, beq_eq_false_iff_ne]; omega
      | true => rw [dN_yes ha, wrN_d ha, Bool.true_and]
    rw [e]
theorem gb_below {w0 w w' : World} {r : Option Nat} (h : w0.grownBy w r) (hb : Below w.heap.size w w') : w0.grownBy w' r :=
  h.trans ⟨hb.os, hb.tape, hb.output, hb.size, fun k hk _ => hb.block k hk⟩
theorem gb_trans {w0 w w' : World} {r : Option Nat} (h : w0.grownBy w r) (k : w.grownBy w' r) : w0.grownBy w' r := h.trans k
theorem gb_refl (w : World) (r : Option Nat) : w.grownBy w r := ⟨rfl, rfl, rfl, Nat.le_refl _, fun _ _ _ => rfl⟩
/-- Nothing is appended, at a step of a region that draws its order. -/
theorem step_append_none {P : Program} {w : World} {ops : Array Oper} {o : Oper} {a : Act} {K : Act → World → Prop} {Q : Exit → Act → World → Prop} {E : Prop} (hgd : o.guard = none) (s x : Operand) (t : TypeId)
    (ho : o.op = .call { callee := .builtin .append, args := #[s, x], argTypes := #[t, t] })
    (base : Nat) (e : TypeId) (i : TypeInfo) (size : Nat) (ht : P.underlying t = some (.slice e)) (hi : P.info? e = some i)
    (v : Value) (n : Nat) (xs : List Value) (hs : a.eval s = v) (hown : w.ownsRow base e size v n xs) (hx : a.eval x = .slice none 0 0)
    (h : K (a.put o.dst v) w) : if Region.wanted o (yielded ops a.tmps) = true then Oper.wp P o a w K Q else E := by
  have hw : Region.wanted o (yielded ops a.tmps) = true := by simp [Region.wanted, hgd]
  rw [if_pos hw]
  have hrun := run_append_owned_none (P := P) (w := w) base t o.type e i size ht hi v n xs hown
  unfold Oper.wp
  simp [execOp, ho, resolve, invoke, builtin, hs, hx, hrun, Result.andThen]
  exact h
theorem edges_news {w : World} {g off : Nat} {l : List Edge} (hne : l ≠ []) (h : EdgesIn w (some ⟨g, off, none⟩) l) : ∀ j u, (edgesV l)[j]? = some u → w.cell? ((⟨g, off, none⟩ : Addr).add j) = some u := by
  obtain ⟨g', off', e, hx⟩ := h hne
  injection e with e
  injection e with e1 e2
  subst e1 e2
  intro j u hu
  have hj : j < l.length * 5 := by have := (List.getElem?_eq_some_iff.1 hu).1; rw [edgesV_len] at this; exact this
  have hjd : j / 5 < l.length := by omega
  have hjm : j % 5 < 5 := by omega
  have e2 : j = j / 5 * 5 + j % 5 := by omega
  rw [Addr.add_mid]
  rw [e2, edgesV_get l (j / 5) l[j / 5] (List.getElem?_eq_getElem hjd) (j % 5) hjm] at hu
  have := hx (j / 5) l[j / 5] (List.getElem?_eq_getElem hjd) (j % 5) u hu
  rw [show off + j = off + j / 5 * 5 + j % 5 by omega]
  exact this
theorem edges_one (l : List Edge) : ∀ u ∈ edgesV l, u.oneCell' = true := by
  intro u hu
  unfold edgesV at hu
  rw [List.mem_flatMap] at hu
  obtain ⟨x, _, hx⟩ := hu
  exact edge_one x u hx
end Go.Proofs.Ytcibkoodnfkogaa
