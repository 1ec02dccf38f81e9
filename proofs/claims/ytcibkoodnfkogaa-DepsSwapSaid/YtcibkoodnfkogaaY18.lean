/- A list of operations is appended to an empty row of the call's own. -/
import Derived.Test.YtcibkoodnfkogaaY17
import Derived.Laws.AppendOwnNone
import Derived.Maps.AppendAt
import Derived.Test.YtcibkoodnfkogaaY16
import Derived.Deep.AppendLies
namespace Go.Proofs.Ytcibkoodnfkogaa
open Go.RowKit
set_option linter.unusedVariables false
set_option linter.unusedSimpArgs false
section
open Go.RowKit
theorem own_none {w : World} {base k sz : Nat} {T : TypeId} (h : w.heap[k]? = some (.cells #[] T (0, 0))) (hb : base ≤ k) : w.ownsRow base T sz (.slice (some ⟨k, 0, none⟩) 0 0) 0 [] :=
  ⟨by simp, .inr ⟨k, 0, #[], rfl, hb, h, Nat.le_refl _, Nat.zero_le _, by simp, by simp⟩⟩
set_option maxHeartbeats 4000000 in
set_option maxRecDepth 100000 in
theorem wpList_app_ops {ops : Array Oper} {rest : List Oper} {o : Oper} {a : Act} {w : World} {Q : Exit → Act → World → Prop} (hgd : o.guard = none) (s x : Operand)
    (ho : o.op = .call { callee := .builtin .append, args := #[s, x], argTypes := #[38, 38] }) (base k : Nat) (l : List Op) (A : Option Addr) (c : Nat)
    (hs : a.eval s = .slice (some ⟨k, 0, none⟩) 0 0) (hx : a.eval x = .slice A l.length c) (hA : OpsIn w A l) (hn : A = none → c = 0) (he : w.heap[k]? = some (.cells #[] 55 (0, 0))) (hk : base ≤ k) (hw : base ≤ w.heap.size) (hm : l.length ≤ 8000000000000)
    (h : ∀ g c' w', OpsIn w' (some ⟨g, 0, none⟩) l → l.length ≤ c' → base ≤ g → g < w'.heap.size → Below base w w' → (∀ b, b < w.heap.size → b ≠ k → w'.heap[b]? = w.heap[b]?) → (g = k ∨ g = w.heap.size) →
      wpList Try.prog ops Q rest (a.put o.dst (.slice (some ⟨g, 0, none⟩) l.length c')) w') : wpList Try.prog ops Q (o :: rest) a w := by
  obtain ⟨ii, z, hi, hz, h5, h16, hz5⟩ := op_info
  cases A with
  | none =>
    obtain rfl : c = 0 := hn rfl
    have hl0 : l = [] := by
      cases l with
      | nil => rfl
      | cons x l => obtain ⟨g, off, he, _⟩ := hA (by simp); cases he
    subst hl0
    refine wpList_append_own_none hgd s x 38 ho base 55 ii 5 Try.underlying38 hi (.slice (some ⟨k, 0, none⟩) 0 0) 0 [] hs (own_none he hk) hx ?_
    exact h k 0 w (fun hne => absurd rfl hne) (Nat.le_refl _) hk (Array.getElem?_eq_some_iff.1 he).1 (Below.refl _ _) (fun _ _ _ => rfl) (.inl rfl)
  | some ad =>
    refine wpList_plain hgd fun K hK => ?_
    have hnews : ∀ j u, (l.flatMap Op.cells)[j]? = some u → w.cell? (ad.add j) = some u := by
      intro j u hu
      by_cases hne : l = []
      · subst hne; simp at hu
      · obtain ⟨g, off, he, hx⟩ := hA hne
        injection he with he
        subst he
        exact OpsIn.flat hA j u hu
    obtain ⟨v', w', hr, h2, h3, h4, hat⟩ := run_append_own_at (P := Try.prog) w base 38 o.type 55 ii z 5 16 Try.underlying38 hi hz h5 h16 hz5 (by omega) (.slice (some ⟨k, 0, none⟩) 0 0) 0 [] (own_none he hk) ad l.length c (l.flatMap Op.cells) (flat_len l) hnews (flat_one l) (by unfold maxLen; omega) (by omega) hw
    have hform : ∃ g c', v' = .slice (some ⟨g, 0, none⟩) l.length c' ∧ l.length ≤ c' := by
      rcases h2.2 with ⟨hv, _⟩ | ⟨g, cap, cur, hv, _, _, hnc, _⟩
      · have := (h4.1 hv).1
        cases this
      · rw [Nat.zero_add] at hv hnc
        exact ⟨g, cap, hv, hnc⟩
    obtain ⟨g, c', rfl, hlc⟩ := hform
    rw [Nat.zero_add, List.nil_append] at h2
    have hne : ∀ b : Nat, b ≠ k → some b ≠ Value.ownBlock (.slice (some ⟨k, 0, none⟩) 0 0) := fun b hb e => by
      injection e with e
      exact hb e
    have hh := h g c' w' (own_ops h2 rfl) hlc (h2.lt g rfl).1 (h2.lt g rfl).2 ⟨h3.os, h3.tape, h3.output, h3.size, fun b hb => h3.block b (by omega) (hne b (by omega))⟩ (fun b hb hbk => h3.block b hb (hne b hbk)) (by
      rcases hat with e | e
      · exact .inl (by injection e)
      · exact .inr (by injection e))
    unfold Oper.wp execOp
    simp only [ho, resolve, invoke, builtin, Sem.run_bind, Sem.run_pure, Result.andThen_ok, List.map_toArray, List.map_cons, List.map_nil, hs, hx, hr]
    exact hK _ _ hh
end
/- The machine in memory: one block of cells, its program and its prints beside it. -/
section
open Go.RowKit
/-- Block g holds n cells, the i-th f i. -/
def FnAt (w : World) (g : Nat) (T : TypeId) (n : Nat) (f : Nat → Value) : Prop := w.heap[g]? = some (.cells ((List.range n).map f).toArray T (0, 0))
theorem FnAt.lt {w : World} {g : Nat} {T : TypeId} {n : Nat} {f : Nat → Value} (h : FnAt w g T n f) : g < w.heap.size := (Array.getElem?_eq_some_iff.1 h).1
theorem FnAt.cell {w : World} {g : Nat} {T : TypeId} {n : Nat} {f : Nat → Value} (h : FnAt w g T n f) (i : Nat) (hi : i < n) : w.cell? ⟨g, i, none⟩ = some (f i) := by
  rw [cell_of_row w g i _ _ _ h]
  simp [hi]
theorem FnAt.frozen {w : World} {g : Nat} {T : TypeId} {n : Nat} {f : Nat → Value} (h : FnAt w g T n f) (i : Nat) : w.frozen? ⟨g, i, none⟩ = false := frozen_of_row w g i _ T h
theorem FnAt.congr {w : World} {g : Nat} {T : TypeId} {n : Nat} {f f' : Nat → Value} (h : FnAt w g T n f) (hf : ∀ i, i < n → f i = f' i) : FnAt w g T n f' := by
  have : (List.range n).map f = (List.range n).map f' := List.map_congr_left fun i hi => hf i (by simpa using hi)
  unfold FnAt
  rw [← this]
  exact h
theorem fn_set (n : Nat) (f : Nat → Value) (j : Nat) (v : Value) : ((List.range n).map f).set j v = (List.range n).map fun i => if i = j then v else f i := by
  apply List.ext_getElem?
  intro i
  by_cases hi : i < n
  · by_cases hj : j = i
    · subst hj
      rw [List.getElem?_set_self (by simpa using hi)]
      simp [hi]
    · rw [List.getElem?_set_ne hj]
      simp [hi, Ne.symm hj]
  · rw [List.getElem?_eq_none (by simp; omega), List.getElem?_eq_none (by simp; omega)]
theorem FnAt.set {w : World} {g : Nat} {T : TypeId} {n : Nat} {f : Nat → Value} (h : FnAt w g T n f) (j : Nat) (v : Value) : FnAt (w.setCell ⟨g, j, none⟩ v) g T n fun i => if i = j then v else f i := by
  unfold FnAt
  rw [heap_setCell_same w g j _ T v h, List.setIfInBounds_toArray, fn_set]
theorem FnAt.other {w : World} {g : Nat} {T : TypeId} {n : Nat} {f : Nat → Value} (h : FnAt w g T n f) {a : Addr} (hne : g ≠ a.block) (v : Value) : FnAt (w.setCell a v) g T n f := by
  unfold FnAt
  rw [heap_setCell_other w a g v hne]
  exact h
theorem FnAt.same {w w' : World} {g : Nat} {T : TypeId} {n : Nat} {f : Nat → Value} (h : FnAt w g T n f) (hk : w'.heap[g]? = w.heap[g]?) : FnAt w' g T n f := hk.trans h
theorem FnAt.keep {w w' : World} {g : Nat} {T : TypeId} {n : Nat} {f : Nat → Value} (h : FnAt w g T n f) (hb : Below w.heap.size w w') : FnAt w' g T n f := h.same (hb.block g h.lt)
theorem FnAt.grow {w w' : World} {g : Nat} {T : TypeId} {n : Nat} {f : Nat → Value} {r : Option Nat} (h : FnAt w g T n f) (hb : w.grownBy w' r) (hne : some g ≠ r) : FnAt w' g T n f := h.same (hb.block g h.lt hne)
/-- Nothing but block g, the row r and new blocks is turned. -/
structure Trn (g : Nat) (r : Option Nat) (w w' : World) : Prop where
  os : w'.os = w.os
  tape : w'.tape = w.tape
  output : w'.output = w.output
  size : w.heap.size ≤ w'.heap.size
  block : ∀ k, k < w.heap.size → k ≠ g → some k ≠ r → w'.heap[k]? = w.heap[k]?
theorem Trn.refl (g : Nat) (r : Option Nat) (w : World) : Trn g r w w := ⟨rfl, rfl, rfl, Nat.le_refl _, fun _ _ _ _ => rfl⟩
theorem Trn.of_below {g : Nat} {r : Option Nat} {w w' : World} (h : Below w.heap.size w w') : Trn g r w w' := ⟨h.os, h.tape, h.output, h.size, fun k hk _ _ => h.block k hk⟩
theorem Trn.trans {g : Nat} {r r' : Option Nat} {w w' w'' : World} (h : Trn g r w w') (k : Trn g r' w' w'') (hr : r' = r ∨ ∃ b, r' = some b ∧ w.heap.size ≤ b) : Trn g r w w'' :=
  ⟨k.os.trans h.os, k.tape.trans h.tape, k.output.trans h.output, Nat.le_trans h.size k.size, fun i hi h1 h2 => by
    refine (k.block i (Nat.lt_of_lt_of_le hi h.size) h1 ?_).trans (h.block i hi h1 h2)
    rcases hr with rfl | ⟨b, rfl, hb⟩
    · exact h2
    · intro e
      injection e with e
      omega⟩
theorem Trn.set {g : Nat} {r : Option Nat} {w w' : World} (h : Trn g r w w') (i : Nat) (v : Value) : Trn g r w (w'.setCell ⟨g, i, none⟩ v) :=
  ⟨h.os, h.tape, h.output, by rw [World.size_setCell]; exact h.size, fun k hk h1 h2 => by
    rw [heap_setCell_other _ _ _ _ (by exact h1)]
    exact h.block k hk h1 h2⟩
theorem Trn.below {g : Nat} {r : Option Nat} {w w' w'' : World} (h : Trn g r w w') (hb : Below w'.heap.size w' w'') : Trn g r w w'' :=
  ⟨hb.os.trans h.os, hb.tape.trans h.tape, hb.output.trans h.output, Nat.le_trans h.size hb.size, fun k hk h1 h2 => (hb.block k (Nat.lt_of_lt_of_le hk h.size)).trans (h.block k hk h1 h2)⟩
theorem Trn.alloc {g : Nat} {r : Option Nat} {w w' : World} (h : Trn g r w w') (o : Obj) : Trn g r w (w'.alloc o) := h.below (balloc (Below.refl _ _) o)
theorem Trn.drew {g : Nat} {r : Option Nat} {w w' : World} (h : Trn g r w w') : Trn g r w w'.drew := ⟨h.os, h.tape, h.output, h.size, h.block⟩
theorem Trn.drewN {g : Nat} {r : Option Nat} {w w' : World} (h : Trn g r w w') (n : Nat) : Trn g r w (w'.drewN n) := ⟨h.os, h.tape, h.output, h.size, h.block⟩
theorem Trn.grown {g : Nat} {r : Option Nat} {w w' w'' : World} (h : Trn g r w w') (k : w'.grownBy w'' r) : Trn g r w w'' :=
  ⟨k.os.trans h.os, k.tape.trans h.tape, k.output.trans h.output, Nat.le_trans h.size k.size, fun i hi h1 h2 => (k.block i (Nat.lt_of_lt_of_le hi h.size) h2).trans (h.block i hi h1 h2)⟩
/-- The cells of a machine. -/
def mcell (P pv : Value) (m : Mc) (x : Nat → Value) (k : Nat) : Value :=
  if k = 0 then P else if k < 33 then .int .i64 (m.R[k - 1]?.getD 0) else if k < 289 then .int .i64 (m.M[k - 33]?.getD 0)
  else if k = 289 then .int .i64 m.blk else if k = 290 then .bool m.body else if k = 291 then .int .i64 m.pos else if k = 292 then .int .i64 m.rounds else if k = 293 then .int .i64 m.steps
  else if k = 294 then pv else if k = 295 then .bool m.over else if k = 296 then .int .i64 m.e else if k = 297 then .int .i64 m.val else x k
section
variable {w : World} {g : Nat} {T : TypeId} {n : Nat} {P pv : Value} {m : Mc} {x : Nat → Value}
theorem mcR (h : FnAt w g T n (mcell P pv m x)) (hn : 298 ≤ n) (i : Nat) (hi : i < 32) : w.cell? ⟨g, 1 + i, none⟩ = some (.int .i64 (m.R[i]?.getD 0)) := by
  rw [h.cell (1 + i) (by omega)]
  unfold mcell
  rw [if_neg (by omega), if_pos (by omega), Nat.add_sub_cancel_left]
theorem mcM (h : FnAt w g T n (mcell P pv m x)) (hn : 298 ≤ n) (i : Nat) (hi : i < 256) : w.cell? ⟨g, 33 + i, none⟩ = some (.int .i64 (m.M[i]?.getD 0)) := by
  rw [h.cell (33 + i) (by omega)]
  unfold mcell
  rw [if_neg (by omega), if_neg (by omega), if_pos (by omega), Nat.add_sub_cancel_left]
end
section
variable (P pv : Value) (m : Mc) (xx : Nat → Value)
theorem mc_R (d : Nat) (x : Int) (hd : d < 32) (h32 : m.R.length = 32) (k : Nat) : (if k = 1 + d then Value.int .i64 x else mcell P pv m xx k) = mcell P pv { m with R := m.R.set d x } xx k := by
  unfold mcell
  by_cases h0 : k = 0
  · rw [if_neg (by omega), if_pos h0, if_pos h0]
  by_cases h33 : k < 33
  · simp only [h0, h33, if_false, if_true]
    by_cases h : k = 1 + d
    · subst h
      rw [if_pos rfl, Nat.add_sub_cancel_left, List.getElem?_set_self (by omega)]
      rfl
    · rw [if_neg h, List.getElem?_set_ne (by omega)]
  · rw [if_neg (by omega)]
    simp only [h0, h33, if_false]
theorem mc_M (d : Nat) (x : Int) (hd : d < 256) (h : m.M.length = 256) (k : Nat) : (if k = 33 + d then Value.int .i64 x else mcell P pv m xx k) = mcell P pv { m with M := m.M.set d x } xx k := by
  unfold mcell
  by_cases h0 : k < 33
  · rw [if_neg (by omega)]
    simp only [h0, if_true]
  by_cases h33 : k < 289
  · have h1 : ¬ k = 0 := by omega
    simp only [h1, h0, h33, if_false, if_true]
    by_cases h : k = 33 + d
    · subst h
      rw [if_pos rfl, Nat.add_sub_cancel_left, List.getElem?_set_self (by omega)]
      rfl
    · rw [if_neg h, List.getElem?_set_ne (by omega)]
  · rw [if_neg (by omega)]
    have h1 : ¬ k = 0 := by omega
    simp only [h1, h0, h33, if_false]
end
/-- A list's address lies in a block of S. -/
def SpotS {α : Type} (S : Nat → Prop) (A : Option Addr) (l : List α) : Prop := l ≠ [] → ∀ a, A = some a → S a.block
theorem ops_same {w w' : World} {S : Nat → Prop} {A : Option Addr} {l : List Op} (h : OpsIn w A l) (hs : SpotS S A l) (hk : ∀ b, S b → w'.heap[b]? = w.heap[b]?) : OpsIn w' A l := fun hne => by
  obtain ⟨g, o, rfl, hx⟩ := h hne
  have hg := hk g (hs hne _ rfl)
  have hc : ∀ k, w'.cell? ⟨g, k, none⟩ = w.cell? ⟨g, k, none⟩ := fun k => World.cell?_of_block hg
  refine ⟨g, o, rfl, fun i x hi => ?_⟩
  obtain ⟨c0, c1, c2, c3, c4⟩ := hx i x hi
  exact ⟨(hc _).trans c0, (hc _).trans c1, (hc _).trans c2, (hc _).trans c3, (hc _).trans c4⟩
/-- A block's cells in blocks of S. -/
def BlkS (S : Nat → Prop) (w : World) (g o : Nat) (b : Blk) : Prop :=
  ∃ (A : Option Addr) (c : Nat) (A2 : Option Addr) (c2 : Nat),
    w.cell? ⟨g, o, none⟩ = some (.slice A b.ops.length c) ∧ w.cell? ⟨g, o + 1, none⟩ = some (.int .i8 b.en) ∧ w.cell? ⟨g, o + 2, none⟩ = some (.int .u8 b.a) ∧
    w.cell? ⟨g, o + 3, none⟩ = some (.slice A2 b.body.length c2) ∧ w.cell? ⟨g, o + 4, none⟩ = some (.int .i64 b.th) ∧ w.cell? ⟨g, o + 5, none⟩ = some (.int .i64 b.el) ∧
    OpsIn w A b.ops ∧ OpsIn w A2 b.body ∧ b.ops.length ≤ c ∧ b.body.length ≤ c2 ∧ SpotS S A b.ops ∧ SpotS S A2 b.body
def BlksS (S : Nat → Prop) (w : World) (A : Option Addr) (l : List Blk) : Prop :=
  l ≠ [] → ∃ g off, A = some ⟨g, off, none⟩ ∧ S g ∧ ∀ i b, l[i]? = some b → BlkS S w g (off + i * 6) b
theorem BlksS.same {S : Nat → Prop} {w w' : World} {A : Option Addr} {l : List Blk} (h : BlksS S w A l) (hk : ∀ b, S b → w'.heap[b]? = w.heap[b]?) : BlksS S w' A l := fun hne => by
  obtain ⟨g, o, ha, hs, hx⟩ := h hne
  have hc : ∀ k, w'.cell? ⟨g, k, none⟩ = w.cell? ⟨g, k, none⟩ := fun k => World.cell?_of_block (hk g hs)
  refine ⟨g, o, ha, hs, fun i b hi => ?_⟩
  obtain ⟨A, c, A2, c2, k0, k1, k2, k3, k4, k5, o1, o2, l1, l2, s1, s2⟩ := hx i b hi
  exact ⟨A, c, A2, c2, (hc _).trans k0, (hc _).trans k1, (hc _).trans k2, (hc _).trans k3, (hc _).trans k4, (hc _).trans k5, ops_same o1 s1 hk, ops_same o2 s2 hk, l1, l2, s1, s2⟩
theorem BlksS.get {S : Nat → Prop} {w : World} {A : Option Addr} {l : List Blk} (h : BlksS S w A l) (i : Nat) (hi : i < l.length) : ∃ g off, A = some ⟨g, off, none⟩ ∧ S g ∧ BlkS S w g (off + i * 6) l[i] := by
  obtain ⟨g, off, ha, hs, hx⟩ := h (by rintro rfl; simp at hi)
  exact ⟨g, off, ha, hs, hx i l[i] (List.getElem?_eq_getElem hi)⟩
/-- What came in lies below the size of the world. -/
theorem blks_old {w : World} {A : Option Addr} {l : List Blk} (h : BlksIn w A l) : BlksS (fun b => b < w.heap.size) w A l := fun hne => by
  obtain ⟨g, o, ha, hx⟩ := h hne
  have hop : ∀ {B : Option Addr} {k : List Op}, OpsIn w B k → SpotS (fun b => b < w.heap.size) B k := fun {B k} hB hk a he => by
    obtain ⟨g, o, e, hx⟩ := hB hk
    obtain rfl : a = ⟨g, o, none⟩ := Option.some.inj (he.symm.trans e)
    cases k with
    | nil => exact absurd rfl hk
    | cons x r => exact World.block_lt_of_cell? w _ (hx 0 x rfl).c0
  refine ⟨g, o, ha, ?_, fun i b hi => ?_⟩
  · cases l with
    | nil => exact absurd rfl hne
    | cons b r =>
      obtain ⟨B1, c1, B2, c2, k0, _⟩ := hx 0 b rfl
      exact World.block_lt_of_cell? w _ k0
  · obtain ⟨B1, c1, B2, c2, k0, k1, k2, k3, k4, k5, o1, o2, l1, l2, _, _⟩ := hx i b hi
    exact ⟨B1, c1, B2, c2, k0, k1, k2, k3, k4, k5, o1, o2, l1, l2, hop o1, hop o2⟩
/-- A machine in memory: its own block g, its program's list at A (in blocks of S), its prints pv from block B on. -/
structure Mach (w : World) (g : Nat) (T : TypeId) (n : Nat) (B : Nat) (S : Nat → Prop) (A : Option Addr) (l : List Blk) (cap : Nat) (I : TypeId) (pv : Value) (m : Mc) (x : Nat → Value) : Prop where
  cells : FnAt w g T n (mcell (.slice A l.length cap) pv m x)
  blks : BlksS S w A l
  own : w.ownsRow B I 1 pv m.prints.length (m.prints.map (Value.int .i64))
  sb : ∀ b, S b → b < B ∧ b ≠ g
  gB : g < B
  bw : B ≤ w.heap.size
  cl : l.length ≤ cap
  pn : m.prints = [] → pv = .slice none 0 0
theorem own_ge {w : World} {base : Nat} {e : TypeId} {size : Nat} {v : Value} {n : Nat} {xs : List Value} (h : w.ownsRow base e size v n xs) : ∀ k, v.ownBlock = some k → base ≤ k ∧ k < w.heap.size := h.lt
/-- The world behind, the machine with other cells. -/
theorem Mach.turn {w w' : World} {g : Nat} {T : TypeId} {n B : Nat} {S : Nat → Prop} {A : Option Addr} {l : List Blk} {cap : Nat} {I : TypeId} {pv pv' : Value} {m m' : Mc} {x x' : Nat → Value}
    (h : Mach w g T n B S A l cap I pv m x) (ht : Trn g pv.ownBlock w w') (hc : FnAt w' g T n (mcell (.slice A l.length cap) pv' m' x')) (ho : w'.ownsRow B I 1 pv' m'.prints.length (m'.prints.map (Value.int .i64))) (hn : m'.prints = [] → pv' = .slice none 0 0) :
    Mach w' g T n B S A l cap I pv' m' x' := by
  refine ⟨hc, h.blks.same fun b hb => ht.block b ?_ (h.sb b hb).2 ?_, ho, h.sb, h.gB, Nat.le_trans h.bw ht.size, h.cl, hn⟩
  · have := (h.sb b hb).1
    have := h.bw
    omega
  · intro e
    have := (own_ge h.own _ e.symm).1
    have := (h.sb b hb).1
    omega
/-- Another machine turns: this one stays. -/
theorem Mach.stay {w w' : World} {g : Nat} {T : TypeId} {n B : Nat} {S : Nat → Prop} {A : Option Addr} {l : List Blk} {cap : Nat} {I : TypeId} {pv : Value} {m : Mc} {x : Nat → Value} {g2 : Nat} {r : Option Nat}
    (h : Mach w g T n B S A l cap I pv m x) (ht : Trn g2 r w w') (hg : g ≠ g2) (hr : ∀ k, r = some k → B ≤ k ∧ pv.ownBlock ≠ some k) (hp : ∀ k, pv.ownBlock = some k → k ≠ g2) (hs : ∀ b, S b → b ≠ g2) :
    Mach w' g T n B S A l cap I pv m x := by
  have hb : ∀ k, k < B → k ≠ g2 → w'.heap[k]? = w.heap[k]? := fun k hk h1 => ht.block k (Nat.lt_of_lt_of_le hk h.bw) h1 fun e => by
    have := (hr k e.symm).1
    omega
  refine ⟨h.cells.same (hb g h.gB hg), h.blks.same fun b hb' => hb b (h.sb b hb').1 (hs b hb'), own_moved h.own fun b e => ht.block b (own_ge h.own b e).2 (hp b e) fun e2 => (hr b e2.symm).2 e, h.sb, h.gB, Nat.le_trans h.bw ht.size, h.cl, h.pn⟩
theorem Mach.below {w w' : World} {g : Nat} {T : TypeId} {n B : Nat} {S : Nat → Prop} {A : Option Addr} {l : List Blk} {cap : Nat} {I : TypeId} {pv : Value} {m : Mc} {x : Nat → Value}
    (h : Mach w g T n B S A l cap I pv m x) (ht : Below w.heap.size w w') : Mach w' g T n B S A l cap I pv m x :=
  ⟨h.cells.keep ht, h.blks.same fun b hb => ht.block b (Nat.lt_of_lt_of_le (h.sb b hb).1 h.bw), own_below h.own ht, h.sb, h.gB, Nat.le_trans h.bw ht.size, h.cl, h.pn⟩
/-- The base of the prints' row may be raised while nothing was printed. -/
theorem Mach.raise {w : World} {g : Nat} {T : TypeId} {n B : Nat} {S : Nat → Prop} {A : Option Addr} {l : List Blk} {cap : Nat} {I : TypeId} {m : Mc} {x : Nat → Value}
    (h : Mach w g T n B S A l cap I (.slice none 0 0) m x) {B' : Nat} (h1 : B ≤ B') (h2 : B' ≤ w.heap.size) : Mach w g T n B' S A l cap I (.slice none 0 0) m x := by
  have hz : m.prints.length = 0 := by
    rcases h.own.2 with ⟨_, h0⟩ | ⟨g, c, cur, hv, _⟩
    · exact h0
    · cases hv
  have hz2 : m.prints = [] := List.eq_nil_of_length_eq_zero hz
  refine ⟨h.cells, h.blks, ?_, fun b hb => ⟨Nat.lt_of_lt_of_le (h.sb b hb).1 h1, (h.sb b hb).2⟩, Nat.lt_of_lt_of_le h.gB h1, h2, h.cl, fun _ => rfl⟩
  rw [hz2]
  exact World.ownsRow_nil _ _ _ _
/-- The prints' row behind: the old one, or a new one. -/
def OwnNew (w : World) (r r' : Option Nat) : Prop := r' = r ∨ ∃ b, r' = some b ∧ w.heap.size ≤ b
theorem OwnNew.trans {w w' : World} {r r' r'' : Option Nat} (h : OwnNew w r r') (k : OwnNew w' r' r'') (hs : w.heap.size ≤ w'.heap.size) : OwnNew w r r'' := by
  rcases k with rfl | ⟨b, rfl, hb⟩
  · exact h
  · exact .inr ⟨b, rfl, by omega⟩
/-- From world w0 (the prints' row then r0) to world w: the machine, and that nothing but its own was turned. -/
structure Went (w0 : World) (r0 : Option Nat) (w : World) (g : Nat) (T : TypeId) (n B : Nat) (S : Nat → Prop) (A : Option Addr) (l : List Blk) (cap : Nat) (I : TypeId) (pv : Value) (m : Mc) (x : Nat → Value) : Prop where
  mach : Mach w g T n B S A l cap I pv m x
  trn : Trn g r0 w0 w
  own : OwnNew w0 r0 pv.ownBlock
section
variable {w0 w w' : World} {r0 : Option Nat} {g : Nat} {T : TypeId} {n B : Nat} {S : Nat → Prop} {A : Option Addr} {l : List Blk} {cap : Nat} {I : TypeId} {pv pv' : Value} {m m' : Mc} {x x' : Nat → Value}
theorem Mach.went (h : Mach w g T n B S A l cap I pv m x) : Went w pv.ownBlock w g T n B S A l cap I pv m x := ⟨h, Trn.refl _ _ _, .inl rfl⟩
theorem Went.below (h : Went w0 r0 w g T n B S A l cap I pv m x) (hb : Below w.heap.size w w') : Went w0 r0 w' g T n B S A l cap I pv m x := ⟨h.mach.below hb, h.trn.below hb, h.own⟩
theorem Went.alloc (h : Went w0 r0 w g T n B S A l cap I pv m x) (o : Obj) : Went w0 r0 (w.alloc o) g T n B S A l cap I pv m x := h.below (balloc (Below.refl _ _) o)
theorem Went.drew (h : Went w0 r0 w g T n B S A l cap I pv m x) : Went w0 r0 w.drew g T n B S A l cap I pv m x := h.below (bdrew (Below.refl _ _))
theorem Went.drewN (h : Went w0 r0 w g T n B S A l cap I pv m x) (k : Nat) : Went w0 r0 (w.drewN k) g T n B S A l cap I pv m x := h.below (bdrewN (Below.refl _ _) k)
/-- A cell of a new block is written. -/
theorem Went.aside (h : Went w0 r0 w g T n B S A l cap I pv m x) (a : Addr) (v : Value) (hg : a.block ≠ g) (hB : B ≤ a.block) (hp : ∀ k, pv.ownBlock = some k → k ≠ a.block) (hs : w0.heap.size ≤ a.block) : Went w0 r0 (w.setCell a v) g T n B S A l cap I pv m x := by
  have hk : ∀ k, k ≠ a.block → (w.setCell a v).heap[k]? = w.heap[k]? := fun k hk => heap_setCell_other _ _ _ _ hk
  refine ⟨⟨h.mach.cells.same (hk g (Ne.symm hg)), h.mach.blks.same fun b hb => hk b (by have := (h.mach.sb b hb).1; omega), own_moved h.mach.own fun b e => hk b (hp b e), h.mach.sb, h.mach.gB, by rw [World.size_setCell]; exact h.mach.bw, h.mach.cl, h.mach.pn⟩, ?_, h.own⟩
  exact ⟨h.trn.os, h.trn.tape, h.trn.output, by rw [World.size_setCell]; exact h.trn.size, fun k hk' h1 h2 => (hk k (by omega)).trans (h.trn.block k hk' h1 h2)⟩
/-- A cell of the machine is written. -/
theorem Went.set (h : Went w0 r0 w g T n B S A l cap I pv m x) (j : Nat) (v : Value) (hc : ∀ k, k < n → (if k = j then v else mcell (.slice A l.length cap) pv m x k) = mcell (.slice A l.length cap) pv m' x' k) (hpr : m'.prints = m.prints) :
    Went w0 r0 (w.setCell ⟨g, j, none⟩ v) g T n B S A l cap I pv m' x' := by
  have ht : Trn g pv.ownBlock w (w.setCell ⟨g, j, none⟩ v) := (Trn.refl _ _ _).set j v
  refine ⟨h.mach.turn ht ((h.mach.cells.set j v).congr hc) ?_ (fun e => h.mach.pn (by rw [← hpr]; exact e)), h.trn.set j v, h.own⟩
  rw [hpr]
  exact ownsRow_setCell_below h.mach.own h.mach.gB v
theorem Went.congr (h : Went w0 r0 w g T n B S A l cap I pv m x) (he : m = m') : Went w0 r0 w g T n B S A l cap I pv m' x := he ▸ h
theorem Went.trans {w1 w2 : World} {pv1 pv2 : Value} {m1 m2 : Mc} (h : Went w0 r0 w1 g T n B S A l cap I pv1 m1 x) (k : Went w1 pv1.ownBlock w2 g T n B S A l cap I pv2 m2 x') : Went w0 r0 w2 g T n B S A l cap I pv2 m2 x' :=
  ⟨k.mach, h.trn.trans k.trn h.own, h.own.trans k.own h.trn.size⟩
/-- A number was appended to the prints, the row behind it is stored. -/
theorem Went.app {w1 : World} {y : Int} {k c : Nat} (h : Went w0 r0 w g T n B S A l cap I pv m x) (hn : 298 ≤ n) (hw : w1.ownsRow B I 1 (.slice (some ⟨k, 0, none⟩) (m.prints.length + 1) c) (m.prints.length + 1) (m.prints.map (Value.int .i64) ++ [.int .i64 y]))
    (hg : w.grownBy w1 pv.ownBlock) (hat : pv.ownBlock = some k ∨ w.heap.size ≤ k) (hm : m' = { m with prints := m.prints ++ [y] }) :
    Went w0 r0 (w1.setCell ⟨g, 294, none⟩ (.slice (some ⟨k, 0, none⟩) (m.prints.length + 1) c)) g T n B S A l cap I (.slice (some ⟨k, 0, none⟩) (m.prints.length + 1) c) m' x := by
  subst hm
  have hne : some g ≠ pv.ownBlock := fun e => by
    have := (own_ge h.mach.own g e.symm).1
    have := h.mach.gB
    omega
  have ht : Trn g pv.ownBlock w (w1.setCell ⟨g, 294, none⟩ (.slice (some ⟨k, 0, none⟩) (m.prints.length + 1) c)) := ((Trn.refl _ _ _).grown hg).set _ _
  have ho : OwnNew w pv.ownBlock (Value.ownBlock (.slice (some ⟨k, 0, none⟩) (m.prints.length + 1) c)) := by
    rcases hat with e | e
    · exact .inl e.symm
    · exact .inr ⟨k, rfl, e⟩
  refine ⟨h.mach.turn ht (((h.mach.cells.grow hg hne).set 294 _).congr fun i hi => ?_) ?_ (fun e => by simp at e), ?_, h.own.trans ho h.trn.size⟩
  · unfold mcell
    by_cases h4 : i = 294
    · subst h4; rfl
    · rw [if_neg h4]
      simp only [h4, if_false]
  · show World.ownsRow _ B I 1 _ (m.prints ++ [y]).length ((m.prints ++ [y]).map (Value.int .i64))
    rw [List.length_append, List.map_append]
    exact ownsRow_setCell_below hw h.mach.gB _
  · exact h.trn.trans ht h.own
end
end
end Go.Proofs.Ytcibkoodnfkogaa
