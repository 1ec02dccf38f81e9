/- newFinder: the list is read. -/
import Derived.Test.YtcibkoodnfkogaaY12
import Derived.Deep.RegionLaw
namespace Go.Proofs.Ytcibkoodnfkogaa
open Go.RowKit
set_option linter.unusedVariables false
set_option linter.unusedSimpArgs false
theorem u8s_info : ∃ i z, Try.prog.info? 187 = some i ∧ i.zero = some z ∧ i.size = 1 ∧ i.bytes = 24 ∧ z.cells.size = 1 := by
  have h : (Try.prog.info? 187).map (fun i => (i.zero.map (·.cells.size), i.size, i.bytes)) = some (some 1, 1, 24) := by kernel_rfl
  cases hi : Try.prog.info? 187 with
  | none => rw [hi] at h; cases h
  | some i =>
    rw [hi] at h
    cases hz : i.zero with
    | none => simp [hz] at h
    | some z =>
      simp [hz] at h
      exact ⟨i, z, rfl, hz, h.2.1, h.2.2, h.1⟩
theorem nint_info : ∃ i z, Try.prog.info? 3 = some i ∧ i.zero = some z ∧ i.size = 1 ∧ i.bytes = 8 ∧ z.cells.size = 1 := by
  have h : (Try.prog.info? 3).map (fun i => (i.zero.map (·.cells.size), i.size, i.bytes)) = some (some 1, 1, 8) := by kernel_rfl
  cases hi : Try.prog.info? 3 with
  | none => rw [hi] at h; cases h
  | some i =>
    rw [hi] at h
    cases hz : i.zero with
    | none => simp [hz] at h
    | some z =>
      simp [hz] at h
      exact ⟨i, z, rfl, hz, h.2.1, h.2.2, h.1⟩
theorem tab13 {t : List Int} (h : t.length = 13) : ∃ t0 t1 t2 t3 t4 t5 t6 t7 t8 t9 t10 t11 t12, t = [t0, t1, t2, t3, t4, t5, t6, t7, t8, t9, t10, t11, t12] := by
  match t, h with
  | [t0, t1, t2, t3, t4, t5, t6, t7, t8, t9, t10, t11, t12], _ => exact ⟨t0, t1, t2, t3, t4, t5, t6, t7, t8, t9, t10, t11, t12, rfl⟩
theorem own_row1 {w : World} {base : Nat} {e : TypeId} {v : Value} {n : Nat} {xs : List Value} (h : w.ownsRow base e 1 v n xs) : ∃ (A : Option Addr) (c : Nat), v = .slice A n c ∧ (0 < n → ∃ g, A = some ⟨g, 0, none⟩ ∧ base ≤ g ∧ g < w.heap.size ∧ ∀ k, k < n → w.cell? ⟨g, k, none⟩ = xs[k]?) := by
  rcases h.2 with ⟨he, h0⟩ | ⟨k, cap, cur, he, hbg, hk, hrest⟩
  · subst h0
    exact ⟨none, 0, he, fun h => absurd h (Nat.lt_irrefl _)⟩
  · subst he
    exact ⟨_, cap, rfl, fun _ => ⟨k, rfl, hbg, (Array.getElem?_eq_some_iff.1 hk).1, fun i hi => h.cellAt i (by omega)⟩⟩
/-- The registers that the operations read, a row each, in memory from block B on, none at r or r2. -/
def RdRows (w : World) (B : Nat) (r r2 : Option Nat) (l : List Op) (xs : List Value) : Prop :=
  ∀ (k : Nat) (o : Op), l[k]? = some o → ∃ (A : Option Addr) (c : Nat), xs[k]? = some (.slice A (rds o).length c) ∧ (rds o ≠ [] → ∃ g off, A = some ⟨g, off, none⟩ ∧ B ≤ g ∧ g < w.heap.size ∧ some g ≠ r ∧ some g ≠ r2 ∧ ∀ i x, (rds o)[i]? = some x → w.cell? ⟨g, off + i, none⟩ = some (.int .u8 x))
theorem RdRows.far {w w' : World} {B : Nat} {r r2 r' r2' : Option Nat} {l : List Op} {xs : List Value} (h : RdRows w B r r2 l xs) (hs : w.heap.size ≤ w'.heap.size)
    (hk : ∀ g off, B ≤ g → g < w.heap.size → some g ≠ r → some g ≠ r2 → w'.cell? ⟨g, off, none⟩ = w.cell? ⟨g, off, none⟩) (hr : ∀ g, g < w.heap.size → some g ≠ r → some g ≠ r2 → some g ≠ r' ∧ some g ≠ r2') : RdRows w' B r' r2' l xs := fun k o ho => by
  obtain ⟨A, c, hx, hc⟩ := h k o ho
  refine ⟨A, c, hx, fun hne => ?_⟩
  obtain ⟨g, off, ha, hb, hg, h1, h2, hi⟩ := hc hne
  obtain ⟨k1, k2⟩ := hr g hg h1 h2
  exact ⟨g, off, ha, hb, by omega, k1, k2, fun i x hx => (hk g _ hb hg h1 h2).trans (hi i x hx)⟩
theorem RdRows.snoc {w : World} {B : Nat} {r r2 : Option Nat} {l : List Op} {xs : List Value} {i : Nat} (hi : i < l.length) {A : Option Addr} {c : Nat} (h : RdRows w B r r2 (l.take i) xs) (hl : xs.length = i)
    (hrow : rds l[i] ≠ [] → ∃ g off, A = some ⟨g, off, none⟩ ∧ B ≤ g ∧ g < w.heap.size ∧ some g ≠ r ∧ some g ≠ r2 ∧ ∀ j x, (rds l[i])[j]? = some x → w.cell? ⟨g, off + j, none⟩ = some (.int .u8 x)) : RdRows w B r r2 (l.take (i + 1)) (xs ++ [.slice A (rds l[i]).length c]) := fun k o hk => by
  have hk1 : k < i + 1 := by have := (List.getElem?_eq_some_iff.1 hk).1; simp at this; omega
  by_cases h1 : k < i
  · obtain ⟨A', c', hx, hc⟩ := h k o (by rw [List.getElem?_take] at hk ⊢; simp only [hk1, if_true] at hk; simp only [h1, if_true]; exact hk)
    exact ⟨A', c', by rw [List.getElem?_append_left (by omega)]; exact hx, hc⟩
  · obtain rfl : k = i := by omega
    have hb : l[k] = o := by simpa [hi] using hk
    subst hb
    refine ⟨A, c, ?_, hrow⟩
    rw [List.getElem?_append_right (by omega), hl, Nat.sub_self]
    rfl
/-- What the first i operations write. -/
def dVals (l : List Op) (i : Nat) : List Value := (l.take i).map fun o => .int .i64 (dN o)
theorem dVals_len {l : List Op} {i : Nat} (hi : i ≤ l.length) : (dVals l i).length = i := by unfold dVals; rw [List.length_map, List.length_take]; omega
theorem dVals_push {l : List Op} {i : Nat} (hi : i < l.length) : dVals l i ++ [.int .i64 (dN l[i])] = dVals l (i + 1) := by
  unfold dVals
  rw [List.take_succ_eq_append_getElem hi, List.map_append]
  rfl
theorem dVals_set {l : List Op} {i : Nat} (hi : i < l.length) (y : Value) : (dVals l i ++ [y]).set i (.int .i64 (dN l[i])) = dVals l (i + 1) := by
  rw [← dVals_push hi, List.set_append_right _ _ (by rw [dVals_len (by omega)]; omega), dVals_len (by omega), Nat.sub_self]
  rfl
theorem wrN_yes {o : Op} (h : wrB o = true) : wrN o = o.d := by unfold wrN; rw [h]; rfl
/-- The finder while it is made: it lies behind w; i operations are read, of j it is known what they write. -/
structure NfAt (w wr : World) (A : Option Addr) (cap : Nat) (l : List Op) (t : List Int) (i j : Nat) (rv dv : Value) (xs ys : List Value) : Prop where
  bel : Below w.heap.size w wr
  sz : w.heap.size + 2 ≤ wr.heap.size
  c0 : wr.cell? ⟨w.heap.size + 1, 0, none⟩ = some (.slice A l.length cap)
  ct : ∀ k, k < 13 → wr.cell? ⟨w.heap.size + 1, 1 + k, none⟩ = some (.int .i64 (t[k]?.getD 0))
  c14 : wr.cell? ⟨w.heap.size + 1, 14, none⟩ = some rv
  c15 : wr.cell? ⟨w.heap.size + 1, 15, none⟩ = some dv
  c16 : wr.cell? ⟨w.heap.size + 1, 16, none⟩ = some (.slice none 0 0)
  fz : ∀ k, wr.frozen? ⟨w.heap.size + 1, k, none⟩ = false
  orv : wr.ownsRow (w.heap.size + 2) 187 1 rv i xs
  odv : wr.ownsRow (w.heap.size + 2) 3 1 dv j ys
  ne : ∀ k, rv.ownBlock = some k → dv.ownBlock ≠ some k
  rows : RdRows wr (w.heap.size + 2) rv.ownBlock dv.ownBlock (l.take i) xs
theorem NfAt.keep {w wr wx : World} {A : Option Addr} {cap i j : Nat} {l : List Op} {t : List Int} {rv dv : Value} {xs ys : List Value} (h : NfAt w wr A cap l t i j rv dv xs ys) (hb : Below wr.heap.size wr wx) : NfAt w wx A cap l t i j rv dv xs ys := by
  have hsz := h.sz
  exact ⟨btrans h.bel hb, Nat.le_trans h.sz hb.size, cell_keep h.c0 hb, fun k hk => cell_keep (h.ct k hk) hb, cell_keep h.c14 hb, cell_keep h.c15 hb, cell_keep h.c16 hb, fun k => frozen_keep (h.fz k) (by show w.heap.size + 1 < _; omega) hb,
    own_below h.orv hb, own_below h.odv hb, h.ne, h.rows.far hb.size (fun g off _ hg _ _ => hb.cell (p := ⟨g, off, none⟩) hg) (fun _ _ h1 h2 => ⟨h1, h2⟩)⟩
/-- One of the two rows has grown, and its field holds it. -/
theorem NfAt.base {w wr w9 : World} {A : Option Addr} {cap i j : Nat} {l : List Op} {t : List Int} {rv dv : Value} {xs ys : List Value} (h : NfAt w wr A cap l t i j rv dv xs ys) {r : Option Nat} (hg : wr.grownBy w9 r) (hr : ∀ k, r = some k → w.heap.size + 2 ≤ k) (u : Nat) (v' : Value) :
    Below w.heap.size w (w9.setCell ⟨w.heap.size + 1, u, none⟩ v') ∧ w.heap.size + 2 ≤ (w9.setCell ⟨w.heap.size + 1, u, none⟩ v').heap.size ∧ wr.heap.size ≤ (w9.setCell ⟨w.heap.size + 1, u, none⟩ v').heap.size ∧
    (∀ k x, k ≠ u → wr.cell? ⟨w.heap.size + 1, k, none⟩ = some x → (w9.setCell ⟨w.heap.size + 1, u, none⟩ v').cell? ⟨w.heap.size + 1, k, none⟩ = some x) ∧
    (∀ x, wr.cell? ⟨w.heap.size + 1, u, none⟩ = some x → (w9.setCell ⟨w.heap.size + 1, u, none⟩ v').cell? ⟨w.heap.size + 1, u, none⟩ = some v') ∧
    (∀ k, (w9.setCell ⟨w.heap.size + 1, u, none⟩ v').frozen? ⟨w.heap.size + 1, k, none⟩ = false) ∧
    (∀ b, w.heap.size + 2 ≤ b → b < wr.heap.size → some b ≠ r → (w9.setCell ⟨w.heap.size + 1, u, none⟩ v').heap[b]? = wr.heap[b]?) := by
  have hsz := h.sz
  have hg1 : w.heap.size + 1 < wr.heap.size := by omega
  have hne : some (w.heap.size + 1) ≠ r := fun e => by have := hr _ e.symm; omega
  have hc : ∀ k, w9.cell? ⟨w.heap.size + 1, k, none⟩ = wr.cell? ⟨w.heap.size + 1, k, none⟩ := fun k => hg.cell_far _ hg1 hne
  refine ⟨(h.bel.grown hg (by omega) (fun k hk => by have := hr k hk; omega)).setCell (by show w.heap.size ≤ w.heap.size + 1; omega) _, ?_, ?_, fun k x hk hx => ?_, fun x hx => ?_, fun k => ?_, fun b hb hbw hbr => ?_⟩
  · rw [World.size_setCell]; exact Nat.le_trans hsz hg.size
  · rw [World.size_setCell]; exact hg.size
  · rw [World.cell?_setCell_other _ _ _ _ (by intro e; injection e with _ e2; exact hk e2.symm)]
    exact (hc k).trans hx
  · exact set_same ((hc u).trans hx)
  · exact set_frozen ((hg.frozen_far _ hg1 hne).trans (h.fz k))
  · rw [heap_setCell_other _ _ _ _ (by show b ≠ w.heap.size + 1; omega)]
    exact hg.block b hbw hbr
theorem own_moved {w w' : World} {base : Nat} {e : TypeId} {size : Nat} {v : Value} {n : Nat} {xs : List Value} (h : w.ownsRow base e size v n xs) (hk : ∀ b, v.ownBlock = some b → w'.heap[b]? = w.heap[b]?) : w'.ownsRow base e size v n xs := by
  refine ⟨h.1, ?_⟩
  rcases h.2 with hn | ⟨g, cap, cur, rfl, hbg, hg, rest⟩
  · exact .inl hn
  · exact .inr ⟨g, cap, cur, rfl, hbg, (hk g rfl).trans hg, rest⟩
theorem NfAt.rpush {w wr w9 : World} {A A2 : Option Addr} {cap i j c2 g3 d3 : Nat} {l : List Op} {t : List Int} {rv dv : Value} {xs ys : List Value} (h : NfAt w wr A cap l t i j rv dv xs ys) (hi : i < l.length) (hg : wr.grownBy w9 rv.ownBlock)
    (hu : rds l[i] ≠ [] → ∃ g off, A2 = some ⟨g, off, none⟩ ∧ w.heap.size + 2 ≤ g ∧ g < wr.heap.size ∧ some g ≠ rv.ownBlock ∧ some g ≠ dv.ownBlock ∧ ∀ j x, (rds l[i])[j]? = some x → wr.cell? ⟨g, off + j, none⟩ = some (.int .u8 x)) (hat : rv.ownBlock = some g3 ∨ g3 = wr.heap.size)
    (ho : w9.ownsRow (w.heap.size + 2) 187 1 (.slice (some ⟨g3, 0, none⟩) (i + 1) d3) (i + 1) (xs ++ [.slice A2 (rds l[i]).length c2])) :
    NfAt w (w9.setCell ⟨w.heap.size + 1, 14, none⟩ (.slice (some ⟨g3, 0, none⟩) (i + 1) d3)) A cap l t (i + 1) j (.slice (some ⟨g3, 0, none⟩) (i + 1) d3) dv (xs ++ [.slice A2 (rds l[i]).length c2]) ys := by
  obtain ⟨b1, b2, b3, b4, b5, b6, b7⟩ := h.base hg (fun k hk => (h.orv.lt k hk).1) 14 (.slice (some ⟨g3, 0, none⟩) (i + 1) d3)
  have hx : ∀ g off, w.heap.size + 2 ≤ g → g < wr.heap.size → some g ≠ rv.ownBlock → (w9.setCell ⟨w.heap.size + 1, 14, none⟩ (.slice (some ⟨g3, 0, none⟩) (i + 1) d3)).cell? ⟨g, off, none⟩ = wr.cell? ⟨g, off, none⟩ := fun g off h1 h2 h3 => by
    unfold World.cell?
    simp only [b7 g h1 h2 h3]
  have hfresh : ∀ g, g < wr.heap.size → some g ≠ rv.ownBlock → some g ≠ (Value.slice (some ⟨g3, 0, none⟩) (i + 1) d3).ownBlock := fun g hg h1 e => by
    injection e with e
    subst e
    rcases hat with h2 | h2
    · exact h1 h2.symm
    · omega
  refine ⟨b1, b2, b4 0 _ (by decide) h.c0, fun k hk => b4 _ _ (by omega) (h.ct k hk), b5 _ h.c14, b4 15 _ (by decide) h.c15, b4 16 _ (by decide) h.c16, b6, ownsRow_setCell_below ho (by show w.heap.size + 1 < _; omega) _, own_moved h.odv fun b hb => ?_, fun k hk hd => ?_, ?_⟩
  · obtain ⟨k1, k2⟩ := h.odv.lt b hb
    exact b7 b k1 k2 fun e => h.ne b e.symm hb
  · obtain ⟨k1, k2⟩ := h.odv.lt k hd
    exact hfresh k k2 (fun e => h.ne k e.symm hd) hk.symm
  · have hl : xs.length = i := by have := h.orv.1; omega
    refine ((h.rows.far b3 (fun g off h1 h2 h3 _ => hx g off h1 h2 h3) (fun g hg h1 h2 => ⟨hfresh g hg h1, h2⟩)).snoc hi hl fun hne => ?_)
    obtain ⟨g, off, ha, h1, h2, k1, k2, hcs⟩ := hu hne
    exact ⟨g, off, ha, h1, by omega, hfresh g h2 k1, k2, fun m x hm => (hx g _ h1 h2 k1).trans (hcs m x hm)⟩
theorem NfAt.dpush {w wr w9 : World} {A : Option Addr} {cap i j g3 d3 : Nat} {l : List Op} {t : List Int} {rv dv y : Value} {xs ys : List Value} (h : NfAt w wr A cap l t i j rv dv xs ys) (hg : wr.grownBy w9 dv.ownBlock) (hat : dv.ownBlock = some g3 ∨ g3 = wr.heap.size)
    (ho : w9.ownsRow (w.heap.size + 2) 3 1 (.slice (some ⟨g3, 0, none⟩) (j + 1) d3) (j + 1) (ys ++ [y])) :
    NfAt w (w9.setCell ⟨w.heap.size + 1, 15, none⟩ (.slice (some ⟨g3, 0, none⟩) (j + 1) d3)) A cap l t i (j + 1) rv (.slice (some ⟨g3, 0, none⟩) (j + 1) d3) xs (ys ++ [y]) := by
  obtain ⟨b1, b2, b3, b4, b5, b6, b7⟩ := h.base hg (fun k hk => (h.odv.lt k hk).1) 15 (.slice (some ⟨g3, 0, none⟩) (j + 1) d3)
  have hx : ∀ g off, w.heap.size + 2 ≤ g → g < wr.heap.size → some g ≠ dv.ownBlock → (w9.setCell ⟨w.heap.size + 1, 15, none⟩ (.slice (some ⟨g3, 0, none⟩) (j + 1) d3)).cell? ⟨g, off, none⟩ = wr.cell? ⟨g, off, none⟩ := fun g off h1 h2 h3 => by
    unfold World.cell?
    simp only [b7 g h1 h2 h3]
  have hfresh : ∀ g, g < wr.heap.size → some g ≠ dv.ownBlock → some g ≠ (Value.slice (some ⟨g3, 0, none⟩) (j + 1) d3).ownBlock := fun g hg h1 e => by
    injection e with e
    subst e
    rcases hat with h2 | h2
    · exact h1 h2.symm
    · omega
  refine ⟨b1, b2, b4 0 _ (by decide) h.c0, fun k hk => b4 _ _ (by omega) (h.ct k hk), b4 14 _ (by decide) h.c14, b5 _ h.c15, b4 16 _ (by decide) h.c16, b6, own_moved h.orv fun b hb => ?_, ownsRow_setCell_below ho (by show w.heap.size + 1 < _; omega) _, fun k hk hd => ?_, ?_⟩
  · obtain ⟨k1, k2⟩ := h.orv.lt b hb
    exact b7 b k1 k2 fun e => h.ne b hb e.symm
  · obtain ⟨k1, k2⟩ := h.orv.lt k hk
    exact hfresh k k2 (fun e => h.ne k hk e.symm) hd.symm
  · exact h.rows.far b3 (fun g off h1 h2 _ h3 => hx g off h1 h2 h3) (fun g hg h1 h2 => ⟨h1, hfresh g hg h2⟩)
theorem NfAt.dset {w wr : World} {A : Option Addr} {cap i j g3 d3 : Nat} {l : List Op} {t : List Int} {rv : Value} {xs ys : List Value} (h : NfAt w wr A cap l t i j rv (.slice (some ⟨g3, 0, none⟩) j d3) xs ys) (k : Nat) (y : Value) :
    NfAt w (wr.setCell ⟨g3, k, none⟩ y) A cap l t i j rv (.slice (some ⟨g3, 0, none⟩) j d3) xs (ys.set k y) := by
  have hlt := (h.odv.lt g3 rfl)
  have hsz := h.sz
  have hc : ∀ b off, b ≠ g3 → (wr.setCell ⟨g3, k, none⟩ y).cell? ⟨b, off, none⟩ = wr.cell? ⟨b, off, none⟩ := fun b off hb => World.cell?_setCell_far _ _ _ _ (by show g3 ≠ b; omega)
  have hg : w.heap.size + 1 ≠ g3 := by omega
  refine ⟨h.bel.setCell (by show w.heap.size ≤ g3; omega) _, by rw [World.size_setCell]; exact h.sz, (hc _ _ hg).trans h.c0, fun m hm => (hc _ _ hg).trans (h.ct m hm), (hc _ _ hg).trans h.c14, (hc _ _ hg).trans h.c15, (hc _ _ hg).trans h.c16, fun m => set_frozen (h.fz m),
    own_moved h.orv fun b hb => heap_setCell_other _ _ _ _ (by show b ≠ g3; intro e; subst e; exact h.ne b hb rfl), (h.odv.stored k y).1, h.ne, h.rows.far (by rw [World.size_setCell]; exact Nat.le_refl _) (fun g off _ _ _ h2 => hc g off (fun e => h2 (congrArg some e))) (fun _ _ h1 h2 => ⟨h1, h2⟩)⟩
theorem NfAt.done {w wr : World} {A : Option Addr} {cap : Nat} {l : List Op} {t : List Int} {rv dv : Value} {xs : List Value} (h : NfAt w wr A cap l t l.length l.length rv dv xs (dVals l l.length)) : FindAt w wr wr.heap.size (w.heap.size + 1) A cap l t (.slice none 0 0) [] := by
  obtain ⟨Ar, cr, er, hr⟩ := own_row1 h.orv
  obtain ⟨Ad, cd, ed, hd⟩ := own_row1 h.odv
  have hsz := h.sz
  refine ⟨h.bel, by omega, by omega, Nat.le_refl _, h.c0, h.ct, ⟨Ar, cr, Ad, cd, by rw [h.c14, er], by rw [h.c15, ed], fun i o ho => ?_⟩, h.c16, h.fz 16, World.ownsRow_nil _ _ _ _⟩
  have hi := (List.getElem?_eq_some_iff.1 ho).1
  obtain ⟨gr, rfl, hr1, hr2, hr3⟩ := hr (by omega)
  obtain ⟨gd, rfl, hd1, hd2, hd3⟩ := hd (by omega)
  obtain ⟨Ai, ci, hx, hc⟩ := h.rows i o (by rw [List.take_length]; exact ho)
  refine ⟨⟨gr, Ai, ci, rfl, hr2, by omega, (hr3 i hi).trans hx, fun hne => ?_⟩, gd, rfl, hd2, by omega, ?_⟩
  · obtain ⟨g, off, ha, hb, hg, _, _, hcs⟩ := hc hne
    exact ⟨g, off, ha, hg, by omega, hcs⟩
  · rw [hd3 i hi, dVals, List.take_length, List.getElem?_map, ho]
    rfl
set_option maxHeartbeats 4000000 in
set_option maxRecDepth 100000 in
theorem new_any (A : Option Addr) (l : List Op) (cap : Nat) (t : List Int) (w : World) (HL : OpsIn w A l) (hwf : ∀ o ∈ l, o.wf) (hm : l.length ≤ 1024) (ht : t.length = 13) :
    Calls Try.prog 90 #[.slice A l.length cap, tabV t] w fun e w' => e = .returned (.pointer (some ⟨w.heap.size + 1, 0, none⟩)) ∧ FindAt w w' w'.heap.size (w.heap.size + 1) A cap l t (.slice none 0 0) [] := by
  have CR := hid (fun (w : World) (o : Op) (ho : o ∈ l) => rd_any o w (hwf o ho))
  have CW := hid (fun (w : World) (o : Op) (ho : o ∈ l) => writes_any o w (hwf o ho))
  have HL' := hid HL
  have HWF := hid hwf
  clear HL hwf
  obtain ⟨ui, uz, hui, huz, u1, u24, uz1⟩ := u8s_info
  obtain ⟨ii, iz, hii, hiz, i1, i8, iz1⟩ := nint_info
  have UI := hid hui
  have UZ := hid huz
  have U1 := hid u1
  have U24 := hid u24
  have UZ1 := hid uz1
  have UU := hid (Try.underlying144)
  have II := hid hii
  have IZ := hid hiz
  have I1 := hid i1
  have I8 := hid i8
  have IZ1 := hid iz1
  have IU := hid (Try.underlying50)
  clear hui huz u1 u24 uz1 hii hiz i1 i8 iz1
  obtain ⟨t0, t1, t2, t3, t4, t5, t6, t7, t8, t9, t10, t11, t12, rfl⟩ := tab13 ht
  show Calls _ _ #[.slice A l.length cap, .agg #[.int .i64 t0, .int .i64 t1, .int .i64 t2, .int .i64 t3, .int .i64 t4, .int .i64 t5, .int .i64 t6, .int .i64 t7, .int .i64 t8, .int .i64 t9, .int .i64 t10, .int .i64 t11, .int .i64 t12]] w _
  generalize ht2 : [t0, t1, t2, t3, t4, t5, t6, t7, t8, t9, t10, t11, t12] = t
  have HT := hid ht2
  clear ht ht2
  go_enter Try.func90, Try.ntmps90
  go_upto_region 2 with (fail)
  obtain ⟨W0, hW0⟩ : ∃ W0, W0 = (w.alloc (.cells #[.int .i64 t0, .int .i64 t1, .int .i64 t2, .int .i64 t3, .int .i64 t4, .int .i64 t5, .int .i64 t6, .int .i64 t7, .int .i64 t8, .int .i64 t9, .int .i64 t10, .int .i64 t11, .int .i64 t12] 28)).alloc (.cells #[.slice A l.length cap, .int .i64 t0, .int .i64 t1, .int .i64 t2, .int .i64 t3, .int .i64 t4, .int .i64 t5, .int .i64 t6, .int .i64 t7, .int .i64 t8, .int .i64 t9, .int .i64 t10, .int .i64 t11, .int .i64 t12, .slice none 0 0, .slice none 0 0, .slice none 0 0] 146) := ⟨_, rfl⟩
  have hrow : W0.heap[w.heap.size + 1]? = some (.cells #[.slice A l.length cap, .int .i64 t0, .int .i64 t1, .int .i64 t2, .int .i64 t3, .int .i64 t4, .int .i64 t5, .int .i64 t6, .int .i64 t7, .int .i64 t8, .int .i64 t9, .int .i64 t10, .int .i64 t11, .int .i64 t12, .slice none 0 0, .slice none 0 0, .slice none 0 0] 146) := by rw [hW0]; exact heap_alloc2_new _ _ _
  have N0 : Hid (NfAt w W0 A cap l t 0 0 (.slice none 0 0) (.slice none 0 0) [] []) := hid (by
    refine ⟨by rw [hW0]; ((with_reducible (repeat (first | assumption | exact Below.refl _ _ | refine bset ?_ (Nat.le_refl _) _ | refine balloc ?_ _ | refine bdrew ?_ | refine bdrewN ?_ _))); done), by rw [hW0]; simp, ?_, fun k hk => ?_, ?_, ?_, ?_, fun k => frozen_of_row _ _ _ _ _ hrow, World.ownsRow_nil _ _ _ _, World.ownsRow_nil _ _ _ _, (fun k h => by cases h), (fun k o h => by simp at h)⟩
    · rw [cell_of_row _ _ _ _ _ _ hrow]; rfl
    · rw [cell_of_row _ _ _ _ _ _ hrow, ← HT.out]
      rcases (by omega : k = 0 ∨ k = 1 ∨ k = 2 ∨ k = 3 ∨ k = 4 ∨ k = 5 ∨ k = 6 ∨ k = 7 ∨ k = 8 ∨ k = 9 ∨ k = 10 ∨ k = 11 ∨ k = 12) with rfl | rfl | rfl | rfl | rfl | rfl | rfl | rfl | rfl | rfl | rfl | rfl | rfl <;> rfl
    · rw [cell_of_row _ _ _ _ _ _ hrow]; rfl
    · rw [cell_of_row _ _ _ _ _ _ hrow]; rfl
    · rw [cell_of_row _ _ _ _ _ _ hrow]; rfl)
  rw [← hW0]
  clear hrow hW0 HT

  go_wp2
  go_loopg [15] l.length (fun gk v15 wr => ∃ i : Nat, i ≤ l.length ∧ v15 = .int .i64 i ∧ Hid (gk + i = l.length) ∧ Hid (∃ rv dv xs, NfAt w wr A cap l t i i rv dv xs (dVals l i)))
  case atStart => exact ⟨0, by omega, rfl, by exact Nat.add_zero _, hid ⟨_, _, _, N0.out⟩⟩
  case round =>
    obtain ⟨i, hi, rfl, hgk, HN⟩ := hrel
    obtain ⟨rv, dv, xs, HN⟩ := HN.out
    clear N0
    by_cases hlt : i < l.length
    · obtain ⟨go, off, rfl, hop⟩ := (HL'.out.keep HN.bel).get i hlt
      obtain ⟨p0, p1, p2, p3, p4⟩ := hop
      have MEM := hid (List.getElem_mem hlt)
      have z14 := HN.c14
      have f14 := HN.fz 14
      have hsz := HN.sz
      have hg1 : w.heap.size + 1 < wr.heap.size := by omega
      have N := hid HN
      have HNE : Hid (some (w.heap.size + 1) ≠ rv.ownBlock) := hid fun e => by have := (HN.orv.lt _ e.symm).1; omega
      clear HN
      go_upto_region 5 with (fail)
      go_cut [] (fun wx => Hid (∃ rv' xs', NfAt w wx (some ⟨go, off, none⟩) cap l t (i + 1) i rv' dv xs' (dVals l i)))
      case first =>
        go_region_law (first
          | ((refine step_append_lies _ (by rfl) _ _ _ (by rfl) (w.heap.size + 2) 187 ui uz 1 24 UU.out UI.out UZ.out U1.out U24.out UZ1.out (by omega) rv i xs (by rfl) (own_below N.out.orv (by ((with_reducible (repeat (first | assumption | exact Below.refl _ _ | refine bset ?_ (Nat.le_refl _) _ | refine balloc ?_ _ | refine bdrew ?_ | refine bdrewN ?_ _))); done))) ⟨w2.heap.size, 0, none⟩ 1 1 [.slice A2 (rds l[i]).length c2] (by rfl) (by rfl) (World.news_of_block (heap_new_at _ _ _ (by simp))) (by intro u hu; simp only [List.mem_cons, List.not_mem_nil, or_false] at hu; subst hu; rfl) (by omega) (by unfold maxLen; omega) (by omega) (by simp; omega) _ rfl ?_); intro g3 d3 w9 hown9 hgrow9 hat9 hlt9; have r9 := hgrow9.cell (cell_keep z14 (by ((with_reducible (repeat (first | assumption | exact Below.refl _ _ | refine bset ?_ (Nat.le_refl _) _ | refine balloc ?_ _ | refine bdrew ?_ | refine bdrewN ?_ _))); done))) HNE.out; have f9 := (hgrow9.frozen_far ⟨w.heap.size + 1, 14, none⟩ (by simp; omega) HNE.out).trans (frozen_keep f14 hg1 (by ((with_reducible (repeat (first | assumption | exact Below.refl _ _ | refine bset ?_ (Nat.le_refl _) _ | refine balloc ?_ _ | refine bdrew ?_ | refine bdrewN ?_ _))); done))))
          | (go_simp; (with_reducible refine (CR.out _ _ MEM.out).mono ?_); rintro e w2 ⟨A2, c2, rfl, hu, hb⟩; have BR : Below wr.heap.size wr w2 := btrans (a := wr) (bdrew (Below.refl _ _)) hb; have r14 := cell_keep z14 BR; have h14 := frozen_keep f14 hg1 BR; have hz2 : wr.heap.size ≤ w2.heap.size := BR.size; have hg2 : w.heap.size + 1 < w2.heap.size := (by omega)))
        all_goals
          have N9 : Hid (NfAt w (w9.setCell ⟨w.heap.size + 1, 14, none⟩ (.slice (some ⟨g3, 0, none⟩) (i + 1) d3)) (some ⟨go, off, none⟩) cap l t (i + 1) i (.slice (some ⟨g3, 0, none⟩) (i + 1) d3) dv (xs ++ [.slice A2 (rds l[i]).length c2]) (dVals l i)) := hid (by
            refine NfAt.rpush (N.out.keep ?_) hlt hgrow9 (fun hne => ?_) hat9 hown9
            · ((with_reducible (repeat (first | assumption | exact Below.refl _ _ | refine bset ?_ (Nat.le_refl _) _ | refine balloc ?_ _ | refine bdrew ?_ | refine bdrewN ?_ _))); done)
            · obtain ⟨g, off2, ha, k1, k2, hcs⟩ := U8At.keep hu (balloc (Below.refl _ _) (.cells #[.slice A2 (rds l[i]).length c2] 187)) hne
              have k3 : wr.heap.size ≤ g := k1
              exact ⟨g, off2, ha, by omega, k2, (fun e => by have := (N.out.orv.lt _ e.symm).2; omega), (fun e => by have := (N.out.odv.lt _ e.symm).2; omega), hcs⟩)
          clear hown9 hgrow9 hat9 hlt9 hu hb BR
          go_wp2
          go_meet
          case rel => exact hid ⟨_, _, N9.out⟩
      case rest =>
        obtain ⟨rv2, xs2, N2⟩ := hcut.out
        clear hcut z14 f14 p0 p1 p2 p3 p4 N HNE
        obtain ⟨go3, off3, e3, hop3⟩ := (HL'.out.keep N2.bel).get i hlt
        injection e3 with e3
        injection e3 with e4 e5
        subst e4 e5
        obtain ⟨p0, p1, p2, p3, p4⟩ := hop3
        have hsz2 := N2.sz
        have N3 := hid N2
        clear N2
        go_wp2_with fail
        with_reducible refine (CW.out _ _ MEM.out).mono ?_
        rintro e w3 ⟨rfl, hb⟩
        have N4 := hid (N3.out.keep hb)
        clear hb N3 p0 p1 p2 p3 p4
        have z15 := N4.out.c15
        have f15 := N4.out.fz 15
        have hsz3 := N4.out.sz
        have hg3 : w.heap.size + 1 < w3.heap.size := by omega
        have HNE : Hid (some (w.heap.size + 1) ≠ dv.ownBlock) := hid fun e => by have := (N4.out.odv.lt _ e.symm).1; omega
        clear hsz2 hsz
        go_upto_region 8 with (at_builtin; refine wpList_append_lies _ (by rfl) _ _ _ (by rfl) (w.heap.size + 2) 3 ii iz 1 8 IU.out II.out IZ.out I1.out I8.out IZ1.out (by omega) dv i (dVals l i) (by rfl) ?aown ⟨w3.heap.size, 0, none⟩ 1 1 [.int .i64 (-1)] (by rfl) (by rfl) ?anews ?aone (by omega) ?a63 ?abytes ?abase _ rfl ?_)
        case aown => exact own_below N4.out.odv (balloc (Below.refl _ _) _)
        case anews => exact World.news_of_block (heap_new_at _ _ _ (by simp))
        case aone => intro u hu; simp only [List.mem_cons, List.not_mem_nil, or_false] at hu; subst hu; rfl
        case a63 => unfold maxLen; omega
        case abytes => omega
        case abase => simp; omega
        intro g3 d3 w7 hown7 hgrow7 hat hlt7
        have r15 := hgrow7.cell (cell_keep z15 (balloc (Below.refl _ w3) (.cells #[.int .i64 (-1)] 3))) HNE.out
        have h15 := (hgrow7.frozen_far ⟨w.heap.size + 1, 15, none⟩ (by simp; omega) HNE.out).trans (frozen_keep f15 hg3 (balloc (Below.refl _ w3) (.cells #[.int .i64 (-1)] 3)))
        have N7 := hid (NfAt.dpush (N4.out.keep (balloc (Below.refl _ w3) (.cells #[.int .i64 (-1)] 3))) hgrow7 (by rw [World.size_alloc]; exact hat) hown7)
        have q15 : w7.cell? ⟨g3, i, none⟩ = some (.int .i64 (-1)) := by
          rw [hown7.cellAt i (by omega), List.getElem?_append_right (by rw [dVals_len (by omega)]; omega), dVals_len (by omega), Nat.sub_self]
          rfl
        have e15 := hown7.frozenAt i
        have hg37 := (hown7.lt g3 rfl).1
        have hg38 := (hown7.lt g3 rfl).2
        have hgn : w.heap.size + 1 ≠ g3 := by omega
        have WFI := hid (HWF.out l[i] (List.getElem_mem hlt))
        clear hown7 hgrow7 hat hlt7 z15 f15 N4
        cases hwb : wrB l[i] with
        | true =>
          have N8 := hid (N7.out.dset i (.int .i64 (dN l[i])))
          have hdn := dN_yes hwb
          have hwn := wrN_yes hwb
          have hd0 := WFI.out.d0
          have hd1 := WFI.out.d1
          rw [hdn] at N8
          rw [hwn]
          have DS : Hid ((dVals l i ++ [Value.int .i64 (-1)]).set i (.int .i64 l[i].d) = dVals l (i + 1)) := hid (by rw [← dVals_set hlt (Value.int .i64 (-1)), hdn])
          have N9 := N8.out
          rw [DS.out] at N9
          replace N8 := hid N9
          clear hdn hwn N7 N9 DS
          generalize l[i].d = d at *
          go_wp2
          go_roundg (l.length - (i + 1))
          case measure => have := hgk.out; omega
          case rel => exact ⟨i + 1, by omega, by go_num, by show _ + _ = _; omega, hid ⟨_, _, _, N8.out⟩⟩
        | false =>
          have DS : Hid (dVals l i ++ [.int .i64 (-1)] = dVals l (i + 1)) := hid (by rw [← dVals_push hlt, dN_no hwb])
          have N9 := N7.out
          rw [DS.out] at N9
          replace N7 := hid N9
          clear N9 DS
          go_wp2
          go_roundg (l.length - (i + 1))
          case measure => have := hgk.out; omega
          case rel => exact ⟨i + 1, by omega, by go_num, by show _ + _ = _; omega, hid ⟨_, _, _, N7.out⟩⟩
    · obtain rfl : i = l.length := by omega
      have hf := HN.done
      have HF := hid hf
      clear HN hf
      go_wp2
      go_ret
      exact ⟨rfl, HF.out⟩
end Go.Proofs.Ytcibkoodnfkogaa
