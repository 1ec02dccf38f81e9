/- The finder in memory. -/
import Derived.Test.YtcibkoodnfkogaaD1
import Derived.Test.YtcibkoodnfkogaaRd
import Derived.Test.YtcibkoodnfkogaaArr
namespace Go.Proofs.Ytcibkoodnfkogaa
open Go.RowKit
set_option linter.unusedVariables false
set_option linter.unusedSimpArgs false
def edgesV (l : List Edge) : List Value := l.flatMap Edge.cells
theorem edgesV_len (l : List Edge) : (edgesV l).length = l.length * 5 := by
  induction l with
  | nil => rfl
  | cons e l ih => unfold edgesV at *; rw [List.flatMap_cons, List.length_append, ih]; show 5 + _ = _; rw [List.length_cons]; omega
theorem edgesV_app (l k : List Edge) : edgesV (l ++ k) = edgesV l ++ edgesV k := by unfold edgesV; rw [List.flatMap_append]
/-- What was read of operation i: its registers and the one that it writes. -/
structure ReadAt (w : World) (B g : Nat) (Ar Ad : Option Addr) (i : Nat) (o : Op) : Prop where
  rd : ∃ gr Ai ci, Ar = some ⟨gr, 0, none⟩ ∧ gr < B ∧ gr ≠ g ∧ w.cell? ⟨gr, i, none⟩ = some (.slice Ai (rds o).length ci) ∧ (rds o ≠ [] → ∃ gi oi, Ai = some ⟨gi, oi, none⟩ ∧ gi < B ∧ gi ≠ g ∧ ∀ k x, (rds o)[k]? = some x → w.cell? ⟨gi, oi + k, none⟩ = some (.int .u8 x))
  dd : ∃ gd, Ad = some ⟨gd, 0, none⟩ ∧ gd < B ∧ gd ≠ g ∧ w.cell? ⟨gd, i, none⟩ = some (.int .i64 (dN o))
theorem ReadAt.far {w w' : World} {B g : Nat} {Ar Ad : Option Addr} {i : Nat} {o : Op} (h : ReadAt w B g Ar Ad i o) (hk : ∀ b off, b < B → b ≠ g → w'.cell? ⟨b, off, none⟩ = w.cell? ⟨b, off, none⟩) : ReadAt w' B g Ar Ad i o := by
  obtain ⟨⟨gr, Ai, ci, h1, h2, h3, h4, h5⟩, gd, k1, k2, k3, k4⟩ := h
  refine ⟨⟨gr, Ai, ci, h1, h2, h3, (hk _ _ h2 h3).trans h4, fun hne => ?_⟩, gd, k1, k2, k3, (hk _ _ k2 k3).trans k4⟩
  obtain ⟨gi, oi, m1, m2, m3, m4⟩ := h5 hne
  exact ⟨gi, oi, m1, m2, m3, fun k x hx => (hk _ _ m2 m3).trans (m4 k x hx)⟩
/-- The finder lies in block g; all that was read lies below block B, what was found from B on. -/
structure FindAt (w0 w : World) (B g : Nat) (A : Option Addr) (cap : Nat) (l : List Op) (t : List Int) (v : Value) (out : List Edge) : Prop where
  bel : Below w0.heap.size w0 w
  g0 : w0.heap.size ≤ g
  gB : g < B
  Bw : B ≤ w.heap.size
  c0 : w.cell? ⟨g, 0, none⟩ = some (.slice A l.length cap)
  ct : ∀ k, k < 13 → w.cell? ⟨g, 1 + k, none⟩ = some (.int .i64 (t[k]?.getD 0))
  rd : ∃ Ar cr Ad cd, w.cell? ⟨g, 14, none⟩ = some (.slice Ar l.length cr) ∧ w.cell? ⟨g, 15, none⟩ = some (.slice Ad l.length cd) ∧ ∀ i o, l[i]? = some o → ReadAt w B g Ar Ad i o
  cv : w.cell? ⟨g, 16, none⟩ = some v
  fz : w.frozen? ⟨g, 16, none⟩ = false
  own : w.ownsRow B 99 5 v out.length (edgesV out)
theorem FindAt.gw {w0 w : World} {B g cap : Nat} {A : Option Addr} {l : List Op} {t : List Int} {v : Value} {out : List Edge} (h : FindAt w0 w B g A cap l t v out) : g < w.heap.size := by have := h.gB; have := h.Bw; omega
theorem FindAt.keep {w0 w w' : World} {B g cap : Nat} {A : Option Addr} {l : List Op} {t : List Int} {v : Value} {out : List Edge} (h : FindAt w0 w B g A cap l t v out) (hb : Below w.heap.size w w') : FindAt w0 w' B g A cap l t v out := by
  obtain ⟨Ar, cr, Ad, cd, h14, h15, hi⟩ := h.rd
  exact ⟨btrans h.bel hb, h.g0, h.gB, Nat.le_trans h.Bw hb.size, cell_keep h.c0 hb, fun k hk => cell_keep (h.ct k hk) hb,
    ⟨Ar, cr, Ad, cd, cell_keep h14 hb, cell_keep h15 hb, fun i o ho => (hi i o ho).far fun b off hB _ => hb.cell (p := ⟨b, off, none⟩) (Nat.lt_of_lt_of_le hB h.Bw)⟩,
    cell_keep h.cv hb, frozen_keep h.fz h.gw hb, own_below h.own hb⟩
/-- All of w but block g and v's own block is as it was, and v' does not take any of it. -/
def Spared (g : Nat) (v v' : Value) (w w' : World) : Prop :=
  w.heap.size ≤ w'.heap.size ∧ ∀ b, b < w.heap.size → b ≠ g → some b ≠ v.ownBlock → w'.heap[b]? = w.heap[b]? ∧ some b ≠ v'.ownBlock
theorem Spared.refl (g : Nat) (v : Value) (w : World) : Spared g v v w w := ⟨Nat.le_refl _, fun _ _ _ h => ⟨rfl, h⟩⟩
theorem Spared.trans {g : Nat} {v v1 v2 : Value} {w w1 w2 : World} (h : Spared g v v1 w w1) (k : Spared g v1 v2 w1 w2) : Spared g v v2 w w2 :=
  ⟨Nat.le_trans h.1 k.1, fun b hb hg hv => by
    obtain ⟨h1, h2⟩ := h.2 b hb hg hv
    obtain ⟨k1, k2⟩ := k.2 b (Nat.lt_of_lt_of_le hb h.1) hg h2
    exact ⟨k1.trans h1, k2⟩⟩
theorem Spared.below {g : Nat} {v : Value} {w w' : World} (hb : Below w.heap.size w w') : Spared g v v w w' := ⟨hb.size, fun b h _ hv => ⟨hb.block b h, hv⟩⟩
theorem Spared.ints {g : Nat} {v v' : Value} {w w' : World} (h : Spared g v v' w w') {b : Nat} {T : TypeId} {l : List Int} (hl : IntsAt w b T l) (hg : b ≠ g) (hv : some b ≠ v.ownBlock) : IntsAt w' b T l ∧ some b ≠ v'.ownBlock := by
  obtain ⟨h1, h2⟩ := h.2 b hl.lt hg hv
  exact ⟨h1.trans hl, h2⟩
theorem edge_info : ∃ i z, Try.prog.info? 99 = some i ∧ i.zero = some z ∧ i.size = 5 ∧ i.bytes = 40 ∧ z.cells.size = 5 := by
  have h : (Try.prog.info? 99).map (fun i => (i.zero.map (·.cells.size), i.size, i.bytes)) = some (some 5, 5, 40) := by kernel_rfl
  cases hi : Try.prog.info? 99 with
  | none => rw [hi] at h; cases h
  | some i =>
    rw [hi] at h
    cases hz : i.zero with
    | none => simp [hz] at h
    | some z =>
      simp [hz] at h
      exact ⟨i, z, rfl, hz, h.2.1, h.2.2, h.1⟩
/-- The finder behind a growth of what it found: the block g holds the new slice. -/
theorem FindAt.grown {w0 w w6 w7 : World} {B g cap : Nat} {A : Option Addr} {l : List Op} {t : List Int} {v v' : Value} {out out' : List Edge} (h : FindAt w0 w B g A cap l t v out) (hb : Below w.heap.size w w6)
    (hg : w6.grownBy w7 v.ownBlock) (ho : w7.ownsRow B 99 5 v' out'.length (edgesV out')) : FindAt w0 (w7.setCell ⟨g, 16, none⟩ v') B g A cap l t v' out' := by
  obtain ⟨Ar, cr, Ad, cd, h14, h15, hi⟩ := h.rd
  have hlt := h.own.lt
  have hBw := h.Bw
  have hgB := h.gB
  have hg0 := h.g0
  have hgr : some g ≠ v.ownBlock := fun e => by have := (hlt g e.symm).1; omega
  have hk : ∀ b off, b < B → w7.cell? ⟨b, off, none⟩ = w.cell? ⟨b, off, none⟩ := fun b off hB => by
    have h1 : b < w.heap.size := Nat.lt_of_lt_of_le hB hBw
    exact (hg.cell_far ⟨b, off, none⟩ (Nat.lt_of_lt_of_le h1 hb.size) (fun e => by have := (hlt b e.symm).1; omega)).trans (hb.cell (p := ⟨b, off, none⟩) h1)
  have hs : ∀ k, k ≠ 16 → (w7.setCell ⟨g, 16, none⟩ v').cell? ⟨g, k, none⟩ = w.cell? ⟨g, k, none⟩ := fun k hk16 => by
    rw [World.cell?_setCell_other _ _ _ _ (by intro e; injection e with _ e2; exact hk16 e2.symm)]
    exact hk g k hgB
  refine ⟨?_, hg0, hgB, ?_, (hs 0 (by decide)).trans h.c0, fun k hk13 => (hs (1 + k) (by omega)).trans (h.ct k hk13), ⟨Ar, cr, Ad, cd, (hs 14 (by decide)).trans h14, (hs 15 (by decide)).trans h15, fun i o ho => (hi i o ho).far fun b off hB hne => ?_⟩, ?_, ?_, ?_⟩
  · refine ((btrans h.bel hb).grown hg ?_ ?_).setCell hg0 _
    · exact Nat.le_trans h.bel.size hb.size
    · intro k hk; have := (hlt k hk).1; omega
  · rw [World.size_setCell]
    exact Nat.le_trans hBw (Nat.le_trans hb.size hg.size)
  · rw [World.cell?_setCell_far _ _ _ _ (fun e => hne e.symm)]
    exact hk b off hB
  · exact set_same ((hk g 16 hgB).trans h.cv)
  · refine set_frozen ?_
    exact (hg.frozen_far ⟨g, 16, none⟩ (Nat.lt_of_lt_of_le h.gw hb.size) hgr).trans (frozen_keep h.fz h.gw hb)
  · refine ⟨ho.1, ?_⟩
    rcases ho.2 with hn | ⟨k, cap, cur, rfl, hbg, hk, rest⟩
    · exact .inl hn
    · exact .inr ⟨k, cap, cur, rfl, hbg, by rw [heap_setCell_other _ _ _ _ (by show k ≠ g; omega)]; exact hk, rest⟩
theorem FindAt.spared {w0 w w6 w7 : World} {B g cap : Nat} {A : Option Addr} {l : List Op} {t : List Int} {v v' : Value} {out : List Edge} (h : FindAt w0 w B g A cap l t v out) (hb : Below w.heap.size w w6)
    (hg : w6.grownBy w7 v.ownBlock) (hat : v'.ownBlock = v.ownBlock ∨ ∀ k, v'.ownBlock = some k → w6.heap.size ≤ k) : Spared g v v' w (w7.setCell ⟨g, 16, none⟩ v') := by
  refine ⟨by rw [World.size_setCell]; exact Nat.le_trans hb.size hg.size, fun b h1 h2 h3 => ⟨?_, ?_⟩⟩
  · rw [heap_setCell_other _ _ _ _ h2]
    exact (hg.block b (Nat.lt_of_lt_of_le h1 hb.size) h3).trans (hb.block b h1)
  · rcases hat with e | e
    · rw [e]; exact h3
    · intro he
      have := e b he.symm
      have := hb.size
      omega
end Go.Proofs.Ytcibkoodnfkogaa
