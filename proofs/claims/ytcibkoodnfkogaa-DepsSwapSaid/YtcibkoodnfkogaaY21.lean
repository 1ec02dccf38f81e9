/- A program in memory of the machine's own: its rows are its blocks. -/
import Derived.Test.YtcibkoodnfkogaaY18
import Derived.Test.YtcibkoodnfkogaaY19
import Derived.Laws.CopyOwn
import Derived.Test.YtcibkoodnfkogaaY20
namespace Go.Proofs.Ytcibkoodnfkogaa
open Go.RowKit
set_option linter.unusedVariables false
set_option linter.unusedSimpArgs false
theorem rows_inS {w : World} {B base e n cap g : Nat} {r : Option Nat} {l : List Blk} {xs : List Value} (h : w.ownsRow base e 6 (.slice (some ⟨g, 0, none⟩) n cap) n xs) (hn : n = l.length) (hr : Rows6 w B r l xs) (hB : B ≤ base) : BlksS (fun b => B ≤ b ∧ b < w.heap.size) w (some ⟨g, 0, none⟩) l := fun _ => by
  subst hn
  have hg := own_ge h g rfl
  refine ⟨_, _, rfl, ⟨Nat.le_trans hB hg.1, hg.2⟩, fun i b hb => ?_⟩
  have hi : i < l.length := (List.getElem?_eq_some_iff.1 hb).1
  obtain ⟨g1, c, g2, c2, e, o1, o2, l1, l2, b1, b2, s1, s2, r1, r2⟩ := hr i b hb
  have hc : ∀ j, j < 6 → w.cell? ⟨g, 0 + i * 6 + j, none⟩ = ((xs.drop (i * 6)).take 6)[j]? := fun j hj => by
    rw [Nat.zero_add, h.cellAt _ (by omega), List.getElem?_take, if_pos hj, List.getElem?_drop]
  rw [e] at hc
  refine ⟨_, c, _, c2, hc 0 (by omega), hc 1 (by omega), hc 2 (by omega), hc 3 (by omega), hc 4 (by omega), hc 5 (by omega), o1, o2, l1, l2, fun _ a ha => ?_, fun _ a ha => ?_⟩
  · injection ha with ha
    subst ha
    exact ⟨b1, s1⟩
  · injection ha with ha
    subst ha
    exact ⟨b2, s2⟩
/-- copy into a block of the call's own, as a step of a region that draws: nothing but that block is turned. -/
theorem step_copy_trn {ops : Array Oper} {o : Oper} {a : Act} {w : World} {K : Act → World → Prop} {Q : Exit → Act → World → Prop} {E : Prop} (hgd : o.guard = none) (d s : Operand) (dT sT : TypeId)
    (ho : o.op = .call { callee := .builtin .copy, args := #[d, s], argTypes := #[dT, sT] }) (elem : TypeId) (hu : Try.prog.underlying dT = some (.slice elem)) (hsz : (Try.prog.info? elem).map (·.size) = some 1)
    (dp sp : Option Addr) (dLen dCap sLen sCap : Nat) (hd : a.eval d = .slice dp dLen dCap) (hs : a.eval s = .slice sp sLen sCap)
    (g off : Nat) (cur : List Value) (t : TypeId) (hg : w.heap[g]? = some (.cells cur.toArray t (0, 0))) (cs : List Value) (hn : cs.length = Nat.min sLen dLen)
    (hpos : 0 < cs.length → dp = some ⟨g, off, none⟩ ∧ ∃ ad, sp = some ad ∧ ∀ j v, cs[j]? = some v → w.cell? (ad.add j) = some v)
    (hfit : off + cs.length ≤ cur.length) (h1 : ∀ v ∈ cs, v.oneCell' = true)
    (h : ∀ w', Hid (w'.heap[g]? = some (.cells (splice cur off cs).toArray t (0, 0))) → Hid (Trn g none w w') → K (a.put o.dst (goInt cs.length)) w') :
    if Region.wanted o (yielded ops a.tmps) = true then Oper.wp Try.prog o a w K Q else E := by
  have hw : Region.wanted o (yielded ops a.tmps) = true := by simp [Region.wanted, hgd]
  rw [if_pos hw]
  by_cases h0 : cs.length = 0
  · obtain rfl : cs = [] := List.eq_nil_of_length_eq_zero h0
    have hrun := run_copy_none (P := Try.prog) w dT sT o.type elem dp sp dLen dCap sLen sCap hu hsz (by simpa using hn.symm)
    unfold Oper.wp
    simp [execOp, ho, resolve, invoke, builtin, hd, hs, hrun, Result.andThen]
    exact h w (show _ = _ by simpa [splice] using hg) (hid (Trn.refl _ _ _))
  · obtain ⟨rfl, ad, rfl, hsrc⟩ := hpos (by omega)
    have hrun := run_copy_row (P := Try.prog) w dT sT o.type elem g off dLen dCap ad sLen sCap cur.toArray t cs hu hsz hg hn hsrc (by simpa using hfit) h1
    unfold Oper.wp
    simp [execOp, ho, resolve, invoke, builtin, hd, hs, hrun, Result.andThen]
    exact h _ (show _ = _ by simpa [splice] using setRow_heap w g _ _ t _ hg) (hid ⟨rfl, rfl, rfl, by simp [World.setRow], fun k _ hk _ => setRow_other w g k _ hk⟩)
theorem nums_src {w : World} {A : Option Addr} {l : List Int} (h : NumsIn w A l) : 0 < (l.map (Value.int .i64)).length → ∃ ad, A = some ad ∧ ∀ j v, (l.map (Value.int .i64))[j]? = some v → w.cell? (ad.add j) = some v := fun hl => by
  obtain ⟨g, off, rfl, hx⟩ := h (by rintro rfl; simp at hl)
  refine ⟨_, rfl, fun j v hv => ?_⟩
  rw [List.getElem?_map] at hv
  cases e : l[j]? with
  | none => rw [e] at hv; cases hv
  | some x =>
    rw [e] at hv
    injection hv with hv
    subst hv
    rw [addr_add]
    exact hx j x e
theorem below_trn {B g : Nat} {w w' w'' : World} (h : Below B w w') (t : Trn g none w' w'') (hB : B ≤ w.heap.size) (hg : B ≤ g) : Below B w w'' :=
  ⟨t.os.trans h.os, t.tape.trans h.tape, t.output.trans h.output, Nat.le_trans h.size t.size, fun k hk => (t.block k (by have := h.size; omega) (by omega) (by intro e; cases e)).trans (h.block k hk)⟩
theorem splice_get (L : List Value) (off : Nat) (cs : List Value) (h : off + cs.length ≤ L.length) (k : Nat) : (splice L off cs)[k]? = if k < off then L[k]? else if k < off + cs.length then cs[k - off]? else L[k]? := by
  have h1 : (L.take off).length = off := by rw [List.length_take]; omega
  unfold splice
  by_cases hk : k < off
  · rw [if_pos hk, List.getElem?_append_left (by omega), List.getElem?_take, if_pos hk]
  · rw [if_neg hk, List.getElem?_append_right (by omega), h1]
    by_cases h2 : k < off + cs.length
    · rw [if_pos h2, List.getElem?_append_left (by omega)]
    · rw [if_neg h2, List.getElem?_append_right (by omega), List.getElem?_drop]
      congr 1
      omega
theorem fill_get (n : Nat) (r : List Int) (j : Nat) : ((fillS n r)[j]?).getD 0 = (r[j]?).getD 0 := by
  unfold fillS
  by_cases h : j < r.length
  · rw [List.getElem?_append_left h]
  · rw [List.getElem?_append_right (by omega), List.getElem?_replicate, List.getElem?_eq_none (by omega : r.length ≤ j)]
    split <;> rfl
/-- The registers are copied. -/
theorem splice_R {P pv : Value} {m : Mc} {x : Nat → Value} {r : List Int} (hr : r.length ≤ 32) (hm : m.R = List.replicate 32 0) : splice ((List.range 322).map (mcell P pv m x)) 1 (r.map (Value.int .i64)) = (List.range 322).map (mcell P pv { m with R := fillS 32 r } x) := by
  apply List.ext_getElem?
  intro k
  rw [splice_get _ _ _ (by simp; omega), List.length_map]
  by_cases hk : k < 322
  · have e1 : ∀ f : Nat → Value, ((List.range 322).map f)[k]? = some (f k) := fun f => by simp [hk]
    rw [e1, e1]
    have hz : ∀ j : Nat, (m.R[j]?).getD 0 = 0 := fun j => by rw [hm, List.getElem?_replicate]; split <;> rfl
    unfold mcell
    by_cases h0 : k = 0
    · subst h0; simp
    by_cases h33 : k < 33
    · simp only [h0, h33, if_false, if_true, fill_get, hz]
      rw [if_neg (by omega)]
      by_cases h2 : k < 1 + r.length
      · rw [if_pos h2, List.getElem?_map, List.getElem?_eq_getElem (by omega : k - 1 < r.length)]
        rfl
      · rw [if_neg h2, List.getElem?_eq_none (by omega : r.length ≤ k - 1)]
        rfl
    · rw [if_neg (by omega), if_neg (by omega)]
      simp only [h0, h33, if_false]
  · rw [if_neg (by omega), if_neg (by omega), List.getElem?_eq_none (by simp; omega), List.getElem?_eq_none (by simp; omega)]
/-- The cells are copied. -/
theorem splice_M {P pv : Value} {m : Mc} {x : Nat → Value} {r : List Int} (hr : r.length ≤ 256) (hm : m.M = List.replicate 256 0) : splice ((List.range 322).map (mcell P pv m x)) 33 (r.map (Value.int .i64)) = (List.range 322).map (mcell P pv { m with M := fillS 256 r } x) := by
  apply List.ext_getElem?
  intro k
  rw [splice_get _ _ _ (by simp; omega), List.length_map]
  by_cases hk : k < 322
  · have e1 : ∀ f : Nat → Value, ((List.range 322).map f)[k]? = some (f k) := fun f => by simp [hk]
    rw [e1, e1]
    have hz : ∀ j : Nat, (m.M[j]?).getD 0 = 0 := fun j => by rw [hm, List.getElem?_replicate]; split <;> rfl
    unfold mcell
    by_cases h33 : k < 33
    · rw [if_pos h33]
      simp only [h33, if_true]
    by_cases h289 : k < 289
    · have h0 : ¬ k = 0 := by omega
      simp only [h0, h33, h289, if_false, if_true, fill_get, hz]
      by_cases h2 : k < 33 + r.length
      · rw [if_pos h2, List.getElem?_map, List.getElem?_eq_getElem (by omega : k - 33 < r.length)]
        rfl
      · rw [if_neg h2, List.getElem?_eq_none (by omega : r.length ≤ k - 33)]
        rfl
    · have h0 : ¬ k = 0 := by omega
      rw [if_neg h33, if_neg (by omega)]
      simp only [h0, h33, h289, if_false]
  · rw [if_neg (by omega), if_neg (by omega), List.getElem?_eq_none (by simp; omega), List.getElem?_eq_none (by simp; omega)]
theorem BlksS.mono {S S' : Nat → Prop} {w : World} {A : Option Addr} {l : List Blk} (h : BlksS S w A l) (hs : ∀ b, S b → S' b) : BlksS S' w A l := fun hne => by
  obtain ⟨g, o, ha, hb, hx⟩ := h hne
  refine ⟨g, o, ha, hs _ hb, fun i b hi => ?_⟩
  obtain ⟨A, c, A2, c2, k0, k1, k2, k3, k4, k5, o1, o2, l1, l2, s1, s2⟩ := hx i b hi
  exact ⟨A, c, A2, c2, k0, k1, k2, k3, k4, k5, o1, o2, l1, l2, fun h a ha => hs _ (s1 h a ha), fun h a ha => hs _ (s2 h a ha)⟩
/-- The machine behind the copies. -/
theorem new_mach {w w' : World} {g : Nat} {rv : Value} {l : List Blk} {xs : List Value} {r mm : List Int} (hw : 0 < l.length) (ho : w.ownsRow (g + 1) 70 6 rv l.length xs) (hr : Rows6 w (g + 1) rv.ownBlock l xs) (ht : Trn g none w w') (hg : g < w.heap.size)
    (hc : FnAt w' g 158 322 (mcell rv (.slice none 0 0) (newM r mm) doX)) : ∃ (A : Option Addr) (cap : Nat), Mach w' g 158 322 w'.heap.size (fun b => g + 1 ≤ b ∧ b < w'.heap.size) A l cap 2 (.slice none 0 0) (newM r mm) doX := by
  have ho2 := ho
  rcases ho2.2 with ⟨_, h0⟩ | ⟨k, cap, cur, rfl, hb, _, hcap, _⟩
  · omega
  have hs := ht.size
  have hB := (rows_inS ho rfl hr (Nat.le_refl _)).mono (S' := fun b => g + 1 ≤ b ∧ b < w'.heap.size) fun b hb => ⟨hb.1, Nat.lt_of_lt_of_le hb.2 hs⟩
  refine ⟨_, cap, hc, ?_, World.ownsRow_nil _ _ _ _, fun b hb => ⟨hb.2, by have := hb.1; omega⟩, by omega, Nat.le_refl _, hcap, fun _ => rfl⟩
  refine (rows_inS ho rfl hr (Nat.le_refl _)).same (fun b hb => ht.block b hb.2 (by have := hb.1; omega) (by intro e; cases e)) |>.mono fun b hb => ⟨hb.1, Nat.lt_of_lt_of_le hb.2 hs⟩
theorem zero_ok {l : List Blk} {r m : List Int} : (newM r m).prints = [] := rfl
end Go.Proofs.Ytcibkoodnfkogaa
