/- The machine's list, end, and the question whether it is stuck. -/
import Derived.Test.YtpiagggnjppkhaaM5
namespace Go.Proofs.Ytpiagggnjppkhaa
open Go.RowKit
set_option linter.unusedVariables false
set_option linter.unusedSimpArgs false
/-- The list among which the place is, in memory. -/
def LstAt (S : Nat → Prop) (w : World) (l : List Blk) (m : Mc) (e : Ending) (w' : World) : Prop :=
  ∃ (L : Option Addr) (c : Nat), e = .returned (.slice L (lstS l m).length c) ∧ OpsIn w' L (lstS l m) ∧ (lstS l m).length ≤ c ∧ Below w.heap.size w w' ∧ SpotS S L (lstS l m)
theorem lst_ops {l : List Blk} {m : Mc} {b : Blk} (hb : l[m.blk]? = some b) (h : m.body = false) : lstS l m = b.ops := by unfold lstS; rw [hb, h]; rfl
theorem lst_body {l : List Blk} {m : Mc} {b : Blk} (hb : l[m.blk]? = some b) (h : m.body = true) : lstS l m = b.body := by unfold lstS; rw [hb, h]; rfl
set_option maxHeartbeats 4000000 in
set_option maxRecDepth 100000 in
theorem list_any {g B : Nat} {S : Nat → Prop} {A : Option Addr} {l : List Blk} {cap : Nat} {pv : Value} {m : Mc} {w : World} (h : Mach w g 106 322 B S A l cap 2 pv m doX) (hbl : m.blk < l.length) (h128 : l.length ≤ 128) :
    Calls Try.prog 75 #[.pointer (some ⟨g, 0, none⟩)] w (LstAt S w l m) := by
  obtain ⟨q, o, rfl, _, hq⟩ := h.blks.get m.blk hbl
  obtain ⟨B1, c1, B2, c2, k0, k1, k2, k3, k4, k5, o1, o2, l1, l2, s1, s2⟩ := hq
  have hbk : l[m.blk]? = some l[m.blk] := List.getElem?_eq_getElem hbl
  have r0 : w.cell? ⟨g, 0, none⟩ = some (.slice (some ⟨q, o, none⟩) l.length cap) := h.cells.cell 0 (by decide)
  have r1 : w.cell? ⟨g, 289, none⟩ = some (.int .i64 m.blk) := h.cells.cell 289 (by decide)
  have r2 : w.cell? ⟨g, 290, none⟩ = some (.bool m.body) := h.cells.cell 290 (by decide)
  have hgl := h.cells.lt
  have hql : q < w.heap.size := World.block_lt_of_cell? w _ k0
  have hij : (m.blk : Int) < (l.length : Int) := by omega
  have hi0 : (0 : Int) ≤ (m.blk : Int) := by omega
  have e1 := lst_ops hbk
  have e2 := lst_body hbk
  generalize l[m.blk] = b at *
  clear h hbk
  cases hbd : m.body with
  | false =>
    have e := hid (e1 hbd)
    rw [hbd] at r2
    have O1 := hid o1
    have S1 := hid s1
    clear e1 e2 hbd o1 o2 s1 s2
    go_enter Try.func75, Try.ntmps75
    go_wp2
    go_quiet (fail)
    go_wp2
    refine bodyPost_ret (v := .slice B1 b.ops.length c1) (by simp [results, Try.results75, go_sem]) rfl ?_
    exact ⟨B1, c1, by rw [e.out], by rw [e.out]; exact O1.out.keep (by ((with_reducible (repeat (first | assumption | exact Below.refl _ _ | refine bset ?_ (Nat.le_refl _) _ | refine balloc ?_ _ | refine bdrew ?_ | refine bdrewN ?_ _))); done)), by rw [e.out]; exact l1, (by ((with_reducible (repeat (first | assumption | exact Below.refl _ _ | refine bset ?_ (Nat.le_refl _) _ | refine balloc ?_ _ | refine bdrew ?_ | refine bdrewN ?_ _))); done)), by rw [e.out]; exact S1.out⟩
  | true =>
    have e := hid (e2 hbd)
    rw [hbd] at r2
    have O1 := hid o2
    have S1 := hid s2
    clear e1 e2 hbd o1 o2 s1 s2
    go_enter Try.func75, Try.ntmps75
    go_wp2
    go_quiet (fail)
    go_wp2
    refine bodyPost_ret (v := .slice B2 b.body.length c2) (by simp [results, Try.results75, go_sem]) rfl ?_
    exact ⟨B2, c2, by rw [e.out], by rw [e.out]; exact O1.out.keep (by ((with_reducible (repeat (first | assumption | exact Below.refl _ _ | refine bset ?_ (Nat.le_refl _) _ | refine balloc ?_ _ | refine bdrew ?_ | refine bdrewN ?_ _))); done)), by rw [e.out]; exact l2, (by ((with_reducible (repeat (first | assumption | exact Below.refl _ _ | refine bset ?_ (Nat.le_refl _) _ | refine balloc ?_ _ | refine bdrew ?_ | refine bdrewN ?_ _))); done)), by rw [e.out]; exact S1.out⟩
end Go.Proofs.Ytpiagggnjppkhaa
