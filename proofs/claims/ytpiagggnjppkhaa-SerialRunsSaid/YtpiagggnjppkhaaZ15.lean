/- A step of the machine: the end of a block. -/
import Derived.Test.YtpiagggnjppkhaaZ12
import Derived.Test.YtpiagggnjppkhaaZ1
namespace Go.Proofs.Ytpiagggnjppkhaa
open Go.RowKit
set_option linter.unusedVariables false
set_option linter.unusedSimpArgs false
section
open Go.RowKit
set_option maxHeartbeats 40000000 in
set_option maxRecDepth 100000 in
theorem step_end {g B : Nat} {S : Nat → Prop} {A : Option Addr} {l : List Blk} {cap : Nat} {pv : Value} {m : Mc} {w : World} (h : Mach w g 106 322 B S A l cap 2 pv m doX) (hp : PrgOk l) (hok : m.ok l) (hst : m.steps ≤ 10000000000000) (hov : m.over = false) (hlt : ¬ m.pos < (lstS l m).length) :
    Calls Try.prog 46 #[.pointer (some ⟨g, 0, none⟩)] w (StepS g B S A l cap pv m w) := by
  have hmf : ∀ (fn : Fn) (first cap : Array Value) (w : World), (Instr.makeFunc fn first cap).run Try.prog w = .ok (.func fn first cap) w := fun _ _ _ _ => rfl
  have r1 : w.cell? ⟨g, 289, none⟩ = some (.int .i64 m.blk) := h.cells.cell 289 (by decide)
  have r2 : w.cell? ⟨g, 290, none⟩ = some (.bool m.body) := h.cells.cell 290 (by decide)
  have r3 : w.cell? ⟨g, 291, none⟩ = some (.int .i64 m.pos) := h.cells.cell 291 (by decide)
  have r5 : w.cell? ⟨g, 293, none⟩ = some (.int .i64 m.steps) := h.cells.cell 293 (by decide)
  have r7 : w.cell? ⟨g, 295, none⟩ = some (.bool m.over) := h.cells.cell 295 (by decide)
  have hgl := h.cells.lt
  have hgl1 : g < w.heap.size + 1 := by omega
  have hgl2 : g < w.heap.size + 1 + 1 := by omega
  have W0 := hid h.went
  rw [hov] at r7
  have L1 := hid (fun (w' : World) (h : Mach w' g 106 322 B S A l cap 2 pv m doX) => list_any h hok.blk hp.n1)
  have hB := h.bw
  have hgB := h.gB
  have hpo : Hid (∀ k, pv.ownBlock = some k → k < w.heap.size) := hid fun k e => (own_ge h.own k e).2
  have hx : (lstS l m)[m.pos]? = none := lst_none hlt
  have hij : ¬ (m.pos : Int) < ((lstS l m).length : Int) := by omega
  have hij2 : ((lstS l m).length : Int) ≤ (m.pos : Int) := by omega
  obtain ⟨bb, hbb⟩ : ∃ b, l[m.blk]? = some b := ⟨_, List.getElem?_eq_getElem hok.blk⟩
  have hbm := List.mem_of_getElem? hbb
  have e1 : stepM l m = { endS bb m with steps := m.steps + 1 } := by unfold stepM; rw [if_neg (by rw [hov]; decide), hx, hbb]; rfl
  have e2 : stepD l m = true := by unfold stepD stuckS; rw [hov, hx]; rfl
  have e3 : stepT l m = ⟨m.blk, false, -1⟩ := by unfold stepT; rw [if_neg (by rw [hov]; decide), hx]
  have hfin : Hid (∀ (w' : World) pv', Went w pv.ownBlock w' g 106 322 B S A l cap 2 pv' { endS bb m with steps := m.steps + 1 } doX → StepS g B S A l cap pv m w (.returned (.tuple #[Tg.val ⟨m.blk, false, -1⟩, .bool true])) w') := hid fun w' pv' h => by
    refine ⟨by rw [e2, e3], pv', by rw [e1]; exact h⟩
  have D1 := hid (fun (w' : World) (h : Mach w' g 106 322 B S A l cap 2 pv m doX) => mend_any (w := w') h hok.blk hp.n1 bb hbb (hp.wf bb hbm) (hp.en bb hbm) hok)
  have hes := hid (endS_steps bb m)
  clear e1 e2 e3 hp hok hx hov h hlt hbb hbm
  go_enter_defers Try.func46, Try.ntmps46
  go_wp2_with fail
  with_reducible refine (L1.out _ (((W0.out.alloc _).alloc _).alloc _).mach).mono ?_
  rintro e w4 ⟨L, c, rfl, hO, hc, hb, hsp⟩
  have W4 := hid ((((W0.out.alloc _).alloc _).alloc _).below hb)
  have hz4 : w.heap.size + 1 + 1 < w4.heap.size := by have := hb.size; simp at this; omega
  have hz5 : w.heap.size + 1 < w4.heap.size := by omega
  have hz6 : w.heap.size < w4.heap.size := by omega
  have hz7 : g < w4.heap.size := by omega
  have z0 : w4.cell? ⟨w.heap.size, 0, none⟩ = some (.pointer (some ⟨g, 0, none⟩)) := cell_keep (by go_simp) hb
  have t0 : w4.cell? ⟨w.heap.size + 1, 0, none⟩ = some (.int .i64 0) := cell_keep (by go_simp) hb
  have t1 : w4.cell? ⟨w.heap.size + 1, 1, none⟩ = some (.bool false) := cell_keep (by go_simp) hb
  have t2 : w4.cell? ⟨w.heap.size + 1, 2, none⟩ = some (.int .i64 0) := cell_keep (by go_simp) hb
  have t3 : w4.cell? ⟨w.heap.size + 1, 3, none⟩ = some (.bool false) := cell_keep (by go_simp) hb
  have d0 : w4.cell? ⟨w.heap.size + 1 + 1, 0, none⟩ = some (.bool false) := cell_keep (by go_simp) hb
  have zt : ∀ i, w4.frozen? ⟨w.heap.size + 1, i, none⟩ = false := fun i => ((bcell hb).2 _ i (by simp)).trans (by go_simp)
  have zd : w4.frozen? ⟨w.heap.size + 1 + 1, 0, none⟩ = false := ((bcell hb).2 _ 0 (by simp)).trans (by go_simp)
  have q1 : w4.cell? ⟨g, 289, none⟩ = some (.int .i64 m.blk) := W4.out.mach.cells.cell 289 (by decide)
  have q2 : w4.cell? ⟨g, 290, none⟩ = some (.bool m.body) := W4.out.mach.cells.cell 290 (by decide)
  have q3 : w4.cell? ⟨g, 291, none⟩ = some (.int .i64 m.pos) := W4.out.mach.cells.cell 291 (by decide)
  clear hb r1 r2 r3 r5 r7 hO
  go_wp2_with fail
  have hw1 : ∀ k, pv.ownBlock = some k → k ≠ w.heap.size + 1 := fun k e => by have := hpo.out k e; omega
  have W5 := hid ((((W4.out.aside ⟨w.heap.size + 1, 0, none⟩ (.int .i64 m.blk) (by show w.heap.size + 1 ≠ g; omega) (by show B ≤ w.heap.size + 1; omega) hw1 (by show w.heap.size ≤ w.heap.size + 1; omega)).aside ⟨w.heap.size + 1, 1, none⟩ (.bool false) (by show w.heap.size + 1 ≠ g; omega) (by show B ≤ w.heap.size + 1; omega) hw1 (by show w.heap.size ≤ w.heap.size + 1; omega)).aside ⟨w.heap.size + 1, 2, none⟩ (.int .i64 (-1)) (by show w.heap.size + 1 ≠ g; omega) (by show B ≤ w.heap.size + 1; omega) hw1 (by show w.heap.size ≤ w.heap.size + 1; omega)).aside ⟨w.heap.size + 1, 3, none⟩ (.bool false) (by show w.heap.size + 1 ≠ g; omega) (by show B ≤ w.heap.size + 1; omega) hw1 (by show w.heap.size ≤ w.heap.size + 1; omega))
  obtain ⟨w5, hw5⟩ : ∃ w5 : World, w5 = ((((w4.setCell ⟨w.heap.size + 1, 0, none⟩ (.int .i64 m.blk)).setCell ⟨w.heap.size + 1, 1, none⟩ (.bool false)).setCell ⟨w.heap.size + 1, 2, none⟩ (.int .i64 (-1))).setCell ⟨w.heap.size + 1, 3, none⟩ (.bool false)) := ⟨_, rfl⟩
  have hs5 : w5.heap.size = w4.heap.size := by rw [hw5]; simp
  have x0 : w5.cell? ⟨w.heap.size, 0, none⟩ = some (.pointer (some ⟨g, 0, none⟩)) := by rw [hw5]; go_simp
  have y0 : w5.cell? ⟨w.heap.size + 1, 0, none⟩ = some (.int .i64 m.blk) := by rw [hw5]; go_simp
  have y1 : w5.cell? ⟨w.heap.size + 1, 1, none⟩ = some (.bool false) := by rw [hw5]; go_simp
  have y2 : w5.cell? ⟨w.heap.size + 1, 2, none⟩ = some (.int .i64 (-1)) := by rw [hw5]; go_simp
  have y3 : w5.cell? ⟨w.heap.size + 1, 3, none⟩ = some (.bool false) := by rw [hw5]; go_simp
  have x1 : w5.cell? ⟨w.heap.size + 1 + 1, 0, none⟩ = some (.bool false) := by rw [hw5]; go_simp
  have ft : ∀ i, w5.frozen? ⟨w.heap.size + 1, i, none⟩ = false := fun i => by rw [hw5]; go_simp
  have fd : w5.frozen? ⟨w.heap.size + 1 + 1, 0, none⟩ = false := by rw [hw5]; go_simp
  rw [← hw5] at W5 ⊢
  rw [← hs5] at hz4 hz5 hz6 hz7
  clear hw5 z0 t0 t1 t2 t3 d0 zt zd q1 q2 q3 W4 hs5
  as_aux_lemma =>
    with_reducible refine (D1.out _ W5.out.mach).mono ?_
    rintro e w7 ⟨rfl, hw⟩
    have hk7 : ∀ i, i < w5.heap.size → i ≠ g → some i ≠ pv.ownBlock → w7.heap[i]? = w5.heap[i]? := hw.trn.block
    have hs7 : w5.heap.size ≤ w7.heap.size := hw.trn.size
    have hn0 := hk7 w.heap.size (by omega) (by omega) (fun e => by have := hpo.out _ e.symm; omega)
    have hn1 := hk7 (w.heap.size + 1) (by omega) (by omega) (fun e => by have := hpo.out _ e.symm; omega)
    have hn2 := hk7 (w.heap.size + 1 + 1) (by omega) (by omega) (fun e => by have := hpo.out _ e.symm; omega)
    have hnew : ∀ j, some j = pv.ownBlock → j < w.heap.size := fun j e => hpo.out j e.symm
    have hnw1 : ∀ k, pv.ownBlock = some k → k ≠ w.heap.size + 1 := fun k e h => by
      have := hnew k e.symm
      omega
    have hnw2 : ∀ k, pv.ownBlock = some k → k ≠ w.heap.size + 1 + 1 := fun k e h => by
      have := hnew k e.symm
      omega
    have W7 := hid (W5.out.trans hw)
    have v0 := (World.cell?_of_block (a := ⟨w.heap.size, 0, none⟩) hn0).trans x0
    have u0 := (World.cell?_of_block (a := ⟨w.heap.size + 1, 0, none⟩) hn1).trans y0
    have u1 := (World.cell?_of_block (a := ⟨w.heap.size + 1, 1, none⟩) hn1).trans y1
    have u2 := (World.cell?_of_block (a := ⟨w.heap.size + 1, 2, none⟩) hn1).trans y2
    have u3 := (World.cell?_of_block (a := ⟨w.heap.size + 1, 3, none⟩) hn1).trans y3
    have v1 := (World.cell?_of_block (a := ⟨w.heap.size + 1 + 1, 0, none⟩) hn2).trans x1
    have gt : ∀ i, w7.frozen? ⟨w.heap.size + 1, i, none⟩ = false := fun i => (World.frozen?_of_block (a := ⟨w.heap.size + 1, i, none⟩) hn1).trans (ft i)
    have gd : w7.frozen? ⟨w.heap.size + 1 + 1, 0, none⟩ = false := (World.frozen?_of_block (a := ⟨w.heap.size + 1 + 1, 0, none⟩) hn2).trans fd
    have s5 : w7.cell? ⟨g, 293, none⟩ = some (.int .i64 m.steps) := by rw [← hes.out]; exact W7.out.mach.cells.cell 293 (by decide)
    have fg : ∀ i, w7.frozen? ⟨g, i, none⟩ = false := W7.out.mach.cells.frozen
    have zz4 : w.heap.size + 1 + 1 < w7.heap.size := by omega
    have zz5 : w.heap.size + 1 < w7.heap.size := by omega
    have zz6 : w.heap.size < w7.heap.size := by omega
    have zz7 : g < w7.heap.size := by omega
    have hst2 : (m.steps : Int) < 9223372036854775807 := by omega
    have ne1 : ¬ w.heap.size = g := by omega
    have ne2 : ¬ g = w.heap.size := by omega
    have ne3 : ¬ w.heap.size + 1 = g := by omega
    have ne4 : ¬ g = w.heap.size + 1 := by omega
    have ne5 : ¬ w.heap.size + 1 + 1 = g := by omega
    have ne6 : ¬ g = w.heap.size + 1 + 1 := by omega
    clear hk7 hs7 hn0 hn1 hn2 hw x0 x1 y0 y1 y2 y3 ft fd W5 hz4 hz5 hz6 hz7 D1 hes
    clear hnew
    replace hnw1 := hid hnw1
    replace hnw2 := hid hnw2
    go_wp2
    replace hnw1 := hnw1.out
    replace hnw2 := hnw2.out
    with_reducible refine door_idle _ _ _ _ (Tg.mk m.blk false (-1)) true ?_ ?_ ?_ ?_ ?_ ?_ ?_ (hfin.out _ pv ?_)
    · rfl
    · rfl
    · go_simp
    · go_simp
    · go_simp
    · go_simp
    · go_simp
    · exact ((((((W7.out.steps (m.steps + 1)).aside ⟨w.heap.size + 1, 0, none⟩ (.int .i64 m.blk) (by show w.heap.size + 1 ≠ g; omega) (by show B ≤ w.heap.size + 1; omega) hnw1 (by show w.heap.size ≤ w.heap.size + 1; omega)).aside ⟨w.heap.size + 1, 1, none⟩ (.bool false) (by show w.heap.size + 1 ≠ g; omega) (by show B ≤ w.heap.size + 1; omega) hnw1 (by show w.heap.size ≤ w.heap.size + 1; omega)).aside ⟨w.heap.size + 1, 2, none⟩ (.int .i64 (-1)) (by show w.heap.size + 1 ≠ g; omega) (by show B ≤ w.heap.size + 1; omega) hnw1 (by show w.heap.size ≤ w.heap.size + 1; omega)).aside ⟨w.heap.size + 1, 3, none⟩ (.bool false) (by show w.heap.size + 1 ≠ g; omega) (by show B ≤ w.heap.size + 1; omega) hnw1 (by show w.heap.size ≤ w.heap.size + 1; omega)).aside ⟨w.heap.size + 1 + 1, 0, none⟩ (.bool true) (by show w.heap.size + 1 + 1 ≠ g; omega) (by show B ≤ w.heap.size + 1 + 1; omega) hnw2 (by show w.heap.size ≤ w.heap.size + 1 + 1; omega))
end
/- The contracts of ops.Class, ops.Writes, ops.Reads. -/
section
open Go.RowKit

theorem shp_cls (k : Int) : -1 ≤ (shp k).cls ∧ (shp k).cls ≤ 3 := by
  by_cases h0 : 0 ≤ k ∧ k < 24
  · have h : k = 0 ∨ k = 1 ∨ k = 2 ∨ k = 3 ∨ k = 4 ∨ k = 5 ∨ k = 6 ∨ k = 7 ∨ k = 8 ∨ k = 9 ∨ k = 10 ∨ k = 11 ∨ k = 12 ∨ k = 13 ∨ k = 14 ∨ k = 15 ∨ k = 16 ∨ k = 17 ∨ k = 18 ∨ k = 19 ∨ k = 20 ∨ k = 21 ∨ k = 22 ∨ k = 23 := by omega
    rcases h with rfl | rfl | rfl | rfl | rfl | rfl | rfl | rfl | rfl | rfl | rfl | rfl | rfl | rfl | rfl | rfl | rfl | rfl | rfl | rfl | rfl | rfl | rfl | rfl <;> decide
  · rw [shp_none k h0]; decide
/-- Has a kind a class? Which? -/
def clsB (k : Int) : Bool := isK k && decide (0 ≤ (shp k).cls)
def clsN (k : Int) : Int := if clsB k then (shp k).cls else 0
set_option maxHeartbeats 4000000 in
set_option maxRecDepth 100000 in
theorem class_any (k : Int) (w : World) :
    Calls Try.prog 38 #[.int .i8 k] w fun e w' => e = .returned (.tuple #[.int .i64 (clsN k), .bool (clsB k)]) ∧ Below w.heap.size w w' := by
  have hs := shp_cls k
  cases hk : isK k
  · have e1 : clsB k = false := by unfold clsB; rw [hk]; rfl
    have e2 : clsN k = 0 := by unfold clsN; rw [e1]; rfl
    rw [e1, e2]
    clear e1 e2
    go_enter Try.func38, Try.ntmps38
    go_wp2_with (go_at_call 51; refine (of_any _ _).mono ?_; rintro e w' ⟨rfl, hb⟩; obtain ⟨hc, hf⟩ := bcell hb; have hz := hb.size)
    go_ret2
    refine ⟨rfl, ?_⟩
    ((with_reducible (repeat (first | assumption | exact Below.refl _ _ | refine bset ?_ (Nat.le_refl _) _ | refine balloc ?_ _ | refine bdrew ?_ | refine bdrewN ?_ _))); done)
  by_cases h0 : (shp k).cls < 0
  · have e1 : clsB k = false := by unfold clsB; rw [decide_eq_false (by omega), Bool.and_false]
    have e2 : clsN k = 0 := by unfold clsN; rw [e1]; rfl
    rw [e1, e2]
    clear e1 e2
    go_enter Try.func38, Try.ntmps38
    go_wp2_with (go_at_call 51; refine (of_any _ _).mono ?_; rintro e w' ⟨rfl, hb⟩; obtain ⟨hc, hf⟩ := bcell hb; have hz := hb.size)
    go_ret2
    refine ⟨rfl, ?_⟩
    ((with_reducible (repeat (first | assumption | exact Below.refl _ _ | refine bset ?_ (Nat.le_refl _) _ | refine balloc ?_ _ | refine bdrew ?_ | refine bdrewN ?_ _))); done)
  · have e1 : clsB k = true := by unfold clsB; rw [hk, decide_eq_true (by omega)]; rfl
    have e2 : clsN k = (shp k).cls := by unfold clsN; rw [e1]; rfl
    rw [e1, e2]
    clear e1 e2
    have h1 := hs.2
    clear hs
    go_enter Try.func38, Try.ntmps38
    go_wp2_with (go_at_call 51; refine (of_any _ _).mono ?_; rintro e w' ⟨rfl, hb⟩; obtain ⟨hc, hf⟩ := bcell hb; have hz := hb.size)
    go_ret2
    refine ⟨rfl, ?_⟩
    ((with_reducible (repeat (first | assumption | exact Below.refl _ _ | refine bset ?_ (Nat.le_refl _) _ | refine balloc ?_ _ | refine bdrew ?_ | refine bdrewN ?_ _))); done)

/-- Does an operation write a register? -/
def wrB (o : Op) : Bool := (shp o.k).d && chk o
def wrN (o : Op) : Int := if wrB o then o.d else 0
set_option maxHeartbeats 4000000 in
set_option maxRecDepth 100000 in
theorem writes_any (o : Op) (w : World) (ho : o.wf) :
    Calls Try.prog 22 #[o.val] w fun e w' => e = .returned (.tuple #[.int .u8 (wrN o), .bool (wrB o)]) ∧ Below w.heap.size w w' := by
  have hck := fun w => check_any o w ho
  obtain ⟨k, d, a, b, n⟩ := o
  simp only [Op.val] at *
  cases hd : (shp k).d
  · have e1 : wrB ⟨k, d, a, b, n⟩ = false := by unfold wrB; rw [hd]; rfl
    have e2 : wrN ⟨k, d, a, b, n⟩ = 0 := by unfold wrN; rw [e1]; rfl
    rw [e1, e2]
    clear e1 e2 hck ho
    go_enter Try.func22, Try.ntmps22
    go_wp2_with (go_at_call 51; refine (of_any _ _).mono ?_; rintro e w' ⟨rfl, hb⟩; obtain ⟨hc, hf⟩ := bcell hb; have hz := bsize hb)
    go_ret2
    refine ⟨rfl, ?_⟩
    have hB := below_old hb
    ((with_reducible (repeat (first | assumption | exact Below.refl _ _ | refine bset ?_ (Nat.le_refl _) _ | refine balloc ?_ _ | refine bdrew ?_ | refine bdrewN ?_ _))); done)
  cases hk : chk ⟨k, d, a, b, n⟩
  · have e1 : wrB ⟨k, d, a, b, n⟩ = false := by unfold wrB; rw [hk, Bool.and_false]
    have e2 : wrN ⟨k, d, a, b, n⟩ = 0 := by unfold wrN; rw [e1]; rfl
    have e3 : chkE ⟨k, d, a, b, n⟩ = 30 := by unfold chkE; rw [hk]; rfl
    rw [e1, e2]
    rw [e3] at hck
    have HC := hid hck
    clear e1 e2 e3 hck ho hk
    go_enter Try.func22, Try.ntmps22
    go_wp2_with (first | (go_at_call 51; refine (of_any _ _).mono ?_; rintro e w' ⟨rfl, hb⟩; obtain ⟨hc, hf⟩ := bcell hb; have hz := bsize hb) | (go_at_call 52; refine (HC.out _).mono ?_; rintro e w' ⟨rfl, hb2⟩; obtain ⟨hc2, hf2⟩ := bcell hb2; have hz2 := bsize hb2))
    go_ret2
    refine ⟨rfl, ?_⟩
    have hB := below_old hb
    have hB := below_step hB hb2
    ((with_reducible (repeat (first | assumption | exact Below.refl _ _ | refine bset ?_ (Nat.le_refl _) _ | refine balloc ?_ _ | refine bdrew ?_ | refine bdrewN ?_ _))); done)
  · have e1 : wrB ⟨k, d, a, b, n⟩ = true := by unfold wrB; rw [hd, hk]; rfl
    have e2 : wrN ⟨k, d, a, b, n⟩ = d := by unfold wrN; rw [e1]; rfl
    have e3 : chkE ⟨k, d, a, b, n⟩ = 0 := by unfold chkE; rw [hk]; rfl
    rw [e1, e2]
    rw [e3] at hck
    have HC := hid hck
    clear e1 e2 e3 hck ho hk
    go_enter Try.func22, Try.ntmps22
    go_wp2_with (first | (go_at_call 51; refine (of_any _ _).mono ?_; rintro e w' ⟨rfl, hb⟩; obtain ⟨hc, hf⟩ := bcell hb; have hz := bsize hb) | (go_at_call 52; refine (HC.out _).mono ?_; rintro e w' ⟨rfl, hb2⟩; obtain ⟨hc2, hf2⟩ := bcell hb2; have hz2 := bsize hb2))
    go_ret2
    refine ⟨rfl, ?_⟩
    have hB := below_old hb
    have hB := below_step hB hb2
    ((with_reducible (repeat (first | assumption | exact Below.refl _ _ | refine bset ?_ (Nat.le_refl _) _ | refine balloc ?_ _ | refine bdrew ?_ | refine bdrewN ?_ _))); done)

end
end Go.Proofs.Ytpiagggnjppkhaa
