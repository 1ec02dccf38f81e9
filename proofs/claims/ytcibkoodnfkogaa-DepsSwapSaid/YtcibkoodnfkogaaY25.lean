/- A step of the machine: a trap. -/
import Derived.Test.YtcibkoodnfkogaaY24
namespace Go.Proofs.Ytcibkoodnfkogaa
open Go.RowKit
set_option linter.unusedVariables false
set_option linter.unusedSimpArgs false
section
open Go.RowKit
set_option maxHeartbeats 40000000 in
set_option maxRecDepth 100000 in
theorem step_trap {g B : Nat} {S : Nat → Prop} {A : Option Addr} {l : List Blk} {cap : Nat} {pv : Value} {m : Mc} {w : World} (h : Mach w g 158 322 B S A l cap 2 pv m doX) (hp : PrgOk l) (hok : m.ok l) (hst : m.steps ≤ 10000000000000) (hov : m.over = false) (hlt : m.pos < (lstS l m).length) (hT : opT (lstS l m)[m.pos] m.R = true) :
    Calls Try.prog 98 #[.pointer (some ⟨g, 0, none⟩)] w (StepS g B S A l cap pv m w) := by
  have hmf : ∀ (fn : Fn) (first cap : Array Value) (w : World), (Instr.makeFunc fn first cap).run Try.prog w = .ok (.func fn first cap) w := fun _ _ _ _ => rfl
  have r1 : w.cell? ⟨g, 289, none⟩ = some (.int .i64 m.blk) := h.cells.cell 289 (by decide)
  have r2 : w.cell? ⟨g, 290, none⟩ = some (.bool m.body) := h.cells.cell 290 (by decide)
  have r3 : w.cell? ⟨g, 291, none⟩ = some (.int .i64 m.pos) := h.cells.cell 291 (by decide)
  have r5 : w.cell? ⟨g, 293, none⟩ = some (.int .i64 m.steps) := h.cells.cell 293 (by decide)
  have r7 : w.cell? ⟨g, 295, none⟩ = some (.bool m.over) := h.cells.cell 295 (by decide)
  have hgl := h.cells.lt
  have hgl1 : g < w.heap.size + 1 := by omega
  have hgl2 : g < w.heap.size + 1 + 1 := by omega
  have W0 := hid h.went
  rw [hov] at r7
  have L1 := hid (fun (w' : World) (h : Mach w' g 158 322 B S A l cap 2 pv m doX) => list_any h hok.blk hp.n1)
  have hB := h.bw
  have hgB := h.gB
  have hpo : Hid (∀ k, pv.ownBlock = some k → k < w.heap.size) := hid fun k e => (own_ge h.own k e).2
  have hoo := lst_mem hp (List.getElem?_eq_getElem hlt)
  have HG := hid (fun (w' : World) (L : Option Addr) (h : OpsIn w' L (lstS l m)) => h.get m.pos hlt)
  have HNE := hid (show lstS l m ≠ [] by intro e; rw [e] at hlt; simp at hlt)
  have hx : (lstS l m)[m.pos]? = some (lstS l m)[m.pos] := List.getElem?_eq_getElem hlt
  have rd := h.cells.cell (298 + (lstS l m)[m.pos].k.toNat) (by have := (opOk_bd hoo.1 hoo.2).2.1; omega)
  have hij : (m.pos : Int) < ((lstS l m).length : Int) := by omega
  have hln := hid (show (lstS l m).length ≤ 1024 by
    obtain ⟨b, hb⟩ : ∃ b, l[m.blk]? = some b := ⟨_, List.getElem?_eq_getElem hok.blk⟩
    have hm := List.mem_of_getElem? hb
    cases hbd : m.body
    · rw [lst_ops hb hbd]; exact hp.m0 b hm
    · rw [lst_body hb hbd]; exact hp.m1 b hm)
  have hpl : m.prints.length ≤ 10000000000000 := Nat.le_trans hok.pl hst
  have hk0 := (opOk_bd hoo.1 hoo.2).1
  have hk17 := (opOk_bd hoo.1 hoo.2).2.1
  generalize (lstS l m)[m.pos] = o at *
  have e1 : stepM l m = { m with over := true, e := 101 } := by unfold stepM; rw [if_neg (by rw [hov]; decide), hx]; simp only; rw [if_pos hT]
  have e2 : stepD l m = false := by unfold stepD stuckS; rw [hov, hx]; simp only; rw [hT]; rfl
  have e3 : stepT l m = Tg.none := by unfold stepT; rw [if_neg (by rw [hov]; decide), hx]; simp only; rw [if_pos hT]
  have hfin : Hid (∀ (w' : World) pv', Went w pv.ownBlock w' g 158 322 B S A l cap 2 pv' { m with over := true, e := 101 } doX → StepS g B S A l cap pv m w (.returned (.tuple #[Tg.none.val, .bool false])) w') := hid fun w' pv' h => by
    refine ⟨by rw [e2, e3], pv', by rw [e1]; exact h⟩
  have hk1314 : o.k = 13 ∨ o.k = 14 := by
    unfold opT at hT
    simp only [Bool.and_eq_true, Bool.or_eq_true, beq_iff_eq] at hT
    exact hT.1
  have hbd := opOk_bd hoo.1 hoo.2
  have D1 := hid (fun (w' : World) (h : Mach w' g 158 322 B S A l cap 2 pv m doX) => do_trap (w := w') o h (by omega) hoo.2 hbd.2.2.2.2.2.1 hbd.2.2.2.2.2.2.2.1 hok.ri hT)
  have hF : doV o.k.toNat = .func (.func 125) #[] #[] := by rcases hk1314 with e | e <;> rw [e] <;> rfl
  have hrd : w.cell? ⟨g, 298 + o.k.toNat, none⟩ = some (.func (.func 125) #[] #[]) := by
    rw [rd, ← hF]
    unfold mcell doX
    simp only [show ¬ 298 + o.k.toNat = 0 by omega, show ¬ 298 + o.k.toNat < 33 by omega, show ¬ 298 + o.k.toNat < 289 by omega, show ¬ 298 + o.k.toNat = 289 by omega, show ¬ 298 + o.k.toNat = 290 by omega, show ¬ 298 + o.k.toNat = 291 by omega, show ¬ 298 + o.k.toNat = 292 by omega, show ¬ 298 + o.k.toNat = 293 by omega, show ¬ 298 + o.k.toNat = 294 by omega, show ¬ 298 + o.k.toNat = 295 by omega, show ¬ 298 + o.k.toNat = 296 by omega, show ¬ 298 + o.k.toNat = 297 by omega, if_false, Nat.add_sub_cancel_left]
  clear e1 e2 e3 rd hF hp hok hoo hx hov h hT hk1314 hbd
  obtain ⟨k, d, a, b, n⟩ := o
  obtain ⟨k, rfl⟩ := Int.eq_ofNat_of_zero_le (show 0 ≤ k by simp only at hk0; omega)
  have hkk : k < 24 := by simp only at hk17; omega
  simp only [Int.toNat_natCast] at hrd
  have hkk2 := hid (show (k : Int) < 24 by omega)
  go_enter_defers Try.func98, Try.ntmps98
  go_wp2_with fail
  with_reducible refine (L1.out _ (((W0.out.alloc _).alloc _).alloc _).mach).mono ?_
  rintro e w4 ⟨L, c, rfl, hO, hc, hb, hsp⟩
  obtain ⟨q, oo, rfl, hq⟩ := HG.out _ _ hO
  obtain ⟨c0, c1, c2, c3, c4⟩ := hq
  have hsq := W0.out.mach.sb q (hsp HNE.out _ rfl)
  have hql : q < w4.heap.size := World.block_lt_of_cell? w4 _ c0
  have W4 := hid ((((W0.out.alloc _).alloc _).alloc _).below hb)
  have hz4 : w.heap.size + 1 + 1 < w4.heap.size := by have := hb.size; simp at this; omega
  have hz5 : w.heap.size + 1 < w4.heap.size := by omega
  have hz6 : w.heap.size < w4.heap.size := by omega
  have hz7 : g < w4.heap.size := by omega
  have z0 : w4.cell? ⟨w.heap.size, 0, none⟩ = some (.pointer (some ⟨g, 0, none⟩)) := cell_keep (by go_simp) hb
  have t0 : w4.cell? ⟨w.heap.size + 1, 0, none⟩ = some (.int .i64 0) := cell_keep (by go_simp) hb
  have t1 : w4.cell? ⟨w.heap.size + 1, 1, none⟩ = some (.bool false) := cell_keep (by go_simp) hb
  have t2 : w4.cell? ⟨w.heap.size + 1, 2, none⟩ = some (.int .i64 0) := cell_keep (by go_simp) hb
  have t3 : w4.cell? ⟨w.heap.size + 1, 3, none⟩ = some (.bool false) := cell_keep (by go_simp) hb
  have d0 : w4.cell? ⟨w.heap.size + 1 + 1, 0, none⟩ = some (.bool false) := cell_keep (by go_simp) hb
  have zt : ∀ i, w4.frozen? ⟨w.heap.size + 1, i, none⟩ = false := fun i => ((bcell hb).2 _ i (by simp)).trans (by go_simp)
  have zd : w4.frozen? ⟨w.heap.size + 1 + 1, 0, none⟩ = false := ((bcell hb).2 _ 0 (by simp)).trans (by go_simp)
  have q1 : w4.cell? ⟨g, 289, none⟩ = some (.int .i64 m.blk) := W4.out.mach.cells.cell 289 (by decide)
  have q2 : w4.cell? ⟨g, 290, none⟩ = some (.bool m.body) := W4.out.mach.cells.cell 290 (by decide)
  have q3 : w4.cell? ⟨g, 291, none⟩ = some (.int .i64 m.pos) := W4.out.mach.cells.cell 291 (by decide)
  have q8 : w4.cell? ⟨g, 298 + k, none⟩ = some (.func (.func 125) #[] #[]) := cell_keep hrd (btrans (a := w) (by ((with_reducible (repeat (first | assumption | exact Below.refl _ _ | refine bset ?_ (Nat.le_refl _) _ | refine balloc ?_ _ | refine bdrew ?_ | refine bdrewN ?_ _))); done)) hb)
  clear hb r1 r2 r3 r5 r7 hrd hO
  simp only at c0 c1 c2 c3 c4
  go_upto_region 7 with (fail)
  go_region
  go_upto_region 8 with (fail)
  have hq1 : q ≠ w.heap.size + 1 := by omega
  have hq2 : ¬ w.heap.size + 1 = q := by omega
  have hw1 : ∀ k, pv.ownBlock = some k → k ≠ w.heap.size + 1 := fun k e => by have := hpo.out k e; omega
  have W5 := hid ((((((W4.out.aside ⟨w.heap.size + 1, 0, none⟩ (.int .i64 m.blk) (by show w.heap.size + 1 ≠ g; omega) (by show B ≤ w.heap.size + 1; omega) hw1 (by show w.heap.size ≤ w.heap.size + 1; omega)).aside ⟨w.heap.size + 1, 1, none⟩ (.bool false) (by show w.heap.size + 1 ≠ g; omega) (by show B ≤ w.heap.size + 1; omega) hw1 (by show w.heap.size ≤ w.heap.size + 1; omega)).aside ⟨w.heap.size + 1, 2, none⟩ (.int .i64 (-1)) (by show w.heap.size + 1 ≠ g; omega) (by show B ≤ w.heap.size + 1; omega) hw1 (by show w.heap.size ≤ w.heap.size + 1; omega)).aside ⟨w.heap.size + 1, 3, none⟩ (.bool false) (by show w.heap.size + 1 ≠ g; omega) (by show B ≤ w.heap.size + 1; omega) hw1 (by show w.heap.size ≤ w.heap.size + 1; omega)).aside ⟨w.heap.size + 1, 1, none⟩ (.bool m.body) (by show w.heap.size + 1 ≠ g; omega) (by show B ≤ w.heap.size + 1; omega) hw1 (by show w.heap.size ≤ w.heap.size + 1; omega)).aside ⟨w.heap.size + 1, 2, none⟩ (.int .i64 m.pos) (by show w.heap.size + 1 ≠ g; omega) (by show B ≤ w.heap.size + 1; omega) hw1 (by show w.heap.size ≤ w.heap.size + 1; omega)).drew
  obtain ⟨w5, hw5⟩ : ∃ w5 : World, w5 = ((((((w4.setCell ⟨w.heap.size + 1, 0, none⟩ (.int .i64 m.blk)).setCell ⟨w.heap.size + 1, 1, none⟩ (.bool false)).setCell ⟨w.heap.size + 1, 2, none⟩ (.int .i64 (-1))).setCell ⟨w.heap.size + 1, 3, none⟩ (.bool false)).setCell ⟨w.heap.size + 1, 1, none⟩ (.bool m.body)).setCell ⟨w.heap.size + 1, 2, none⟩ (.int .i64 m.pos)).drew := ⟨_, rfl⟩
  have hs5 : w5.heap.size = w4.heap.size := by rw [hw5]; simp
  have x0 : w5.cell? ⟨w.heap.size, 0, none⟩ = some (.pointer (some ⟨g, 0, none⟩)) := by rw [hw5]; go_simp
  have y0 : w5.cell? ⟨w.heap.size + 1, 0, none⟩ = some (.int .i64 m.blk) := by rw [hw5]; go_simp
  have y1 : w5.cell? ⟨w.heap.size + 1, 1, none⟩ = some (.bool m.body) := by rw [hw5, cell_drew]; exact set_other (set_same (x := .bool false) (by go_simp)) (by simp)
  have y2 : w5.cell? ⟨w.heap.size + 1, 2, none⟩ = some (.int .i64 m.pos) := by rw [hw5, cell_drew]; exact set_same (x := .int .i64 (-1)) (by go_simp)
  have y3 : w5.cell? ⟨w.heap.size + 1, 3, none⟩ = some (.bool false) := by rw [hw5]; go_simp
  have x1 : w5.cell? ⟨w.heap.size + 1 + 1, 0, none⟩ = some (.bool false) := by rw [hw5]; go_simp
  have k0 : w5.cell? ⟨q, oo + m.pos * 5, none⟩ = some (.int .i8 k) := by rw [hw5]; go_simp
  have k1 : w5.cell? ⟨q, oo + m.pos * 5 + 1, none⟩ = some (.int .u8 d) := by rw [hw5]; go_simp
  have k2 : w5.cell? ⟨q, oo + m.pos * 5 + 2, none⟩ = some (.int .u8 a) := by rw [hw5]; go_simp
  have k3 : w5.cell? ⟨q, oo + m.pos * 5 + 3, none⟩ = some (.int .u8 b) := by rw [hw5]; go_simp
  have k4 : w5.cell? ⟨q, oo + m.pos * 5 + 4, none⟩ = some (.int .i64 n) := by rw [hw5]; go_simp
  have g8 : w5.cell? ⟨g, 298 + k, none⟩ = some (.func (.func 125) #[] #[]) := by rw [hw5]; go_simp
  have g3 : w5.cell? ⟨g, 291, none⟩ = some (.int .i64 m.pos) := by rw [hw5]; go_simp
  have ft : ∀ i, w5.frozen? ⟨w.heap.size + 1, i, none⟩ = false := fun i => by rw [hw5]; go_simp
  have fd : w5.frozen? ⟨w.heap.size + 1 + 1, 0, none⟩ = false := by rw [hw5]; go_simp
  rw [← hw5] at W5 ⊢
  rw [← hs5] at hql hz4 hz5 hz6 hz7
  clear hw5 c0 c1 c2 c3 c4 z0 t0 t1 t2 t3 d0 zt zd q1 q2 q3 q8 W4 hs5
  as_aux_lemma =>
    have hkk3 := hkk2.out
    with_reducible refine still_tail_drew 24 (by kernel_rfl) (by kernel_rfl) ?_
    simp only [List.take_succ_cons, List.take_zero, List.drop_succ_cons, List.drop_zero]
    repeat (with_reducible refine wpStill_step (fun K hK => ?_); go_simp; with_reducible refine hK _ ?_; clear hK K)
    try with_reducible refine wpStill_nil ?_
    go_wp2_with fail
    with_reducible refine (D1.out _ (W5.out.drew.mach)).mono ?_
    rintro e w7 ⟨rfl, hb⟩
    have W7 := hid (W5.out.drew.below hb)
    have BB : Below w5.heap.size w5 w7 := btrans (bdrew (Below.refl _ _)) hb
    have v0 := cell_keep x0 BB
    have u0 := cell_keep y0 BB
    have u1 := cell_keep y1 BB
    have u2 := cell_keep y2 BB
    have u3 := cell_keep y3 BB
    have v1 := cell_keep x1 BB
    have gt : ∀ i, w7.frozen? ⟨w.heap.size + 1, i, none⟩ = false := fun i => frozen_keep (ft i) (by show w.heap.size + 1 < _; omega) BB
    have gd : w7.frozen? ⟨w.heap.size + 1 + 1, 0, none⟩ = false := frozen_keep fd (by show w.heap.size + 1 + 1 < _; omega) BB
    have s5 : w7.cell? ⟨g, 295, none⟩ = some (.bool m.over) := W7.out.mach.cells.cell 295 (by decide)
    have s6 : w7.cell? ⟨g, 296, none⟩ = some (.int .i64 m.e) := W7.out.mach.cells.cell 296 (by decide)
    have fg : ∀ i, w7.frozen? ⟨g, i, none⟩ = false := W7.out.mach.cells.frozen
    have hnw1 : ∀ k, pv.ownBlock = some k → k ≠ w.heap.size + 1 := hw1
    have hnw2 : ∀ k, pv.ownBlock = some k → k ≠ w.heap.size + 1 + 1 := fun k e => by have := hpo.out k e; omega
    go_wp2
    with_reducible refine door_trap _ _ _ _ g _ _ _ _ _ _ _ ?_ ?_ v0 s5 s6 (fg 295) (fg 296) u0 u1 u2 u3 v1 gt gd hgl (hfin.out _ pv ?_)
    · rfl
    · rfl
    · exact ((((((W7.out.fall 101).aside ⟨w.heap.size + 1, 0, none⟩ (.int .i64 0) (by show w.heap.size + 1 ≠ g; omega) (by show B ≤ w.heap.size + 1; omega) hnw1 (by show w.heap.size ≤ w.heap.size + 1; omega)).aside ⟨w.heap.size + 1, 1, none⟩ (.bool false) (by show w.heap.size + 1 ≠ g; omega) (by show B ≤ w.heap.size + 1; omega) hnw1 (by show w.heap.size ≤ w.heap.size + 1; omega)).aside ⟨w.heap.size + 1, 2, none⟩ (.int .i64 0) (by show w.heap.size + 1 ≠ g; omega) (by show B ≤ w.heap.size + 1; omega) hnw1 (by show w.heap.size ≤ w.heap.size + 1; omega)).aside ⟨w.heap.size + 1, 3, none⟩ (.bool false) (by show w.heap.size + 1 ≠ g; omega) (by show B ≤ w.heap.size + 1; omega) hnw1 (by show w.heap.size ≤ w.heap.size + 1; omega)).aside ⟨w.heap.size + 1 + 1, 0, none⟩ (.bool false) (by show w.heap.size + 1 + 1 ≠ g; omega) (by show B ≤ w.heap.size + 1 + 1; omega) hnw2 (by show w.heap.size ≤ w.heap.size + 1 + 1; omega)).alloc _
end
/- A step of the machine: the end of a block. -/
section
open Go.RowKit
set_option maxHeartbeats 40000000 in
set_option maxRecDepth 100000 in
theorem step_end {g B : Nat} {S : Nat → Prop} {A : Option Addr} {l : List Blk} {cap : Nat} {pv : Value} {m : Mc} {w : World} (h : Mach w g 158 322 B S A l cap 2 pv m doX) (hp : PrgOk l) (hok : m.ok l) (hst : m.steps ≤ 10000000000000) (hov : m.over = false) (hlt : ¬ m.pos < (lstS l m).length) :
    Calls Try.prog 98 #[.pointer (some ⟨g, 0, none⟩)] w (StepS g B S A l cap pv m w) := by
  have hmf : ∀ (fn : Fn) (first cap : Array Value) (w : World), (Instr.makeFunc fn first cap).run Try.prog w = .ok (.func fn first cap) w := fun _ _ _ _ => rfl
  have r1 : w.cell? ⟨g, 289, none⟩ = some (.int .i64 m.blk) := h.cells.cell 289 (by decide)
  have r2 : w.cell? ⟨g, 290, none⟩ = some (.bool m.body) := h.cells.cell 290 (by decide)
  have r3 : w.cell? ⟨g, 291, none⟩ = some (.int .i64 m.pos) := h.cells.cell 291 (by decide)
  have r5 : w.cell? ⟨g, 293, none⟩ = some (.int .i64 m.steps) := h.cells.cell 293 (by decide)
  have r7 : w.cell? ⟨g, 295, none⟩ = some (.bool m.over) := h.cells.cell 295 (by decide)
  have hgl := h.cells.lt
  have hgl1 : g < w.heap.size + 1 := by omega
  have hgl2 : g < w.heap.size + 1 + 1 := by omega
  have W0 := hid h.went
  rw [hov] at r7
  have L1 := hid (fun (w' : World) (h : Mach w' g 158 322 B S A l cap 2 pv m doX) => list_any h hok.blk hp.n1)
  have hB := h.bw
  have hgB := h.gB
  have hpo : Hid (∀ k, pv.ownBlock = some k → k < w.heap.size) := hid fun k e => (own_ge h.own k e).2
  have hx : (lstS l m)[m.pos]? = none := lst_none hlt
  have hij : ¬ (m.pos : Int) < ((lstS l m).length : Int) := by omega
  have hij2 : ((lstS l m).length : Int) ≤ (m.pos : Int) := by omega
  obtain ⟨bb, hbb⟩ : ∃ b, l[m.blk]? = some b := ⟨_, List.getElem?_eq_getElem hok.blk⟩
  have hbm := List.mem_of_getElem? hbb
  have e1 : stepM l m = { endS bb m with steps := m.steps + 1 } := by unfold stepM; rw [if_neg (by rw [hov]; decide), hx, hbb]; rfl
  have e2 : stepD l m = true := by unfold stepD stuckS; rw [hov, hx]; rfl
  have e3 : stepT l m = ⟨m.blk, false, -1⟩ := by unfold stepT; rw [if_neg (by rw [hov]; decide), hx]
  have hfin : Hid (∀ (w' : World) pv', Went w pv.ownBlock w' g 158 322 B S A l cap 2 pv' { endS bb m with steps := m.steps + 1 } doX → StepS g B S A l cap pv m w (.returned (.tuple #[Tg.val ⟨m.blk, false, -1⟩, .bool true])) w') := hid fun w' pv' h => by
    refine ⟨by rw [e2, e3], pv', by rw [e1]; exact h⟩
  have D1 := hid (fun (w' : World) (h : Mach w' g 158 322 B S A l cap 2 pv m doX) => mend_any (w := w') h hok.blk hp.n1 bb hbb (hp.wf bb hbm) (hp.en bb hbm) hok)
  have hes := hid (endS_steps bb m)
  clear e1 e2 e3 hp hok hx hov h hlt hbb hbm
  go_enter_defers Try.func98, Try.ntmps98
  go_wp2_with fail
  with_reducible refine (L1.out _ (((W0.out.alloc _).alloc _).alloc _).mach).mono ?_
  rintro e w4 ⟨L, c, rfl, hO, hc, hb, hsp⟩
  have W4 := hid ((((W0.out.alloc _).alloc _).alloc _).below hb)
  have hz4 : w.heap.size + 1 + 1 < w4.heap.size := by have := hb.size; simp at this; omega
  have hz5 : w.heap.size + 1 < w4.heap.size := by omega
  have hz6 : w.heap.size < w4.heap.size := by omega
  have hz7 : g < w4.heap.size := by omega
  have z0 : w4.cell? ⟨w.heap.size, 0, none⟩ = some (.pointer (some ⟨g, 0, none⟩)) := cell_keep (by go_simp) hb
  have t0 : w4.cell? ⟨w.heap.size + 1, 0, none⟩ = some (.int .i64 0) := cell_keep (by go_simp) hb
  have t1 : w4.cell? ⟨w.heap.size + 1, 1, none⟩ = some (.bool false) := cell_keep (by go_simp) hb
  have t2 : w4.cell? ⟨w.heap.size + 1, 2, none⟩ = some (.int .i64 0) := cell_keep (by go_simp) hb
  have t3 : w4.cell? ⟨w.heap.size + 1, 3, none⟩ = some (.bool false) := cell_keep (by go_simp) hb
  have d0 : w4.cell? ⟨w.heap.size + 1 + 1, 0, none⟩ = some (.bool false) := cell_keep (by go_simp) hb
  have zt : ∀ i, w4.frozen? ⟨w.heap.size + 1, i, none⟩ = false := fun i => ((bcell hb).2 _ i (by simp)).trans (by go_simp)
  have zd : w4.frozen? ⟨w.heap.size + 1 + 1, 0, none⟩ = false := ((bcell hb).2 _ 0 (by simp)).trans (by go_simp)
  have q1 : w4.cell? ⟨g, 289, none⟩ = some (.int .i64 m.blk) := W4.out.mach.cells.cell 289 (by decide)
  have q2 : w4.cell? ⟨g, 290, none⟩ = some (.bool m.body) := W4.out.mach.cells.cell 290 (by decide)
  have q3 : w4.cell? ⟨g, 291, none⟩ = some (.int .i64 m.pos) := W4.out.mach.cells.cell 291 (by decide)
  clear hb r1 r2 r3 r5 r7 hO
  go_wp2_with fail
  have hw1 : ∀ k, pv.ownBlock = some k → k ≠ w.heap.size + 1 := fun k e => by have := hpo.out k e; omega
  have W5 := hid ((((W4.out.aside ⟨w.heap.size + 1, 0, none⟩ (.int .i64 m.blk) (by show w.heap.size + 1 ≠ g; omega) (by show B ≤ w.heap.size + 1; omega) hw1 (by show w.heap.size ≤ w.heap.size + 1; omega)).aside ⟨w.heap.size + 1, 1, none⟩ (.bool false) (by show w.heap.size + 1 ≠ g; omega) (by show B ≤ w.heap.size + 1; omega) hw1 (by show w.heap.size ≤ w.heap.size + 1; omega)).aside ⟨w.heap.size + 1, 2, none⟩ (.int .i64 (-1)) (by show w.heap.size + 1 ≠ g; omega) (by show B ≤ w.heap.size + 1; omega) hw1 (by show w.heap.size ≤ w.heap.size + 1; omega)).aside ⟨w.heap.size + 1, 3, none⟩ (.bool false) (by show w.heap.size + 1 ≠ g; omega) (by show B ≤ w.heap.size + 1; omega) hw1 (by show w.heap.size ≤ w.heap.size + 1; omega))
  obtain ⟨w5, hw5⟩ : ∃ w5 : World, w5 = ((((w4.setCell ⟨w.heap.size + 1, 0, none⟩ (.int .i64 m.blk)).setCell ⟨w.heap.size + 1, 1, none⟩ (.bool false)).setCell ⟨w.heap.size + 1, 2, none⟩ (.int .i64 (-1))).setCell ⟨w.heap.size + 1, 3, none⟩ (.bool false)) := ⟨_, rfl⟩
  have hs5 : w5.heap.size = w4.heap.size := by rw [hw5]; simp
  have x0 : w5.cell? ⟨w.heap.size, 0, none⟩ = some (.pointer (some ⟨g, 0, none⟩)) := by rw [hw5]; go_simp
  have y0 : w5.cell? ⟨w.heap.size + 1, 0, none⟩ = some (.int .i64 m.blk) := by rw [hw5]; go_simp
  have y1 : w5.cell? ⟨w.heap.size + 1, 1, none⟩ = some (.bool false) := by rw [hw5]; go_simp
  have y2 : w5.cell? ⟨w.heap.size + 1, 2, none⟩ = some (.int .i64 (-1)) := by rw [hw5]; go_simp
  have y3 : w5.cell? ⟨w.heap.size + 1, 3, none⟩ = some (.bool false) := by rw [hw5]; go_simp
  have x1 : w5.cell? ⟨w.heap.size + 1 + 1, 0, none⟩ = some (.bool false) := by rw [hw5]; go_simp
  have ft : ∀ i, w5.frozen? ⟨w.heap.size + 1, i, none⟩ = false := fun i => by rw [hw5]; go_simp
  have fd : w5.frozen? ⟨w.heap.size + 1 + 1, 0, none⟩ = false := by rw [hw5]; go_simp
  rw [← hw5] at W5 ⊢
  rw [← hs5] at hz4 hz5 hz6 hz7
  clear hw5 z0 t0 t1 t2 t3 d0 zt zd q1 q2 q3 W4 hs5
  as_aux_lemma =>
    with_reducible refine (D1.out _ W5.out.mach).mono ?_
    rintro e w7 ⟨rfl, hw⟩
    have hk7 : ∀ i, i < w5.heap.size → i ≠ g → some i ≠ pv.ownBlock → w7.heap[i]? = w5.heap[i]? := hw.trn.block
    have hs7 : w5.heap.size ≤ w7.heap.size := hw.trn.size
    have hn0 := hk7 w.heap.size (by omega) (by omega) (fun e => by have := hpo.out _ e.symm; omega)
    have hn1 := hk7 (w.heap.size + 1) (by omega) (by omega) (fun e => by have := hpo.out _ e.symm; omega)
    have hn2 := hk7 (w.heap.size + 1 + 1) (by omega) (by omega) (fun e => by have := hpo.out _ e.symm; omega)
    have hnew : ∀ j, some j = pv.ownBlock → j < w.heap.size := fun j e => hpo.out j e.symm
    have hnw1 : ∀ k, pv.ownBlock = some k → k ≠ w.heap.size + 1 := fun k e h => by
      have := hnew k e.symm
      omega
    have hnw2 : ∀ k, pv.ownBlock = some k → k ≠ w.heap.size + 1 + 1 := fun k e h => by
      have := hnew k e.symm
      omega
    have W7 := hid (W5.out.trans hw)
    have v0 := (World.cell?_of_block (a := ⟨w.heap.size, 0, none⟩) hn0).trans x0
    have u0 := (World.cell?_of_block (a := ⟨w.heap.size + 1, 0, none⟩) hn1).trans y0
    have u1 := (World.cell?_of_block (a := ⟨w.heap.size + 1, 1, none⟩) hn1).trans y1
    have u2 := (World.cell?_of_block (a := ⟨w.heap.size + 1, 2, none⟩) hn1).trans y2
    have u3 := (World.cell?_of_block (a := ⟨w.heap.size + 1, 3, none⟩) hn1).trans y3
    have v1 := (World.cell?_of_block (a := ⟨w.heap.size + 1 + 1, 0, none⟩) hn2).trans x1
    have gt : ∀ i, w7.frozen? ⟨w.heap.size + 1, i, none⟩ = false := fun i => (World.frozen?_of_block (a := ⟨w.heap.size + 1, i, none⟩) hn1).trans (ft i)
    have gd : w7.frozen? ⟨w.heap.size + 1 + 1, 0, none⟩ = false := (World.frozen?_of_block (a := ⟨w.heap.size + 1 + 1, 0, none⟩) hn2).trans fd
    have s5 : w7.cell? ⟨g, 293, none⟩ = some (.int .i64 m.steps) := by rw [← hes.out]; exact W7.out.mach.cells.cell 293 (by decide)
    have fg : ∀ i, w7.frozen? ⟨g, i, none⟩ = false := W7.out.mach.cells.frozen
    have zz4 : w.heap.size + 1 + 1 < w7.heap.size := by omega
    have zz5 : w.heap.size + 1 < w7.heap.size := by omega
    have zz6 : w.heap.size < w7.heap.size := by omega
    have zz7 : g < w7.heap.size := by omega
    have hst2 : (m.steps : Int) < 9223372036854775807 := by omega
    have ne1 : ¬ w.heap.size = g := by omega
    have ne2 : ¬ g = w.heap.size := by omega
    have ne3 : ¬ w.heap.size + 1 = g := by omega
    have ne4 : ¬ g = w.heap.size + 1 := by omega
    have ne5 : ¬ w.heap.size + 1 + 1 = g := by omega
    have ne6 : ¬ g = w.heap.size + 1 + 1 := by omega
    clear hk7 hs7 hn0 hn1 hn2 hw x0 x1 y0 y1 y2 y3 ft fd W5 hz4 hz5 hz6 hz7 D1 hes
    clear hnew
    replace hnw1 := hid hnw1
    replace hnw2 := hid hnw2
    go_wp2
    replace hnw1 := hnw1.out
    replace hnw2 := hnw2.out
    with_reducible refine door_idle _ _ _ _ (Tg.mk m.blk false (-1)) true ?_ ?_ ?_ ?_ ?_ ?_ ?_ (hfin.out _ pv ?_)
    · rfl
    · rfl
    · go_simp
    · go_simp
    · go_simp
    · go_simp
    · go_simp
    · exact ((((((W7.out.steps (m.steps + 1)).aside ⟨w.heap.size + 1, 0, none⟩ (.int .i64 m.blk) (by show w.heap.size + 1 ≠ g; omega) (by show B ≤ w.heap.size + 1; omega) hnw1 (by show w.heap.size ≤ w.heap.size + 1; omega)).aside ⟨w.heap.size + 1, 1, none⟩ (.bool false) (by show w.heap.size + 1 ≠ g; omega) (by show B ≤ w.heap.size + 1; omega) hnw1 (by show w.heap.size ≤ w.heap.size + 1; omega)).aside ⟨w.heap.size + 1, 2, none⟩ (.int .i64 (-1)) (by show w.heap.size + 1 ≠ g; omega) (by show B ≤ w.heap.size + 1; omega) hnw1 (by show w.heap.size ≤ w.heap.size + 1; omega)).aside ⟨w.heap.size + 1, 3, none⟩ (.bool false) (by show w.heap.size + 1 ≠ g; omega) (by show B ≤ w.heap.size + 1; omega) hnw1 (by show w.heap.size ≤ w.heap.size + 1; omega)).aside ⟨w.heap.size + 1 + 1, 0, none⟩ (.bool true) (by show w.heap.size + 1 + 1 ≠ g; omega) (by show B ≤ w.heap.size + 1 + 1; omega) hnw2 (by show w.heap.size ≤ w.heap.size + 1 + 1; omega))
end
end Go.Proofs.Ytcibkoodnfkogaa
