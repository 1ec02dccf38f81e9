/- A step of the machine. -/
import Derived.Test.YtcibkoodnfkogaaY23
import Derived.StillTailTactics
namespace Go.Proofs.Ytcibkoodnfkogaa
open Go.RowKit
set_option linter.unusedVariables false
set_option linter.unusedSimpArgs false
section
open Go.RowKit
/-- An operation that is done, whichever. -/
theorem do_any (o : Op) (hoo : opOk o = true) (hw : o.wf) : ∃ F, doV o.k.toNat = .func (.func F) #[] #[] ∧ (∀ (args : Array Value) (w : World), (callFunc F args).run Try.prog w = .ok (.enter F args) w) ∧ ∀ (g B : Nat) (S : Nat → Prop) (A : Option Addr) (l : List Blk) (cap : Nat) (pv : Value) (m : Mc) (w : World), Mach w g 158 322 B S A l cap 2 pv m doX → m.ok l → m.prints.length ≤ 10000000000000 → opT o m.R = false →
    Calls Try.prog F #[.pointer (some ⟨g, 0, none⟩), o.val] w (DoneS g B S A l cap pv m o w) := by
  obtain ⟨hk1, hk17, hd0, hd1, ha0, ha1, hb0, hb1, hn0, hn1⟩ := opOk_bd hoo hw
  have hv : ∀ k : Nat, o.k = k → doV o.k.toNat = doV k := fun k h => by rw [h]; rfl
  by_cases h1 : o.k = 1
  · exact ⟨126, by rw [hv 1 h1]; rfl, fun args w => by go_simp, fun g B S A l cap pv m w h hok hpl hT => do_const o h h1 hd0 hd1 hok.r32⟩
  by_cases h2 : o.k = 15
  · exact ⟨127, by rw [hv 15 h2]; rfl, fun args w => by go_simp, fun g B S A l cap pv m w h hok hpl hT => do_load o h h2 hw hd0 hd1 ha1 hok.r32 hok.ri⟩
  by_cases h3 : o.k = 16
  · exact ⟨129, by rw [hv 16 h3]; rfl, fun args w => by go_simp, fun g B S A l cap pv m w h hok hpl hT => do_store o h h3 hw ha1 hb1 hok.m256 hok.ri⟩
  by_cases h4 : o.k = 17
  · exact ⟨130, by rw [hv 17 h4]; rfl, fun args w => by go_simp, fun g B S A l cap pv m w h hok hpl hT => do_print o h h4 hw ha1 hpl⟩
  · refine ⟨125, ?_, fun args w => by go_simp, fun g B S A l cap pv m w h hok hpl hT => do_reckon o h ⟨by omega, by omega⟩ hw hd1 ha1 hb1 hok.r32 hok.ri hT⟩
    unfold doV
    rw [if_neg (by omega), if_neg (by omega), if_neg (by omega), if_neg (by omega), if_pos (by omega)]
theorem still_tail_drew {P : Program} {id : Nat} {Q : Exit → Act → World → Prop} {a : Act} {w : World} {l : List Oper} (n : Nat) (hm : P.follows .mixedOrders = true) (hB : Region.lexTailB .any l.toArray n = true)
    (h : wpStill P l.toArray w.drew (fun a' => wpList P l.toArray Q (l.drop n) a' w.drew) (l.take n) a) : (Code.region id l.toArray true).wp P Q a w := wp_region_still_tail n hm hB h
theorem cell_drew (w : World) (a : Addr) : w.drew.cell? a = w.cell? a := rfl
/-- Behind a step. -/
def StepS (g : Nat) (B : Nat) (S : Nat → Prop) (A : Option Addr) (l : List Blk) (cap : Nat) (pv : Value) (m : Mc) (w : World) (e : Ending) (w' : World) : Prop :=
  e = .returned (.tuple #[(stepT l m).val, .bool (stepD l m)]) ∧ ∃ pv', Went w pv.ownBlock w' g 158 322 B S A l cap 2 pv' (stepM l m) doX
set_option maxHeartbeats 4000000 in
set_option maxRecDepth 100000 in
theorem step_over1 {g B : Nat} {S : Nat → Prop} {A : Option Addr} {l : List Blk} {cap : Nat} {pv : Value} {m : Mc} {w : World} (h : Mach w g 158 322 B S A l cap 2 pv m doX) (hp : PrgOk l) (hok : m.ok l) (hst : m.steps ≤ 10000000000000) (hov : m.over = true) :
    Calls Try.prog 98 #[.pointer (some ⟨g, 0, none⟩)] w (StepS g B S A l cap pv m w) := by
  have hmf : ∀ (fn : Fn) (first cap : Array Value) (w : World), (Instr.makeFunc fn first cap).run Try.prog w = .ok (.func fn first cap) w := fun _ _ _ _ => rfl
  have r1 : w.cell? ⟨g, 289, none⟩ = some (.int .i64 m.blk) := h.cells.cell 289 (by decide)
  have r2 : w.cell? ⟨g, 290, none⟩ = some (.bool m.body) := h.cells.cell 290 (by decide)
  have r3 : w.cell? ⟨g, 291, none⟩ = some (.int .i64 m.pos) := h.cells.cell 291 (by decide)
  have r5 : w.cell? ⟨g, 293, none⟩ = some (.int .i64 m.steps) := h.cells.cell 293 (by decide)
  have r7 : w.cell? ⟨g, 295, none⟩ = some (.bool m.over) := h.cells.cell 295 (by decide)
  have hgl := h.cells.lt
  have hgl1 : g < w.heap.size + 1 := by omega
  have hgl2 : g < w.heap.size + 1 + 1 := by omega
  have W0 := hid h.went
  have e1 : stepM l m = m := by unfold stepM; rw [if_pos hov]
  have e2 : stepD l m = false := by unfold stepD; rw [hov]; rfl
  have e3 : stepT l m = Tg.none := by unfold stepT; rw [if_pos hov]
  have hfin : Hid (∀ (w' : World) pv', Went w pv.ownBlock w' g 158 322 B S A l cap 2 pv' m doX → StepS g B S A l cap pv m w (.returned (.tuple #[Tg.none.val, .bool false])) w') := hid fun w' pv' h => by
    refine ⟨by rw [e2, e3], pv', by rw [e1]; exact h⟩
  rw [hov] at r7
  clear h hp hok e1 e2 e3 hov
  go_enter_defers Try.func98, Try.ntmps98
  go_wp2
  exact ⟨.tuple #[Tg.none.val, .bool false], by simp [results, Try.results98, go_sem, Tg.none, Tg.val], hfin.out _ pv (((W0.out.alloc _).alloc _).alloc _)⟩
set_option maxHeartbeats 4000000 in
set_option maxRecDepth 100000 in
theorem door_idle (tm : Array Value) (w : World) (R : Ending → World → Prop) (n0 : Nat) (t : Tg) (d : Bool) (h2 : tm[2]? = some (.pointer (some ⟨n0 + 1, 0, none⟩))) (h3 : tm[3]? = some (.pointer (some ⟨n0 + 1 + 1, 0, none⟩)))
    (c0 : w.cell? ⟨n0 + 1, 0, none⟩ = some (.int .i64 t.blk)) (c1 : w.cell? ⟨n0 + 1, 1, none⟩ = some (.bool t.loop)) (c2 : w.cell? ⟨n0 + 1, 2, none⟩ = some (.int .i64 t.op)) (c3 : w.cell? ⟨n0 + 1, 3, none⟩ = some (.bool false))
    (c4 : w.cell? ⟨n0 + 1 + 1, 0, none⟩ = some (.bool d)) (hR : R (.returned (.tuple #[t.val, .bool d])) w) :
    bodyPostD Try.prog Try.f98 R Exit.ret { tmps := tm, defers := [{ target := Target.fn (Fn.func 131) #[.pointer (some ⟨n0, 0, none⟩), .pointer (some ⟨n0 + 1, 0, none⟩), .pointer (some ⟨n0 + 1 + 1, 0, none⟩)], args := #[] }] } w := by
  refine leaves_cons (f := 131) (args := #[.pointer (some ⟨n0, 0, none⟩), .pointer (some ⟨n0 + 1, 0, none⟩), .pointer (some ⟨n0 + 1 + 1, 0, none⟩)]) (by simp) (by simp [go_sem]) ?_
  refine (catch_idle _ _ _ _).mono ?_
  rintro e u' w'' ⟨rfl, rfl, rfl⟩
  exact ⟨.tuple #[t.val, .bool d], by simp [results, Try.results98, go_sem, h2, h3, c0, c1, c2, c3, c4, Tg.val], hR⟩
set_option maxHeartbeats 4000000 in
set_option maxRecDepth 100000 in
theorem door_trap (tm : Array Value) (w : World) (R : Ending → World → Prop) (n0 g : Nat) (t0 t1 t2 t3 d0 o0 o1 : Value) (h2 : tm[2]? = some (.pointer (some ⟨n0 + 1, 0, none⟩))) (h3 : tm[3]? = some (.pointer (some ⟨n0 + 1 + 1, 0, none⟩)))
    (hm : w.cell? ⟨n0, 0, none⟩ = some (.pointer (some ⟨g, 0, none⟩)))
    (h5 : w.cell? ⟨g, 295, none⟩ = some o0) (h6 : w.cell? ⟨g, 296, none⟩ = some o1) (f5 : w.frozen? ⟨g, 295, none⟩ = false) (f6 : w.frozen? ⟨g, 296, none⟩ = false)
    (k0 : w.cell? ⟨n0 + 1, 0, none⟩ = some t0) (k1 : w.cell? ⟨n0 + 1, 1, none⟩ = some t1) (k2 : w.cell? ⟨n0 + 1, 2, none⟩ = some t2) (k3 : w.cell? ⟨n0 + 1, 3, none⟩ = some t3) (kd : w.cell? ⟨n0 + 1 + 1, 0, none⟩ = some d0)
    (z : ∀ i, w.frozen? ⟨n0 + 1, i, none⟩ = false) (zd : w.frozen? ⟨n0 + 1 + 1, 0, none⟩ = false) (hg : g < n0)
    (hR : R (.returned (.tuple #[Tg.none.val, .bool false])) ((((((((w.setCell ⟨g, 295, none⟩ (.bool true)).setCell ⟨g, 296, none⟩ (.int .i64 101)).setCell ⟨n0 + 1, 0, none⟩ (.int .i64 0)).setCell ⟨n0 + 1, 1, none⟩ (.bool false)).setCell ⟨n0 + 1, 2, none⟩ (.int .i64 0)).setCell ⟨n0 + 1, 3, none⟩ (.bool false)).setCell ⟨n0 + 1 + 1, 0, none⟩ (.bool false)).alloc (.cells #[] 196))) :
    bodyPostD Try.prog Try.f98 R (Exit.panic [{ v := .iface 196 (.agg #[]), recovered := false }]) { tmps := tm, defers := [{ target := Target.fn (Fn.func 131) #[.pointer (some ⟨n0, 0, none⟩), .pointer (some ⟨n0 + 1, 0, none⟩), .pointer (some ⟨n0 + 1 + 1, 0, none⟩)], args := #[] }] } w := by
  have z1 : n0 + 1 + 1 < w.heap.size := World.block_lt_of_cell? w _ kd
  have z2 : n0 + 1 < w.heap.size := by omega
  refine leaves_cons (f := 131) (args := #[.pointer (some ⟨n0, 0, none⟩), .pointer (some ⟨n0 + 1, 0, none⟩), .pointer (some ⟨n0 + 1 + 1, 0, none⟩)]) (by simp) (by simp [go_sem]) ?_
  refine (catch_trap g _ _ _ _ _ _ _ _ _ _ _ hm h5 h6 f5 f6 k0 k1 k2 k3 kd (z 0) (z 1) (z 2) (z 3) zd (by omega) (by omega) (by omega) (by omega)).mono ?_
  rintro e u' w'' ⟨rfl, rfl, rfl⟩
  have e1 : ¬ g = n0 + 1 := by omega
  have e2 : ¬ n0 + 1 = g := by omega
  have e3 : ¬ g = n0 + 1 + 1 := by omega
  have e4 : ¬ n0 + 1 + 1 = g := by omega
  exact ⟨.tuple #[Tg.none.val, .bool false], by simp [results, Try.results98, go_sem, h2, h3, k0, k1, k2, k3, kd, Tg.val, Tg.none, z1, z2], hR⟩
end
/- A step of the machine: an operation that is done. -/
section
open Go.RowKit
set_option maxHeartbeats 40000000 in
set_option maxRecDepth 100000 in
theorem step_done {g B : Nat} {S : Nat → Prop} {A : Option Addr} {l : List Blk} {cap : Nat} {pv : Value} {m : Mc} {w : World} (h : Mach w g 158 322 B S A l cap 2 pv m doX) (hp : PrgOk l) (hok : m.ok l) (hst : m.steps ≤ 10000000000000) (hov : m.over = false) (hlt : m.pos < (lstS l m).length) (hT : opT (lstS l m)[m.pos] m.R = false) :
    Calls Try.prog 98 #[.pointer (some ⟨g, 0, none⟩)] w (StepS g B S A l cap pv m w) := by
  have hmf : ∀ (fn : Fn) (first cap : Array Value) (w : World), (Instr.makeFunc fn first cap).run Try.prog w = .ok (.func fn first cap) w := fun _ _ _ _ => rfl
  have r1 : w.cell? ⟨g, 289, none⟩ = some (.int .i64 m.blk) := h.cells.cell 289 (by decide)
  have r2 : w.cell? ⟨g, 290, none⟩ = some (.bool m.body) := h.cells.cell 290 (by decide)
  have r3 : w.cell? ⟨g, 291, none⟩ = some (.int .i64 m.pos) := h.cells.cell 291 (by decide)
  have r5 : w.cell? ⟨g, 293, none⟩ = some (.int .i64 m.steps) := h.cells.cell 293 (by decide)
  have r7 : w.cell? ⟨g, 295, none⟩ = some (.bool m.over) := h.cells.cell 295 (by decide)
  have hgl := h.cells.lt
  have hgl1 : g < w.heap.size + 1 := by omega
  have hgl2 : g < w.heap.size + 1 + 1 := by omega
  have W0 := hid h.went
  rw [hov] at r7
  have L1 := hid (fun (w' : World) (h : Mach w' g 158 322 B S A l cap 2 pv m doX) => list_any h hok.blk hp.n1)
  have hB := h.bw
  have hgB := h.gB
  have hpo : Hid (∀ k, pv.ownBlock = some k → k < w.heap.size) := hid fun k e => (own_ge h.own k e).2
  have hoo := lst_mem hp (List.getElem?_eq_getElem hlt)
  obtain ⟨F, hF, hcf, hdo⟩ := do_any _ hoo.1 hoo.2
  have HG := hid (fun (w' : World) (L : Option Addr) (h : OpsIn w' L (lstS l m)) => h.get m.pos hlt)
  have HNE := hid (show lstS l m ≠ [] by intro e; rw [e] at hlt; simp at hlt)
  have hx : (lstS l m)[m.pos]? = some (lstS l m)[m.pos] := List.getElem?_eq_getElem hlt
  have rd := h.cells.cell (298 + (lstS l m)[m.pos].k.toNat) (by have := (opOk_bd hoo.1 hoo.2).2.1; omega)
  have hij : (m.pos : Int) < ((lstS l m).length : Int) := by omega
  have hln := hid (show (lstS l m).length ≤ 1024 by
    obtain ⟨b, hb⟩ : ∃ b, l[m.blk]? = some b := ⟨_, List.getElem?_eq_getElem hok.blk⟩
    have hm := List.mem_of_getElem? hb
    cases hbd : m.body
    · rw [lst_ops hb hbd]; exact hp.m0 b hm
    · rw [lst_body hb hbd]; exact hp.m1 b hm)
  have hpl : m.prints.length ≤ 10000000000000 := Nat.le_trans hok.pl hst
  have hk0 := (opOk_bd hoo.1 hoo.2).1
  have hk17 := (opOk_bd hoo.1 hoo.2).2.1
  generalize (lstS l m)[m.pos] = o at *
  have e1 : stepM l m = { opS o m with steps := m.steps + 1 } := by unfold stepM; rw [if_neg (by rw [hov]; decide), hx]; simp only; rw [if_neg (by rw [hT]; decide)]
  have e2 : stepD l m = true := by unfold stepD stuckS; rw [hov, hx]; simp only; rw [hT]; rfl
  have e3 : stepT l m = ⟨m.blk, m.body, m.pos⟩ := by unfold stepT; rw [if_neg (by rw [hov]; decide), hx]; simp only; rw [if_neg (by rw [hT]; decide)]
  have hfin : Hid (∀ (w' : World) pv', Went w pv.ownBlock w' g 158 322 B S A l cap 2 pv' { opS o m with steps := m.steps + 1 } doX → StepS g B S A l cap pv m w (.returned (.tuple #[Tg.val ⟨m.blk, m.body, m.pos⟩, .bool true])) w') := hid fun w' pv' h => by
    refine ⟨by rw [e2, e3], pv', by rw [e1]; exact h⟩
  have D1 := hid (fun (w' : World) (h : Mach w' g 158 322 B S A l cap 2 pv m doX) => hdo g B S A l cap pv m w' h hok hpl hT)
  have hrd : w.cell? ⟨g, 298 + o.k.toNat, none⟩ = some (.func (.func F) #[] #[]) := by
    rw [rd, ← hF]
    unfold mcell doX
    simp only [show ¬ 298 + o.k.toNat = 0 by omega, show ¬ 298 + o.k.toNat < 33 by omega, show ¬ 298 + o.k.toNat < 289 by omega, show ¬ 298 + o.k.toNat = 289 by omega, show ¬ 298 + o.k.toNat = 290 by omega, show ¬ 298 + o.k.toNat = 291 by omega, show ¬ 298 + o.k.toNat = 292 by omega, show ¬ 298 + o.k.toNat = 293 by omega, show ¬ 298 + o.k.toNat = 294 by omega, show ¬ 298 + o.k.toNat = 295 by omega, show ¬ 298 + o.k.toNat = 296 by omega, show ¬ 298 + o.k.toNat = 297 by omega, if_false, Nat.add_sub_cancel_left]
  clear e1 e2 e3 rd hdo hF hp hok hoo hx hov h hT
  obtain ⟨k, d, a, b, n⟩ := o
  obtain ⟨k, rfl⟩ := Int.eq_ofNat_of_zero_le (show 0 ≤ k by simp only at hk0; omega)
  have hkk : k < 24 := by simp only at hk17; omega
  simp only [Int.toNat_natCast] at hrd
  have hkk2 := hid (show (k : Int) < 24 by omega)
  go_enter_defers Try.func98, Try.ntmps98
  go_wp2_with fail
  with_reducible refine (L1.out _ (((W0.out.alloc _).alloc _).alloc _).mach).mono ?_
  rintro e w4 ⟨L, c, rfl, hO, hc, hb, hsp⟩
  obtain ⟨q, oo, rfl, hq⟩ := HG.out _ _ hO
  obtain ⟨c0, c1, c2, c3, c4⟩ := hq
  have hsq := W0.out.mach.sb q (hsp HNE.out _ rfl)
  have hql : q < w4.heap.size := World.block_lt_of_cell? w4 _ c0
  have W4 := hid ((((W0.out.alloc _).alloc _).alloc _).below hb)
  have hz4 : w.heap.size + 1 + 1 < w4.heap.size := by have := hb.size; simp at this; omega
  have hz5 : w.heap.size + 1 < w4.heap.size := by omega
  have hz6 : w.heap.size < w4.heap.size := by omega
  have hz7 : g < w4.heap.size := by omega
  have z0 : w4.cell? ⟨w.heap.size, 0, none⟩ = some (.pointer (some ⟨g, 0, none⟩)) := cell_keep (by go_simp) hb
  have t0 : w4.cell? ⟨w.heap.size + 1, 0, none⟩ = some (.int .i64 0) := cell_keep (by go_simp) hb
  have t1 : w4.cell? ⟨w.heap.size + 1, 1, none⟩ = some (.bool false) := cell_keep (by go_simp) hb
  have t2 : w4.cell? ⟨w.heap.size + 1, 2, none⟩ = some (.int .i64 0) := cell_keep (by go_simp) hb
  have t3 : w4.cell? ⟨w.heap.size + 1, 3, none⟩ = some (.bool false) := cell_keep (by go_simp) hb
  have d0 : w4.cell? ⟨w.heap.size + 1 + 1, 0, none⟩ = some (.bool false) := cell_keep (by go_simp) hb
  have zt : ∀ i, w4.frozen? ⟨w.heap.size + 1, i, none⟩ = false := fun i => ((bcell hb).2 _ i (by simp)).trans (by go_simp)
  have zd : w4.frozen? ⟨w.heap.size + 1 + 1, 0, none⟩ = false := ((bcell hb).2 _ 0 (by simp)).trans (by go_simp)
  have q1 : w4.cell? ⟨g, 289, none⟩ = some (.int .i64 m.blk) := W4.out.mach.cells.cell 289 (by decide)
  have q2 : w4.cell? ⟨g, 290, none⟩ = some (.bool m.body) := W4.out.mach.cells.cell 290 (by decide)
  have q3 : w4.cell? ⟨g, 291, none⟩ = some (.int .i64 m.pos) := W4.out.mach.cells.cell 291 (by decide)
  have q8 : w4.cell? ⟨g, 298 + k, none⟩ = some (.func (.func F) #[] #[]) := cell_keep hrd (btrans (a := w) (by ((with_reducible (repeat (first | assumption | exact Below.refl _ _ | refine bset ?_ (Nat.le_refl _) _ | refine balloc ?_ _ | refine bdrew ?_ | refine bdrewN ?_ _))); done)) hb)
  clear hb r1 r2 r3 r5 r7 hrd hO
  simp only at c0 c1 c2 c3 c4
  go_upto_region 7 with (fail)
  go_region
  go_upto_region 8 with (fail)
  have hq1 : q ≠ w.heap.size + 1 := by omega
  have hq2 : ¬ w.heap.size + 1 = q := by omega
  have hw1 : ∀ k, pv.ownBlock = some k → k ≠ w.heap.size + 1 := fun k e => by have := hpo.out k e; omega
  have W5 := hid ((((((W4.out.aside ⟨w.heap.size + 1, 0, none⟩ (.int .i64 m.blk) (by show w.heap.size + 1 ≠ g; omega) (by show B ≤ w.heap.size + 1; omega) hw1 (by show w.heap.size ≤ w.heap.size + 1; omega)).aside ⟨w.heap.size + 1, 1, none⟩ (.bool false) (by show w.heap.size + 1 ≠ g; omega) (by show B ≤ w.heap.size + 1; omega) hw1 (by show w.heap.size ≤ w.heap.size + 1; omega)).aside ⟨w.heap.size + 1, 2, none⟩ (.int .i64 (-1)) (by show w.heap.size + 1 ≠ g; omega) (by show B ≤ w.heap.size + 1; omega) hw1 (by show w.heap.size ≤ w.heap.size + 1; omega)).aside ⟨w.heap.size + 1, 3, none⟩ (.bool false) (by show w.heap.size + 1 ≠ g; omega) (by show B ≤ w.heap.size + 1; omega) hw1 (by show w.heap.size ≤ w.heap.size + 1; omega)).aside ⟨w.heap.size + 1, 1, none⟩ (.bool m.body) (by show w.heap.size + 1 ≠ g; omega) (by show B ≤ w.heap.size + 1; omega) hw1 (by show w.heap.size ≤ w.heap.size + 1; omega)).aside ⟨w.heap.size + 1, 2, none⟩ (.int .i64 m.pos) (by show w.heap.size + 1 ≠ g; omega) (by show B ≤ w.heap.size + 1; omega) hw1 (by show w.heap.size ≤ w.heap.size + 1; omega)).drew
  obtain ⟨w5, hw5⟩ : ∃ w5 : World, w5 = ((((((w4.setCell ⟨w.heap.size + 1, 0, none⟩ (.int .i64 m.blk)).setCell ⟨w.heap.size + 1, 1, none⟩ (.bool false)).setCell ⟨w.heap.size + 1, 2, none⟩ (.int .i64 (-1))).setCell ⟨w.heap.size + 1, 3, none⟩ (.bool false)).setCell ⟨w.heap.size + 1, 1, none⟩ (.bool m.body)).setCell ⟨w.heap.size + 1, 2, none⟩ (.int .i64 m.pos)).drew := ⟨_, rfl⟩
  have hs5 : w5.heap.size = w4.heap.size := by rw [hw5]; simp
  have x0 : w5.cell? ⟨w.heap.size, 0, none⟩ = some (.pointer (some ⟨g, 0, none⟩)) := by rw [hw5]; go_simp
  have y0 : w5.cell? ⟨w.heap.size + 1, 0, none⟩ = some (.int .i64 m.blk) := by rw [hw5]; go_simp
  have y1 : w5.cell? ⟨w.heap.size + 1, 1, none⟩ = some (.bool m.body) := by rw [hw5, cell_drew]; exact set_other (set_same (x := .bool false) (by go_simp)) (by simp)
  have y2 : w5.cell? ⟨w.heap.size + 1, 2, none⟩ = some (.int .i64 m.pos) := by rw [hw5, cell_drew]; exact set_same (x := .int .i64 (-1)) (by go_simp)
  have y3 : w5.cell? ⟨w.heap.size + 1, 3, none⟩ = some (.bool false) := by rw [hw5]; go_simp
  have x1 : w5.cell? ⟨w.heap.size + 1 + 1, 0, none⟩ = some (.bool false) := by rw [hw5]; go_simp
  have k0 : w5.cell? ⟨q, oo + m.pos * 5, none⟩ = some (.int .i8 k) := by rw [hw5]; go_simp
  have k1 : w5.cell? ⟨q, oo + m.pos * 5 + 1, none⟩ = some (.int .u8 d) := by rw [hw5]; go_simp
  have k2 : w5.cell? ⟨q, oo + m.pos * 5 + 2, none⟩ = some (.int .u8 a) := by rw [hw5]; go_simp
  have k3 : w5.cell? ⟨q, oo + m.pos * 5 + 3, none⟩ = some (.int .u8 b) := by rw [hw5]; go_simp
  have k4 : w5.cell? ⟨q, oo + m.pos * 5 + 4, none⟩ = some (.int .i64 n) := by rw [hw5]; go_simp
  have g8 : w5.cell? ⟨g, 298 + k, none⟩ = some (.func (.func F) #[] #[]) := by rw [hw5]; go_simp
  have g3 : w5.cell? ⟨g, 291, none⟩ = some (.int .i64 m.pos) := by rw [hw5]; go_simp
  have ft : ∀ i, w5.frozen? ⟨w.heap.size + 1, i, none⟩ = false := fun i => by rw [hw5]; go_simp
  have fd : w5.frozen? ⟨w.heap.size + 1 + 1, 0, none⟩ = false := by rw [hw5]; go_simp
  rw [← hw5] at W5 ⊢
  rw [← hs5] at hql hz4 hz5 hz6 hz7
  clear hw5 c0 c1 c2 c3 c4 z0 t0 t1 t2 t3 d0 zt zd q1 q2 q3 q8 W4 hs5
  as_aux_lemma =>
    have hkk3 := hkk2.out
    with_reducible refine still_tail_drew 24 (by kernel_rfl) (by kernel_rfl) ?_
    simp only [List.take_succ_cons, List.take_zero, List.drop_succ_cons, List.drop_zero]
    repeat (with_reducible refine wpStill_step (fun K hK => ?_); go_simp; with_reducible refine hK _ ?_; clear hK K)
    try with_reducible refine wpStill_nil ?_
    go_wp2_with fail
    with_reducible refine (D1.out _ (W5.out.drew.mach)).mono ?_
    rintro e w7 ⟨rfl, pv', hw⟩
    have hk7 : ∀ i, i < w5.heap.size → i ≠ g → some i ≠ pv.ownBlock → w7.heap[i]? = w5.heap[i]? := hw.trn.block
    have hs7 : w5.heap.size ≤ w7.heap.size := hw.trn.size
    have hn0 := hk7 w.heap.size (by omega) (by omega) (fun e => by have := hpo.out _ e.symm; omega)
    have hn1 := hk7 (w.heap.size + 1) (by omega) (by omega) (fun e => by have := hpo.out _ e.symm; omega)
    have hn2 := hk7 (w.heap.size + 1 + 1) (by omega) (by omega) (fun e => by have := hpo.out _ e.symm; omega)
    have hnew : ∀ j, some j = pv'.ownBlock → j < w.heap.size ∨ w5.heap.size ≤ j := fun j e => by
      rcases hw.own with h | ⟨k, h, hk⟩
      · exact .inl (hpo.out j (by rw [← h]; exact e.symm))
      · rw [h] at e
        injection e with e
        subst e
        exact .inr hk
    have hnw1 : ∀ k, pv'.ownBlock = some k → k ≠ w.heap.size + 1 := fun k e h => by
      have := hnew k e.symm
      omega
    have hnw2 : ∀ k, pv'.ownBlock = some k → k ≠ w.heap.size + 1 + 1 := fun k e h => by
      have := hnew k e.symm
      omega
    have W7 := hid (W5.out.drew.trans hw)
    have v0 := (World.cell?_of_block (a := ⟨w.heap.size, 0, none⟩) hn0).trans x0
    have u0 := (World.cell?_of_block (a := ⟨w.heap.size + 1, 0, none⟩) hn1).trans y0
    have u1 := (World.cell?_of_block (a := ⟨w.heap.size + 1, 1, none⟩) hn1).trans y1
    have u2 := (World.cell?_of_block (a := ⟨w.heap.size + 1, 2, none⟩) hn1).trans y2
    have u3 := (World.cell?_of_block (a := ⟨w.heap.size + 1, 3, none⟩) hn1).trans y3
    have v1 := (World.cell?_of_block (a := ⟨w.heap.size + 1 + 1, 0, none⟩) hn2).trans x1
    have gt : ∀ i, w7.frozen? ⟨w.heap.size + 1, i, none⟩ = false := fun i => (World.frozen?_of_block (a := ⟨w.heap.size + 1, i, none⟩) hn1).trans (ft i)
    have gd : w7.frozen? ⟨w.heap.size + 1 + 1, 0, none⟩ = false := (World.frozen?_of_block (a := ⟨w.heap.size + 1 + 1, 0, none⟩) hn2).trans fd
    have s3 : w7.cell? ⟨g, 291, none⟩ = some (.int .i64 m.pos) := W7.out.mach.cells.cell 291 (by decide)
    have s5 : w7.cell? ⟨g, 293, none⟩ = some (.int .i64 m.steps) := W7.out.mach.cells.cell 293 (by decide)
    have fg : ∀ i, w7.frozen? ⟨g, i, none⟩ = false := W7.out.mach.cells.frozen
    have zz4 : w.heap.size + 1 + 1 < w7.heap.size := by omega
    have zz5 : w.heap.size + 1 < w7.heap.size := by omega
    have zz6 : w.heap.size < w7.heap.size := by omega
    have zz7 : g < w7.heap.size := by omega
    have hpos := hid (show m.pos + 1 ≤ 1024 by have := hln.out; omega)
    have hst2 : (m.steps : Int) < 9223372036854775807 := by omega
    have hps2 : (m.pos : Int) < 9223372036854775807 := by have := hpos.out; omega
    have ne1 : ¬ w.heap.size = g := by omega
    have ne2 : ¬ g = w.heap.size := by omega
    have ne3 : ¬ w.heap.size + 1 = g := by omega
    have ne4 : ¬ g = w.heap.size + 1 := by omega
    have ne5 : ¬ w.heap.size + 1 + 1 = g := by omega
    have ne6 : ¬ g = w.heap.size + 1 + 1 := by omega
    clear hk7 hs7 hn0 hn1 hn2 hw x0 x1 y0 y1 y2 y3 k0 k1 k2 k3 k4 g8 g3 ft fd W5 hql hz4 hz5 hz6 hz7 hcf D1 hkk2 hkk3
    clear HG L1 HNE hij hpl hk0 hk17 hkk hsp hc hq1 hq2 hsq hln hpo hw1
    clear hnew
    replace hnw1 := hid hnw1
    replace hnw2 := hid hnw2
    go_upto_region 12 with (fail)
    have W8 := hid ((W7.out.pos (m.pos + 1)).steps (m.steps + 1))
    have hcast : ((m.pos + 1 : Nat) : Int) = (m.pos : Int) + 1 := by omega
    have hcast2 : ((m.steps + 1 : Nat) : Int) = (m.steps : Int) + 1 := by omega
    rw [hcast, hcast2] at W8
    obtain ⟨w8, hw8⟩ : ∃ w8 : World, w8 = (w7.setCell ⟨g, 291, none⟩ (.int .i64 (m.pos + 1))).setCell ⟨g, 293, none⟩ (.int .i64 (m.steps + 1)) := ⟨_, rfl⟩
    have hx1 : ∀ (i j : Nat) (u : Value), j ≠ g → w7.cell? ⟨j, i, none⟩ = some u → w8.cell? ⟨j, i, none⟩ = some u := fun i j u hj h => by
      rw [hw8]
      exact set_other (set_other h (by intro e; injection e with e; exact hj e.symm)) (by intro e; injection e with e; exact hj e.symm)
    have u0 := hx1 _ _ _ (by omega) u0
    have u1 := hx1 _ _ _ (by omega) u1
    have u2 := hx1 _ _ _ (by omega) u2
    have u3 := hx1 _ _ _ (by omega) u3
    have v1 := hx1 _ _ _ (by omega) v1
    have gt : ∀ i, w8.frozen? ⟨w.heap.size + 1, i, none⟩ = false := fun i => by rw [hw8]; exact set_frozen (set_frozen (gt i))
    have gd : w8.frozen? ⟨w.heap.size + 1 + 1, 0, none⟩ = false := by rw [hw8]; exact set_frozen (set_frozen gd)
    rw [← hw8] at W8 ⊢
    generalize hmb : m.body = mb at u1 hfin
    clear hw8 hx1 v0 s3 s5 fg zz4 zz5 zz6 zz7 hst2 hps2 hpos W7 W0 hcast hcast2 hlt hst hmf
    go_wp2
    replace hnw1 := hnw1.out
    replace hnw2 := hnw2.out
    with_reducible refine door_idle _ _ _ _ (Tg.mk m.blk mb m.pos) true ?_ ?_ ?_ ?_ ?_ ?_ ?_ (hfin.out _ pv' ?_)
    · rfl
    · rfl
    · go_simp
    · go_simp
    · go_simp
    · go_simp
    · go_simp
    · exact (((((W8.out.aside ⟨w.heap.size + 1, 0, none⟩ (.int .i64 m.blk) (by show w.heap.size + 1 ≠ g; omega) (by show B ≤ w.heap.size + 1; omega) hnw1 (by show w.heap.size ≤ w.heap.size + 1; omega)).aside ⟨w.heap.size + 1, 1, none⟩ (.bool mb) (by show w.heap.size + 1 ≠ g; omega) (by show B ≤ w.heap.size + 1; omega) hnw1 (by show w.heap.size ≤ w.heap.size + 1; omega)).aside ⟨w.heap.size + 1, 2, none⟩ (.int .i64 m.pos) (by show w.heap.size + 1 ≠ g; omega) (by show B ≤ w.heap.size + 1; omega) hnw1 (by show w.heap.size ≤ w.heap.size + 1; omega)).aside ⟨w.heap.size + 1, 3, none⟩ (.bool false) (by show w.heap.size + 1 ≠ g; omega) (by show B ≤ w.heap.size + 1; omega) hnw1 (by show w.heap.size ≤ w.heap.size + 1; omega)).aside ⟨w.heap.size + 1 + 1, 0, none⟩ (.bool true) (by show w.heap.size + 1 + 1 ≠ g; omega) (by show B ≤ w.heap.size + 1 + 1; omega) hnw2 (by show w.heap.size ≤ w.heap.size + 1 + 1; omega))
end
end Go.Proofs.Ytcibkoodnfkogaa
