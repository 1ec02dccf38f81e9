/- A step of the machine. -/
import Derived.Test.YtpiagggnjppkhaaM9
import Derived.StillTailTactics
namespace Go.Proofs.Ytpiagggnjppkhaa
open Go.RowKit
set_option linter.unusedVariables false
set_option linter.unusedSimpArgs false
/-- An operation that is done, whichever. -/
theorem do_any (o : Op) (hoo : opOk o = true) (hw : o.wf) : ∃ F, doV o.k.toNat = .func (.func F) #[] #[] ∧ (∀ (args : Array Value) (w : World), (callFunc F args).run Try.prog w = .ok (.enter F args) w) ∧ ∀ (g B : Nat) (S : Nat → Prop) (A : Option Addr) (l : List Blk) (cap : Nat) (pv : Value) (m : Mc) (w : World), Mach w g 106 322 B S A l cap 2 pv m doX → m.ok l → m.prints.length ≤ 10000000000000 → opT o m.R = false →
    Calls Try.prog F #[.pointer (some ⟨g, 0, none⟩), o.val] w (DoneS g B S A l cap pv m o w) := by
  obtain ⟨hk1, hk17, hd0, hd1, ha0, ha1, hb0, hb1, hn0, hn1⟩ := opOk_bd hoo hw
  have hv : ∀ k : Nat, o.k = k → doV o.k.toNat = doV k := fun k h => by rw [h]; rfl
  by_cases h1 : o.k = 1
  · exact ⟨66, by rw [hv 1 h1]; rfl, fun args w => by go_simp, fun g B S A l cap pv m w h hok hpl hT => do_const o h h1 hd0 hd1 hok.r32⟩
  by_cases h2 : o.k = 15
  · exact ⟨67, by rw [hv 15 h2]; rfl, fun args w => by go_simp, fun g B S A l cap pv m w h hok hpl hT => do_load o h h2 hw hd0 hd1 ha1 hok.r32 hok.ri⟩
  by_cases h3 : o.k = 16
  · exact ⟨69, by rw [hv 16 h3]; rfl, fun args w => by go_simp, fun g B S A l cap pv m w h hok hpl hT => do_store o h h3 hw ha1 hb1 hok.m256 hok.ri⟩
  by_cases h4 : o.k = 17
  · exact ⟨70, by rw [hv 17 h4]; rfl, fun args w => by go_simp, fun g B S A l cap pv m w h hok hpl hT => do_print o h h4 hw ha1 hpl⟩
  · refine ⟨65, ?_, fun args w => by go_simp, fun g B S A l cap pv m w h hok hpl hT => do_reckon o h ⟨by omega, by omega⟩ hw hd1 ha1 hb1 hok.r32 hok.ri hT⟩
    unfold doV
    rw [if_neg (by omega), if_neg (by omega), if_neg (by omega), if_neg (by omega), if_pos (by omega)]
theorem still_tail_drew {P : Program} {id : Nat} {Q : Exit → Act → World → Prop} {a : Act} {w : World} {l : List Oper} (n : Nat) (hm : P.follows .mixedOrders = true) (hB : Region.lexTailB .any l.toArray n = true)
    (h : wpStill P l.toArray w.drew (fun a' => wpList P l.toArray Q (l.drop n) a' w.drew) (l.take n) a) : (Code.region id l.toArray true).wp P Q a w := wp_region_still_tail n hm hB h
theorem cell_drew (w : World) (a : Addr) : w.drew.cell? a = w.cell? a := rfl
/-- Behind a step. -/
def StepS (g : Nat) (B : Nat) (S : Nat → Prop) (A : Option Addr) (l : List Blk) (cap : Nat) (pv : Value) (m : Mc) (w : World) (e : Ending) (w' : World) : Prop :=
  e = .returned (.tuple #[(stepT l m).val, .bool (stepD l m)]) ∧ ∃ pv', Went w pv.ownBlock w' g 106 322 B S A l cap 2 pv' (stepM l m) doX
set_option maxHeartbeats 4000000 in
set_option maxRecDepth 100000 in
theorem step_over1 {g B : Nat} {S : Nat → Prop} {A : Option Addr} {l : List Blk} {cap : Nat} {pv : Value} {m : Mc} {w : World} (h : Mach w g 106 322 B S A l cap 2 pv m doX) (hp : PrgOk l) (hok : m.ok l) (hst : m.steps ≤ 10000000000000) (hov : m.over = true) :
    Calls Try.prog 46 #[.pointer (some ⟨g, 0, none⟩)] w (StepS g B S A l cap pv m w) := by
  have hmf : ∀ (fn : Fn) (first cap : Array Value) (w : World), (Instr.makeFunc fn first cap).run Try.prog w = .ok (.func fn first cap) w := fun _ _ _ _ => rfl
  have r1 : w.cell? ⟨g, 289, none⟩ = some (.int .i64 m.blk) := h.cells.cell 289 (by decide)
  have r2 : w.cell? ⟨g, 290, none⟩ = some (.bool m.body) := h.cells.cell 290 (by decide)
  have r3 : w.cell? ⟨g, 291, none⟩ = some (.int .i64 m.pos) := h.cells.cell 291 (by decide)
  have r5 : w.cell? ⟨g, 293, none⟩ = some (.int .i64 m.steps) := h.cells.cell 293 (by decide)
  have r7 : w.cell? ⟨g, 295, none⟩ = some (.bool m.over) := h.cells.cell 295 (by decide)
  have hgl := h.cells.lt
  have hgl1 : g < w.heap.size + 1 := by omega
  have hgl2 : g < w.heap.size + 1 + 1 := by omega
  have W0 := hid h.went
  have e1 : stepM l m = m := by unfold stepM; rw [if_pos hov]
  have e2 : stepD l m = false := by unfold stepD; rw [hov]; rfl
  have e3 : stepT l m = Tg.none := by unfold stepT; rw [if_pos hov]
  have hfin : Hid (∀ (w' : World) pv', Went w pv.ownBlock w' g 106 322 B S A l cap 2 pv' m doX → StepS g B S A l cap pv m w (.returned (.tuple #[Tg.none.val, .bool false])) w') := hid fun w' pv' h => by
    refine ⟨by rw [e2, e3], pv', by rw [e1]; exact h⟩
  rw [hov] at r7
  clear h hp hok e1 e2 e3 hov
  go_enter_defers Try.func46, Try.ntmps46
  go_wp2
  exact ⟨.tuple #[Tg.none.val, .bool false], by simp [results, Try.results46, go_sem, Tg.none, Tg.val], hfin.out _ pv (((W0.out.alloc _).alloc _).alloc _)⟩
set_option maxHeartbeats 4000000 in
set_option maxRecDepth 100000 in
theorem door_idle (tm : Array Value) (w : World) (R : Ending → World → Prop) (n0 : Nat) (t : Tg) (d : Bool) (h2 : tm[2]? = some (.pointer (some ⟨n0 + 1, 0, none⟩))) (h3 : tm[3]? = some (.pointer (some ⟨n0 + 1 + 1, 0, none⟩)))
    (c0 : w.cell? ⟨n0 + 1, 0, none⟩ = some (.int .i64 t.blk)) (c1 : w.cell? ⟨n0 + 1, 1, none⟩ = some (.bool t.loop)) (c2 : w.cell? ⟨n0 + 1, 2, none⟩ = some (.int .i64 t.op)) (c3 : w.cell? ⟨n0 + 1, 3, none⟩ = some (.bool false))
    (c4 : w.cell? ⟨n0 + 1 + 1, 0, none⟩ = some (.bool d)) (hR : R (.returned (.tuple #[t.val, .bool d])) w) :
    bodyPostD Try.prog Try.f46 R Exit.ret { tmps := tm, defers := [{ target := Target.fn (Fn.func 74) #[.pointer (some ⟨n0, 0, none⟩), .pointer (some ⟨n0 + 1, 0, none⟩), .pointer (some ⟨n0 + 1 + 1, 0, none⟩)], args := #[] }] } w := by
  refine leaves_cons (f := 74) (args := #[.pointer (some ⟨n0, 0, none⟩), .pointer (some ⟨n0 + 1, 0, none⟩), .pointer (some ⟨n0 + 1 + 1, 0, none⟩)]) (by simp) (by simp [go_sem]) ?_
  refine (catch_idle _ _ _ _).mono ?_
  rintro e u' w'' ⟨rfl, rfl, rfl⟩
  exact ⟨.tuple #[t.val, .bool d], by simp [results, Try.results46, go_sem, h2, h3, c0, c1, c2, c3, c4, Tg.val], hR⟩
set_option maxHeartbeats 4000000 in
set_option maxRecDepth 100000 in
theorem door_trap (tm : Array Value) (w : World) (R : Ending → World → Prop) (n0 g : Nat) (t0 t1 t2 t3 d0 o0 o1 : Value) (h2 : tm[2]? = some (.pointer (some ⟨n0 + 1, 0, none⟩))) (h3 : tm[3]? = some (.pointer (some ⟨n0 + 1 + 1, 0, none⟩)))
    (hm : w.cell? ⟨n0, 0, none⟩ = some (.pointer (some ⟨g, 0, none⟩)))
    (h5 : w.cell? ⟨g, 295, none⟩ = some o0) (h6 : w.cell? ⟨g, 296, none⟩ = some o1) (f5 : w.frozen? ⟨g, 295, none⟩ = false) (f6 : w.frozen? ⟨g, 296, none⟩ = false)
    (k0 : w.cell? ⟨n0 + 1, 0, none⟩ = some t0) (k1 : w.cell? ⟨n0 + 1, 1, none⟩ = some t1) (k2 : w.cell? ⟨n0 + 1, 2, none⟩ = some t2) (k3 : w.cell? ⟨n0 + 1, 3, none⟩ = some t3) (kd : w.cell? ⟨n0 + 1 + 1, 0, none⟩ = some d0)
    (z : ∀ i, w.frozen? ⟨n0 + 1, i, none⟩ = false) (zd : w.frozen? ⟨n0 + 1 + 1, 0, none⟩ = false) (hg : g < n0)
    (hR : R (.returned (.tuple #[Tg.none.val, .bool false])) ((((((((w.setCell ⟨g, 295, none⟩ (.bool true)).setCell ⟨g, 296, none⟩ (.int .i64 101)).setCell ⟨n0 + 1, 0, none⟩ (.int .i64 0)).setCell ⟨n0 + 1, 1, none⟩ (.bool false)).setCell ⟨n0 + 1, 2, none⟩ (.int .i64 0)).setCell ⟨n0 + 1, 3, none⟩ (.bool false)).setCell ⟨n0 + 1 + 1, 0, none⟩ (.bool false)).alloc (.cells #[] 150))) :
    bodyPostD Try.prog Try.f46 R (Exit.panic [{ v := .iface 150 (.agg #[]), recovered := false }]) { tmps := tm, defers := [{ target := Target.fn (Fn.func 74) #[.pointer (some ⟨n0, 0, none⟩), .pointer (some ⟨n0 + 1, 0, none⟩), .pointer (some ⟨n0 + 1 + 1, 0, none⟩)], args := #[] }] } w := by
  have z1 : n0 + 1 + 1 < w.heap.size := World.block_lt_of_cell? w _ kd
  have z2 : n0 + 1 < w.heap.size := by omega
  refine leaves_cons (f := 74) (args := #[.pointer (some ⟨n0, 0, none⟩), .pointer (some ⟨n0 + 1, 0, none⟩), .pointer (some ⟨n0 + 1 + 1, 0, none⟩)]) (by simp) (by simp [go_sem]) ?_
  refine (catch_trap g _ _ _ _ _ _ _ _ _ _ _ hm h5 h6 f5 f6 k0 k1 k2 k3 kd (z 0) (z 1) (z 2) (z 3) zd (by omega) (by omega) (by omega) (by omega)).mono ?_
  rintro e u' w'' ⟨rfl, rfl, rfl⟩
  have e1 : ¬ g = n0 + 1 := by omega
  have e2 : ¬ n0 + 1 = g := by omega
  have e3 : ¬ g = n0 + 1 + 1 := by omega
  have e4 : ¬ n0 + 1 + 1 = g := by omega
  exact ⟨.tuple #[Tg.none.val, .bool false], by simp [results, Try.results46, go_sem, h2, h3, k0, k1, k2, k3, kd, Tg.val, Tg.none, z1, z2], hR⟩
end Go.Proofs.Ytpiagggnjppkhaa
