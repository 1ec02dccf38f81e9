/- A step of the machine. -/
import Derived.Test.YtpiagggnjppkhaaZ11
import Derived.StillTailTactics
import Derived.Test.YtpiagggnjppkhaaZ10
namespace Go.Proofs.Ytpiagggnjppkhaa
open Go.RowKit
set_option linter.unusedVariables false
set_option linter.unusedSimpArgs false
section
open Go.RowKit
/-- An operation that is done, whichever. -/
theorem do_any (o : Op) (hoo : opOk o = true) (hw : o.wf) : ∃ F, doV o.k.toNat = .func (.func F) #[] #[] ∧ (∀ (args : Array Value) (w : World), (callFunc F args).run Try.prog w = .ok (.enter F args) w) ∧ ∀ (g B : Nat) (S : Nat → Prop) (A : Option Addr) (l : List Blk) (cap : Nat) (pv : Value) (m : Mc) (w : World), Mach w g 106 322 B S A l cap 2 pv m doX → m.ok l → m.prints.length ≤ 10000000000000 → opT o m.R = false →
    Calls Try.prog F #[.pointer (some ⟨g, 0, none⟩), o.val] w (DoneS g B S A l cap pv m o w) := by
  obtain ⟨hk1, hk17, hd0, hd1, ha0, ha1, hb0, hb1, hn0, hn1⟩ := opOk_bd hoo hw
  have hv : ∀ k : Nat, o.k = k → doV o.k.toNat = doV k := fun k h => by rw [h]; rfl
  by_cases h1 : o.k = 1
  · exact ⟨66, by rw [hv 1 h1]; rfl, fun args w => by go_simp, fun g B S A l cap pv m w h hok hpl hT => do_const o h h1 hd0 hd1 hok.r32⟩
  by_cases h2 : o.k = 15
  · exact ⟨67, by rw [hv 15 h2]; rfl, fun args w => by go_simp, fun g B S A l cap pv m w h hok hpl hT => do_load o h h2 hw hd0 hd1 ha1 hok.r32 hok.ri⟩
  by_cases h3 : o.k = 16
  · exact ⟨69, by rw [hv 16 h3]; rfl, fun args w => by go_simp, fun g B S A l cap pv m w h hok hpl hT => do_store o h h3 hw ha1 hb1 hok.m256 hok.ri⟩
  by_cases h4 : o.k = 17
  · exact ⟨70, by rw [hv 17 h4]; rfl, fun args w => by go_simp, fun g B S A l cap pv m w h hok hpl hT => do_print o h h4 hw ha1 hpl⟩
  · refine ⟨65, ?_, fun args w => by go_simp, fun g B S A l cap pv m w h hok hpl hT => do_reckon o h ⟨by omega, by omega⟩ hw hd1 ha1 hb1 hok.r32 hok.ri hT⟩
    unfold doV
    rw [if_neg (by omega), if_neg (by omega), if_neg (by omega), if_neg (by omega), if_pos (by omega)]
theorem still_tail_drew {P : Program} {id : Nat} {Q : Exit → Act → World → Prop} {a : Act} {w : World} {l : List Oper} (n : Nat) (hm : P.follows .mixedOrders = true) (hB : Region.lexTailB .any l.toArray n = true)
    (h : wpStill P l.toArray w.drew (fun a' => wpList P l.toArray Q (l.drop n) a' w.drew) (l.take n) a) : (Code.region id l.toArray true).wp P Q a w := wp_region_still_tail n hm hB h
theorem cell_drew (w : World) (a : Addr) : w.drew.cell? a = w.cell? a := rfl
/-- Behind a step. -/
def StepS (g : Nat) (B : Nat) (S : Nat → Prop) (A : Option Addr) (l : List Blk) (cap : Nat) (pv : Value) (m : Mc) (w : World) (e : Ending) (w' : World) : Prop :=
  e = .returned (.tuple #[(stepT l m).val, .bool (stepD l m)]) ∧ ∃ pv', Went w pv.ownBlock w' g 106 322 B S A l cap 2 pv' (stepM l m) doX
set_option maxHeartbeats 4000000 in
set_option maxRecDepth 100000 in
theorem step_over1 {g B : Nat} {S : Nat → Prop} {A : Option Addr} {l : List Blk} {cap : Nat} {pv : Value} {m : Mc} {w : World} (h : Mach w g 106 322 B S A l cap 2 pv m doX) (hp : PrgOk l) (hok : m.ok l) (hst : m.steps ≤ 10000000000000) (hov : m.over = true) :
    Calls Try.prog 46 #[.pointer (some ⟨g, 0, none⟩)] w (StepS g B S A l cap pv m w) := by
  have hmf : ∀ (fn : Fn) (first cap : Array Value) (w : World), (Instr.makeFunc fn first cap).run Try.prog w = .ok (.func fn first cap) w := fun _ _ _ _ => rfl
  have r1 : w.cell? ⟨g, 289, none⟩ = some (.int .i64 m.blk) := h.cells.cell 289 (by decide)
  have r2 : w.cell? ⟨g, 290, none⟩ = some (.bool m.body) := h.cells.cell 290 (by decide)
  have r3 : w.cell? ⟨g, 291, none⟩ = some (.int .i64 m.pos) := h.cells.cell 291 (by decide)
  have r5 : w.cell? ⟨g, 293, none⟩ = some (.int .i64 m.steps) := h.cells.cell 293 (by decide)
  have r7 : w.cell? ⟨g, 295, none⟩ = some (.bool m.over) := h.cells.cell 295 (by decide)
  have hgl := h.cells.lt
  have hgl1 : g < w.heap.size + 1 := by omega
  have hgl2 : g < w.heap.size + 1 + 1 := by omega
  have W0 := hid h.went
  have e1 : stepM l m = m := by unfold stepM; rw [if_pos hov]
  have e2 : stepD l m = false := by unfold stepD; rw [hov]; rfl
  have e3 : stepT l m = Tg.none := by unfold stepT; rw [if_pos hov]
  have hfin : Hid (∀ (w' : World) pv', Went w pv.ownBlock w' g 106 322 B S A l cap 2 pv' m doX → StepS g B S A l cap pv m w (.returned (.tuple #[Tg.none.val, .bool false])) w') := hid fun w' pv' h => by
    refine ⟨by rw [e2, e3], pv', by rw [e1]; exact h⟩
  rw [hov] at r7
  clear h hp hok e1 e2 e3 hov
  go_enter_defers Try.func46, Try.ntmps46
  go_wp2
  exact ⟨.tuple #[Tg.none.val, .bool false], by simp [results, Try.results46, go_sem, Tg.none, Tg.val], hfin.out _ pv (((W0.out.alloc _).alloc _).alloc _)⟩
set_option maxHeartbeats 4000000 in
set_option maxRecDepth 100000 in
theorem door_idle (tm : Array Value) (w : World) (R : Ending → World → Prop) (n0 : Nat) (t : Tg) (d : Bool) (h2 : tm[2]? = some (.pointer (some ⟨n0 + 1, 0, none⟩))) (h3 : tm[3]? = some (.pointer (some ⟨n0 + 1 + 1, 0, none⟩)))
    (c0 : w.cell? ⟨n0 + 1, 0, none⟩ = some (.int .i64 t.blk)) (c1 : w.cell? ⟨n0 + 1, 1, none⟩ = some (.bool t.loop)) (c2 : w.cell? ⟨n0 + 1, 2, none⟩ = some (.int .i64 t.op)) (c3 : w.cell? ⟨n0 + 1, 3, none⟩ = some (.bool false))
    (c4 : w.cell? ⟨n0 + 1 + 1, 0, none⟩ = some (.bool d)) (hR : R (.returned (.tuple #[t.val, .bool d])) w) :
    bodyPostD Try.prog Try.f46 R Exit.ret { tmps := tm, defers := [{ target := Target.fn (Fn.func 74) #[.pointer (some ⟨n0, 0, none⟩), .pointer (some ⟨n0 + 1, 0, none⟩), .pointer (some ⟨n0 + 1 + 1, 0, none⟩)], args := #[] }] } w := by
  refine leaves_cons (f := 74) (args := #[.pointer (some ⟨n0, 0, none⟩), .pointer (some ⟨n0 + 1, 0, none⟩), .pointer (some ⟨n0 + 1 + 1, 0, none⟩)]) (by simp) (by simp [go_sem]) ?_
  refine (catch_idle _ _ _ _).mono ?_
  rintro e u' w'' ⟨rfl, rfl, rfl⟩
  exact ⟨.tuple #[t.val, .bool d], by simp [results, Try.results46, go_sem, h2, h3, c0, c1, c2, c3, c4, Tg.val], hR⟩
set_option maxHeartbeats 4000000 in
set_option maxRecDepth 100000 in
theorem door_trap (tm : Array Value) (w : World) (R : Ending → World → Prop) (n0 g : Nat) (t0 t1 t2 t3 d0 o0 o1 : Value) (h2 : tm[2]? = some (.pointer (some ⟨n0 + 1, 0, none⟩))) (h3 : tm[3]? = some (.pointer (some ⟨n0 + 1 + 1, 0, none⟩)))
    (hm : w.cell? ⟨n0, 0, none⟩ = some (.pointer (some ⟨g, 0, none⟩)))
    (h5 : w.cell? ⟨g, 295, none⟩ = some o0) (h6 : w.cell? ⟨g, 296, none⟩ = some o1) (f5 : w.frozen? ⟨g, 295, none⟩ = false) (f6 : w.frozen? ⟨g, 296, none⟩ = false)
    (k0 : w.cell? ⟨n0 + 1, 0, none⟩ = some t0) (k1 : w.cell? ⟨n0 + 1, 1, none⟩ = some t1) (k2 : w.cell? ⟨n0 + 1, 2, none⟩ = some t2) (k3 : w.cell? ⟨n0 + 1, 3, none⟩ = some t3) (kd : w.cell? ⟨n0 + 1 + 1, 0, none⟩ = some d0)
    (z : ∀ i, w.frozen? ⟨n0 + 1, i, none⟩ = false) (zd : w.frozen? ⟨n0 + 1 + 1, 0, none⟩ = false) (hg : g < n0)
    (hR : R (.returned (.tuple #[Tg.none.val, .bool false])) ((((((((w.setCell ⟨g, 295, none⟩ (.bool true)).setCell ⟨g, 296, none⟩ (.int .i64 101)).setCell ⟨n0 + 1, 0, none⟩ (.int .i64 0)).setCell ⟨n0 + 1, 1, none⟩ (.bool false)).setCell ⟨n0 + 1, 2, none⟩ (.int .i64 0)).setCell ⟨n0 + 1, 3, none⟩ (.bool false)).setCell ⟨n0 + 1 + 1, 0, none⟩ (.bool false)).alloc (.cells #[] 150))) :
    bodyPostD Try.prog Try.f46 R (Exit.panic [{ v := .iface 150 (.agg #[]), recovered := false }]) { tmps := tm, defers := [{ target := Target.fn (Fn.func 74) #[.pointer (some ⟨n0, 0, none⟩), .pointer (some ⟨n0 + 1, 0, none⟩), .pointer (some ⟨n0 + 1 + 1, 0, none⟩)], args := #[] }] } w := by
  have z1 : n0 + 1 + 1 < w.heap.size := World.block_lt_of_cell? w _ kd
  have z2 : n0 + 1 < w.heap.size := by omega
  refine leaves_cons (f := 74) (args := #[.pointer (some ⟨n0, 0, none⟩), .pointer (some ⟨n0 + 1, 0, none⟩), .pointer (some ⟨n0 + 1 + 1, 0, none⟩)]) (by simp) (by simp [go_sem]) ?_
  refine (catch_trap g _ _ _ _ _ _ _ _ _ _ _ hm h5 h6 f5 f6 k0 k1 k2 k3 kd (z 0) (z 1) (z 2) (z 3) zd (by omega) (by omega) (by omega) (by omega)).mono ?_
  rintro e u' w'' ⟨rfl, rfl, rfl⟩
  have e1 : ¬ g = n0 + 1 := by omega
  have e2 : ¬ n0 + 1 = g := by omega
  have e3 : ¬ g = n0 + 1 + 1 := by omega
  have e4 : ¬ n0 + 1 + 1 = g := by omega
  exact ⟨.tuple #[Tg.none.val, .bool false], by simp [results, Try.results46, go_sem, h2, h3, k0, k1, k2, k3, kd, Tg.val, Tg.none, z1, z2], hR⟩
end
/- The document's machine: a step. -/
section
open Go.RowKit
/-- Behind a step. -/
def RstepS (g : Nat) (B : Nat) (S : Nat → Prop) (A : Option Addr) (l : List Blk) (cap : Nat) (pv : Value) (m : Mc) (x : Nat → Value) (w : World) (e : Ending) (w' : World) : Prop :=
  e = .returned (.bool (stepD l m)) ∧ ∃ pv', Went w pv.ownBlock w' g 108 302 B S A l cap 2 pv' (stepM l m) (if stepD l m = true then lastX (stepT l m) else x)
set_option maxHeartbeats 4000000 in
set_option maxRecDepth 100000 in
theorem rstep_over {g B : Nat} {S : Nat → Prop} {A : Option Addr} {l : List Blk} {cap : Nat} {pv : Value} {m : Mc} {w : World} {x : Nat → Value} (h : Mach w g 108 302 B S A l cap 2 pv m x) (hov : m.over = true) :
    Calls Try.prog 48 #[.pointer (some ⟨g, 0, none⟩)] w (RstepS g B S A l cap pv m x w) := by
  have r7 : w.cell? ⟨g, 295, none⟩ = some (.bool m.over) := h.cells.cell 295 (by decide)
  have hgl := h.cells.lt
  have W0 := hid h.went
  rw [hov] at r7
  have e1 : stepM l m = m := by unfold stepM; rw [if_pos hov]
  have e2 : stepD l m = false := by unfold stepD; rw [hov]; rfl
  have hfin : Hid (∀ (w' : World), Went w pv.ownBlock w' g 108 302 B S A l cap 2 pv m x → RstepS g B S A l cap pv m x w (.returned (.bool false)) w') := hid fun w' h => by
    refine ⟨by rw [e2], pv, by rw [e1, e2]; exact h⟩
  clear h e1 e2 hov
  go_enter Try.func48, Try.ntmps48
  go_wp2
  refine bodyPost_ret (v := .bool false) (by simp [results, Try.results48, go_sem]) rfl (hfin.out _ W0.out)
set_option maxHeartbeats 4000000 in
set_option maxRecDepth 100000 in
theorem rstep_trap {g B : Nat} {S : Nat → Prop} {A : Option Addr} {l : List Blk} {cap : Nat} {pv : Value} {m : Mc} {w : World} {x : Nat → Value} (h : Mach w g 108 302 B S A l cap 2 pv m x) (hp : PrgOk l) (hok : m.ok l) (hov : m.over = false) (hst : stuckS l m = true) :
    Calls Try.prog 48 #[.pointer (some ⟨g, 0, none⟩)] w (RstepS g B S A l cap pv m x w) := by
  have C1 := hid (rtrap_any h hp hok)
  rw [hst] at C1
  have r7 : w.cell? ⟨g, 295, none⟩ = some (.bool m.over) := h.cells.cell 295 (by decide)
  have hgl := h.cells.lt
  have W0 := hid h.went
  rw [hov] at r7
  have e1 : stepM l m = { m with over := true, e := 101 } := by
    unfold stuckS at hst
    unfold stepM
    rw [hov] at hst ⊢
    simp only [Bool.not_false, Bool.true_and, Bool.false_eq_true, if_false] at hst ⊢
    cases ho : (lstS l m)[m.pos]? with
    | none => rw [ho] at hst; cases hst
    | some o => rw [ho] at hst; simp only at hst ⊢; rw [if_pos hst]
  have e2 : stepD l m = false := by unfold stepD; rw [hst, hov]; rfl
  have hfin : Hid (∀ (w' : World), Went w pv.ownBlock w' g 108 302 B S A l cap 2 pv { m with over := true, e := 101 } x → RstepS g B S A l cap pv m x w (.returned (.bool false)) w') := hid fun w' h => by
    refine ⟨by rw [e2], pv, by rw [e1, e2]; exact h⟩
  clear h e1 e2 hp hok hov hst
  go_enter Try.func48, Try.ntmps48
  go_wp2_with fail
  with_reducible refine C1.out.mono ?_
  rintro e w1 ⟨rfl, hb⟩
  have W1 := hid (W0.out.below hb)
  have hM := W1.out.mach
  have r7 : w1.cell? ⟨g, 295, none⟩ = some (.bool m.over) := hM.cells.cell 295 (by decide)
  have r8 : w1.cell? ⟨g, 296, none⟩ = some (.int .i64 m.e) := hM.cells.cell 296 (by decide)
  have f7 := hM.cells.frozen 295
  have f8 := hM.cells.frozen 296
  have hgl1 := hM.cells.lt
  clear hb hM
  go_wp2
  refine bodyPost_ret (v := .bool false) (by simp [results, Try.results48, go_sem]) rfl (hfin.out _ (W1.out.fall 101))
set_option maxHeartbeats 4000000 in
set_option maxRecDepth 100000 in
theorem rstep_done {g B : Nat} {S : Nat → Prop} {A : Option Addr} {l : List Blk} {cap : Nat} {pv : Value} {m : Mc} {w : World} {x : Nat → Value} (h : Mach w g 108 302 B S A l cap 2 pv m x) (hp : PrgOk l) (hok : m.ok l) (hst : m.steps ≤ 10000000000000) (hov : m.over = false) (hlt : m.pos < (lstS l m).length) (hT : opT (lstS l m)[m.pos] m.R = false) :
    Calls Try.prog 48 #[.pointer (some ⟨g, 0, none⟩)] w (RstepS g B S A l cap pv m x w) := by
  have hx : (lstS l m)[m.pos]? = some (lstS l m)[m.pos] := List.getElem?_eq_getElem hlt
  have hss : stuckS l m = false := by unfold stuckS; rw [hx]; simp only; rw [hT, Bool.and_false]
  have C1 := hid (rtrap_any h hp hok)
  rw [hss] at C1
  have C2 := hid (fun (w' : World) (h : Mach w' g 108 302 B S A l cap 2 pv m x) => rlist_any h hok.blk hp.n1)
  have r7 : w.cell? ⟨g, 295, none⟩ = some (.bool m.over) := h.cells.cell 295 (by decide)
  have hgl := h.cells.lt
  have W0 := hid h.went
  rw [hov] at r7
  have hoo := lst_mem hp hx
  have HG := hid (fun (w' : World) (L : Option Addr) (h : OpsIn w' L (lstS l m)) => h.get m.pos hlt)
  have hij : (m.pos : Int) < ((lstS l m).length : Int) := by omega
  have hln := hid (show (lstS l m).length ≤ 1024 by
    obtain ⟨b, hb⟩ : ∃ b, l[m.blk]? = some b := ⟨_, List.getElem?_eq_getElem hok.blk⟩
    have hm := List.mem_of_getElem? hb
    cases hbd : m.body
    · rw [lst_ops hb hbd]; exact hp.m0 b hm
    · rw [lst_body hb hbd]; exact hp.m1 b hm)
  have hpl : m.prints.length ≤ 10000000000000 := Nat.le_trans hok.pl hst
  generalize (lstS l m)[m.pos] = o at *
  have e1 : stepM l m = { opS o m with steps := m.steps + 1 } := by unfold stepM; rw [if_neg (by rw [hov]; decide), hx]; simp only; rw [if_neg (by rw [hT]; decide)]
  have e2 : stepD l m = true := by unfold stepD; rw [hov, hss]; rfl
  have e3 : stepT l m = ⟨m.blk, m.body, m.pos⟩ := by unfold stepT; rw [if_neg (by rw [hov]; decide), hx]; simp only; rw [if_neg (by rw [hT]; decide)]
  have hfin : Hid (∀ (w' : World) pv', Went w pv.ownBlock w' g 108 302 B S A l cap 2 pv' { opS o m with steps := m.steps + 1 } (lastX ⟨m.blk, m.body, m.pos⟩) → RstepS g B S A l cap pv m x w (.returned (.bool true)) w') := hid fun w' pv' h => by
    refine ⟨by rw [e2], pv', ?_⟩
    rw [e1, e2, if_pos rfl, e3]
    exact h
  have D1 := hid (fun (w' : World) (x' : Nat → Value) (h : Mach w' g 108 302 B S A l cap 2 pv m x') => ropM_any o h hoo.1 hoo.2 hT hok.r32 hok.m256 hok.ri hpl)
  have hpos : m.pos ≤ 1024 := by have := hln.out; omega
  have hst2 := hid hst
  clear e1 e2 e3 hp hok hoo hx hov h hT hss
  obtain ⟨k, d, a, b, n⟩ := o
  go_enter Try.func48, Try.ntmps48
  go_wp2_with fail
  with_reducible refine C1.out.mono ?_
  rintro e w1 ⟨rfl, hb⟩
  have W1 := hid (W0.out.below hb)
  clear hb r7 C1
  go_wp2_with fail
  with_reducible refine (C2.out _ W1.out.mach).mono ?_
  rintro e w2 ⟨L, c, rfl, hO, hc, hb, hsp⟩
  have W2 := hid (W1.out.below hb)
  have hM := W2.out.mach
  have q1 : w2.cell? ⟨g, 289, none⟩ = some (.int .i64 m.blk) := hM.cells.cell 289 (by decide)
  have q2 : w2.cell? ⟨g, 290, none⟩ = some (.bool m.body) := hM.cells.cell 290 (by decide)
  have q3 : w2.cell? ⟨g, 291, none⟩ = some (.int .i64 m.pos) := hM.cells.cell 291 (by decide)
  have q10 : w2.cell? ⟨g, 298, none⟩ = some (x 298) := hM.cells.cell 298 (by decide)
  have q11 : w2.cell? ⟨g, 299, none⟩ = some (x 299) := hM.cells.cell 299 (by decide)
  have q12 : w2.cell? ⟨g, 300, none⟩ = some (x 300) := hM.cells.cell 300 (by decide)
  have q13 : w2.cell? ⟨g, 301, none⟩ = some (x 301) := hM.cells.cell 301 (by decide)
  have f10 := hM.cells.frozen 298
  have f11 := hM.cells.frozen 299
  have f12 := hM.cells.frozen 300
  have f13 := hM.cells.frozen 301
  have hgl2 := hM.cells.lt
  have HO2 := hid hO
  have HSP := hid hsp
  clear hb hM hO
  go_upto_region 9 with (fail)
  go_region
  all_goals
    have T3 : Hid (Trn g none w2 ((((w2.setCell ⟨g, 298, none⟩ (.int .i64 m.blk)).setCell ⟨g, 299, none⟩ (.bool m.body)).setCell ⟨g, 300, none⟩ (.int .i64 m.pos)).setCell ⟨g, 301, none⟩ (.bool false)).drew) := hid (((((Trn.refl g none w2).set 298 _).set 299 _).set 300 _).set 301 _).drew
    have W3 := hid ((W2.out.last ⟨m.blk, m.body, m.pos⟩).drew)
    simp only at W3
    obtain ⟨w3, hw3⟩ : ∃ w3 : World, w3 = ((((w2.setCell ⟨g, 298, none⟩ (.int .i64 m.blk)).setCell ⟨g, 299, none⟩ (.bool m.body)).setCell ⟨g, 300, none⟩ (.int .i64 m.pos)).setCell ⟨g, 301, none⟩ (.bool false)).drew := ⟨_, rfl⟩
    rw [← hw3] at T3 W3 ⊢
    replace hw3 := hid hw3
    have O3 : OpsIn w3 L (lstS l m) := ops_same HO2.out HSP.out fun b hb => T3.out.block b (by have h1 := (W2.out.mach.sb b hb).1; have h2 := W2.out.mach.bw; omega) (W2.out.mach.sb b hb).2 (by intro e; cases e)
    obtain ⟨q, oo, rfl, hq⟩ := HG.out _ _ O3
    obtain ⟨c0, c1, c2, c3, c4⟩ := hq
    have hql : q < w3.heap.size := World.block_lt_of_cell? w3 _ c0
    have q3 : w3.cell? ⟨g, 291, none⟩ = some (.int .i64 m.pos) := W3.out.mach.cells.cell 291 (by decide)
    have hgl3 := W3.out.mach.cells.lt
    simp only at c0 c1 c2 c3 c4
    clear q1 q2 q10 q11 q12 q13 f10 f11 f12 f13 O3 T3 HO2 HSP
    go_wp2_with fail
    with_reducible refine (D1.out _ _ W3.out.mach).mono ?_
    rintro e w4 ⟨rfl, pv4, hW4⟩
    have W4 := hid (W3.out.trans hW4)
    have hM := hW4.mach
    have p3 : w4.cell? ⟨g, 291, none⟩ = some (.int .i64 m.pos) := hM.cells.cell 291 (by decide)
    have p5 : w4.cell? ⟨g, 293, none⟩ = some (.int .i64 m.steps) := hM.cells.cell 293 (by decide)
    have f3 := hM.cells.frozen 291
    have f5 := hM.cells.frozen 293
    have hgl4 := hM.cells.lt
    clear hW4 hM
    go_wp2
    refine bodyPost_ret (v := .bool true) (by simp [results, Try.results48, go_sem]) rfl (hfin.out _ pv4 ?_)
    have h5 := (W4.out.pos (m.pos + 1)).steps (m.steps + 1)
    have ep : ((m.pos + 1 : Nat) : Int) = m.pos + 1 := by omega
    have es : ((m.steps + 1 : Nat) : Int) = m.steps + 1 := by omega
    rw [ep, es] at h5
    exact h5
set_option maxHeartbeats 4000000 in
set_option maxRecDepth 100000 in
theorem rstep_end {g B : Nat} {S : Nat → Prop} {A : Option Addr} {l : List Blk} {cap : Nat} {pv : Value} {m : Mc} {w : World} {x : Nat → Value} (h : Mach w g 108 302 B S A l cap 2 pv m x) (hp : PrgOk l) (hok : m.ok l) (hst : m.steps ≤ 10000000000000) (hov : m.over = false) (hlt : ¬ m.pos < (lstS l m).length) :
    Calls Try.prog 48 #[.pointer (some ⟨g, 0, none⟩)] w (RstepS g B S A l cap pv m x w) := by
  have hx : (lstS l m)[m.pos]? = none := lst_none hlt
  have hss : stuckS l m = false := by unfold stuckS; rw [hx, Bool.and_false]
  have C1 := hid (rtrap_any h hp hok)
  rw [hss] at C1
  have C2 := hid (fun (w' : World) (h : Mach w' g 108 302 B S A l cap 2 pv m x) => rlist_any h hok.blk hp.n1)
  have r7 : w.cell? ⟨g, 295, none⟩ = some (.bool m.over) := h.cells.cell 295 (by decide)
  have hgl := h.cells.lt
  have W0 := hid h.went
  rw [hov] at r7
  have hij : ¬ (m.pos : Int) < ((lstS l m).length : Int) := by omega
  have hbj : (m.blk : Int) < (l.length : Int) := by have := hok.blk; omega
  have hb0 : (0 : Int) ≤ (m.blk : Int) := by omega
  have hbb : l[m.blk]? = some l[m.blk] := List.getElem?_eq_getElem hok.blk
  have hbm := List.mem_of_getElem? hbb
  have hbk := hok.blk
  have hl128 := hp.n1
  have e1 : stepM l m = { endS l[m.blk] m with steps := m.steps + 1 } := by unfold stepM; rw [if_neg (by rw [hov]; decide), hx, hbb]; rfl
  have e2 : stepD l m = true := by unfold stepD; rw [hov, hss]; rfl
  have e3 : stepT l m = ⟨m.blk, false, -1⟩ := by unfold stepT; rw [if_neg (by rw [hov]; decide), hx]
  have hes := hid (endS_steps l[m.blk] m)
  have HB := hid (fun (w' : World) (h : Mach w' g 108 302 B S A l cap 2 pv m x) => h.blks.get m.blk hbk)
  have hwf := hp.wf _ hbm
  have hen := hp.en _ hbm
  generalize l[m.blk] = bb at *
  have hfin : Hid (∀ (w' : World) pv', Went w pv.ownBlock w' g 108 302 B S A l cap 2 pv' { endS bb m with steps := m.steps + 1 } (lastX ⟨m.blk, false, -1⟩) → RstepS g B S A l cap pv m x w (.returned (.bool true)) w') := hid fun w' pv' h => by
    refine ⟨by rw [e2], pv', ?_⟩
    rw [e1, e2, if_pos rfl, e3]
    exact h
  have D1 := hid (fun (w' : World) (B1 B2 : Option Addr) (c1 c2 : Nat) (h : Mach w' g 108 302 B S A l cap 2 pv m x) => rendM_any h hl128 bb hwf hen hok hov B1 B2 c1 c2)
  have hst2 := hid hst
  clear e1 e2 e3 hp hok hx hov h hss hbb hbm hlt hwf hen
  go_enter Try.func48, Try.ntmps48
  go_wp2_with fail
  with_reducible refine C1.out.mono ?_
  rintro e w1 ⟨rfl, hb⟩
  have W1 := hid (W0.out.below hb)
  clear hb r7 C1
  go_wp2_with fail
  with_reducible refine (C2.out _ W1.out.mach).mono ?_
  rintro e w2 ⟨L, c, rfl, hO, hc, hb, hsp⟩
  have W2 := hid (W1.out.below hb)
  have hM := W2.out.mach
  obtain ⟨q, off, hA, _, hq⟩ := HB.out _ hM
  obtain ⟨B1, c1, B2, c2, k0, k1, k2, k3, k4, k5, _, _, _, _, _, _⟩ := hq
  have q0 : w2.cell? ⟨g, 0, none⟩ = some (.slice A l.length cap) := hM.cells.cell 0 (by decide)
  have q1 : w2.cell? ⟨g, 289, none⟩ = some (.int .i64 m.blk) := hM.cells.cell 289 (by decide)
  have q3 : w2.cell? ⟨g, 291, none⟩ = some (.int .i64 m.pos) := hM.cells.cell 291 (by decide)
  have hgl2 := hM.cells.lt
  rw [hA] at q0
  have hql : q < w2.heap.size := World.block_lt_of_cell? w2 _ k0
  have W2d := hid W2.out.drew
  clear hb hM hO hA
  go_upto_region 12 with (fail)
  with_reducible refine still_tail_drew 12 (by kernel_rfl) (by kernel_rfl) ?_
  simp only [List.take_succ_cons, List.take_zero, List.drop_succ_cons, List.drop_zero]
  repeat (with_reducible refine wpStill_step (fun K hK => ?_); go_simp; with_reducible refine hK _ ?_; clear hK K)
  try with_reducible refine wpStill_nil ?_
  go_wp2_with fail
  with_reducible refine (D1.out _ B1 B2 c1 c2 W2d.out.mach).mono ?_
  rintro e w4 ⟨rfl, hW4⟩
  have W4 := hid (W2d.out.trans hW4)
  have hM := hW4.mach
  have p5 : w4.cell? ⟨g, 293, none⟩ = some (.int .i64 m.steps) := by rw [← hes.out]; exact hM.cells.cell 293 (by decide)
  have f5 := hM.cells.frozen 293
  have hgl4 := hM.cells.lt
  clear hW4 hM
  go_wp2
  refine bodyPost_ret (v := .bool true) (by simp [results, Try.results48, go_sem]) rfl (hfin.out _ pv ?_)
  have h5 := W4.out.steps (m.steps + 1)
  have es : ((m.steps + 1 : Nat) : Int) = m.steps + 1 := by omega
  rw [es] at h5
  exact h5
theorem rstep_any {g B : Nat} {S : Nat → Prop} {A : Option Addr} {l : List Blk} {cap : Nat} {pv : Value} {m : Mc} {w : World} {x : Nat → Value} (h : Mach w g 108 302 B S A l cap 2 pv m x) (hp : PrgOk l) (hok : m.ok l) (hst : m.steps ≤ 10000000000000) :
    Calls Try.prog 48 #[.pointer (some ⟨g, 0, none⟩)] w (RstepS g B S A l cap pv m x w) := by
  cases hov : m.over with
  | true => exact rstep_over h hov
  | false =>
    by_cases hlt : m.pos < (lstS l m).length
    · cases hT : opT (lstS l m)[m.pos] m.R with
      | false => exact rstep_done h hp hok hst hov hlt hT
      | true => exact rstep_trap h hp hok hov (by unfold stuckS; rw [hov, List.getElem?_eq_getElem hlt]; exact hT)
    · exact rstep_end h hp hok hst hov hlt
end
end Go.Proofs.Ytpiagggnjppkhaa
