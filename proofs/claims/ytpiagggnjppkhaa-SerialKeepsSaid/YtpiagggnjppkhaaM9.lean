/- The deferred closure of a step. -/
import Derived.Test.YtpiagggnjppkhaaM8
namespace Go.Proofs.Ytpiagggnjppkhaa
open Go.RowKit
set_option linter.unusedVariables false
set_option linter.unusedSimpArgs false
theorem wp_name {P : Program} {c : Code} {Q : Exit → Act → World → Prop} {a : Act} {w : World} (h : ∀ Q' : Exit → Act → World → Prop, Hid (∀ e a w, Q e a w → Q' e a w) → c.wp P Q' a w) : c.wp P Q a w := h Q (fun _ _ _ h => h)
set_option maxHeartbeats 4000000 in
set_option maxRecDepth 100000 in
theorem catch_idle (pm pt pd : Addr) (w : World) :
    CallsD Try.prog 74 #[.pointer (some pm), .pointer (some pt), .pointer (some pd)] .returning w fun e u' w' => e = .returned (.tuple #[]) ∧ u' = .returning ∧ w' = w := by
  refine callsD_of_wpS Try.func74 rfl fun c₀ cs hu => ?_
  simp only [Try.ntmps74, List.size_toArray, List.length_cons, List.length_nil, Nat.reduceAdd, Nat.reduceSub, Array.replicate_succ, Array.replicate_zero, List.push_toArray, List.append_toArray, List.nil_append, List.cons_append]
  with_reducible refine wpS_seq ?_
  with_reducible refine wpS_region ?_
  simp [wpOpsS, go_sem, recoverD, hu, Exit.thenS]
  with_reducible refine wpS_of_wp ?_
  with_reducible refine wp_name fun Q' hQ' => ?_
  go_wp2
  with_reducible refine hQ'.out _ _ _ ?_
  cases c₀
  simp_all [bodyPostS, results, Try.results74, go_sem]
set_option maxHeartbeats 4000000 in
set_option maxRecDepth 100000 in
theorem catch_trap (g bm bt bd : Nat) (t0 t1 t2 t3 d0 o0 o1 : Value) (w : World) (hm : w.cell? ⟨bm, 0, none⟩ = some (.pointer (some ⟨g, 0, none⟩)))
    (h5 : w.cell? ⟨g, 295, none⟩ = some o0) (h6 : w.cell? ⟨g, 296, none⟩ = some o1) (f5 : w.frozen? ⟨g, 295, none⟩ = false) (f6 : w.frozen? ⟨g, 296, none⟩ = false)
    (k0 : w.cell? ⟨bt, 0, none⟩ = some t0) (k1 : w.cell? ⟨bt, 1, none⟩ = some t1) (k2 : w.cell? ⟨bt, 2, none⟩ = some t2) (k3 : w.cell? ⟨bt, 3, none⟩ = some t3) (kd : w.cell? ⟨bd, 0, none⟩ = some d0)
    (z0 : w.frozen? ⟨bt, 0, none⟩ = false) (z1 : w.frozen? ⟨bt, 1, none⟩ = false) (z2 : w.frozen? ⟨bt, 2, none⟩ = false) (z3 : w.frozen? ⟨bt, 3, none⟩ = false) (zd : w.frozen? ⟨bd, 0, none⟩ = false)
    (n1 : g ≠ bt) (n2 : g ≠ bd) (n3 : bt ≠ bd) (n4 : bm ≠ g) :
    CallsD Try.prog 74 #[.pointer (some ⟨bm, 0, none⟩), .pointer (some ⟨bt, 0, none⟩), .pointer (some ⟨bd, 0, none⟩)] (.panicking [{ v := .iface 150 (.agg #[]), recovered := false }]) w fun e u' w' =>
      e = .returned (.tuple #[]) ∧ u' = .panicking [{ v := .iface 150 (.agg #[]), recovered := true }] ∧ w' = (((((((w.setCell ⟨g, 295, none⟩ (.bool true)).setCell ⟨g, 296, none⟩ (.int .i64 101)).setCell ⟨bt, 0, none⟩ (.int .i64 0)).setCell ⟨bt, 1, none⟩ (.bool false)).setCell ⟨bt, 2, none⟩ (.int .i64 0)).setCell ⟨bt, 3, none⟩ (.bool false)).setCell ⟨bd, 0, none⟩ (.bool false)).alloc (.cells #[] 150) := by
  have n1' := Ne.symm n1
  have n2' := Ne.symm n2
  have n3' := Ne.symm n3
  have n4' := Ne.symm n4
  have hta : ∀ w, (Instr.typeAssert (.iface 150 (.agg #[])) 20 150 true).run Try.prog w = .ok (.tuple #[.agg #[], .bool true]) w := fun w => by kernel_rfl
  have hgl : g < w.heap.size := World.block_lt_of_cell? w _ h5
  have hbl : bt < w.heap.size := World.block_lt_of_cell? w _ k0
  have hdl : bd < w.heap.size := World.block_lt_of_cell? w _ kd
  have hml : bm < w.heap.size := World.block_lt_of_cell? w _ hm
  refine callsD_of_wpS Try.func74 rfl fun c₀ cs hu => ?_
  simp only [Try.ntmps74, List.size_toArray, List.length_cons, List.length_nil, Nat.reduceAdd, Nat.reduceSub, Array.replicate_succ, Array.replicate_zero, List.push_toArray, List.append_toArray, List.nil_append, List.cons_append]
  with_reducible refine wpS_seq ?_
  with_reducible refine wpS_region ?_
  simp [wpOpsS, go_sem, recoverD, hu, Exit.thenS]
  with_reducible refine wpS_of_wp ?_
  with_reducible refine wp_name fun Q' hQ' => ?_
  go_wp2
  with_reducible refine hQ'.out _ _ _ ?_
  cases c₀
  simp_all [bodyPostS, results, Try.results74, go_sem]
end Go.Proofs.Ytpiagggnjppkhaa
