/- Used, New, Ring; no table. -/
import Derived.Test.YtcibkoodnfkogaaRV6
import Derived.Laws.EntriesVeiled
namespace Go.Proofs.Ytcibkoodnfkogaa
open Go.RowKit Go.Maps
set_option linter.unusedVariables false
set_option linter.unusedSimpArgs false
theorem tabL13 {t : List Int} (h : t.length = 13) : ∃ t0 t1 t2 t3 t4 t5 t6 t7 t8 t9 t10 t11 t12, t = [t0, t1, t2, t3, t4, t5, t6, t7, t8, t9, t10, t11, t12] := by
  match t, h with
  | [t0, t1, t2, t3, t4, t5, t6, t7, t8, t9, t10, t11, t12], _ => exact ⟨t0, t1, t2, t3, t4, t5, t6, t7, t8, t9, t10, t11, t12, rfl⟩
set_option maxHeartbeats 4000000 in
set_option maxRecDepth 100000 in
theorem used_any {w : World} {p b : Nat} {t : List Int} {F : FuncId} {rcv : Value} {any : Bool} {tn : Int → Int} {nb : Nat} {G : Int → Int → Int} (h : ResC w p b t F rcv any) (ht : t.length = 13) (HT : Turns F rcv tn) (HB : Busy w b nb G) (cl : Int) (cy : Int) (hcl : okI cl) (hcy : okI cy) (hcy2 : okI (tn cy)) :
    Calls Try.prog 21 #[.pointer (some ⟨p, 0, none⟩), .int .i64 cl, .int .i64 cy] w fun e w' => e = .returned (.int .i64 (G cl (tn cy))) ∧ Below w.heap.size w w' := by
  have r13 := h.fn ht
  have r15 := h.map ht
  obtain ⟨DG, hG⟩ := HB.map
  have T0 := hid HT.turn
  have hcall := HT.call
  have hp := h.lt
  have hGD := hid hG
  have hcl1 := hid hcl
  have hcy1 := hid hcy2
  clear hG HT HB h ht hcl hcy2
  have hfld := el_field
  go_enter Try.func21, Try.ntmps21
  go_wp2_with fail
  go_region_with ((with_reducible refine (T0.out _ _ hcy).mono ?_); rintro e w1 ⟨rfl, hb⟩; have s15 := cell_keep (w := World.drew _) r15 hb; have hlook := (MapF.keep (row := none) (MapF.drew hGD.out) (gb_of_below hb) (by simp)).look hcl1.out hcy1.out)
  all_goals go_wp2
  all_goals go_ret
  all_goals exact ⟨rfl, btrans (bdrew (Below.refl _ _)) hb⟩
set_option maxHeartbeats 4000000 in
set_option maxRecDepth 100000 in
theorem nil_free (cl cy : Int) (w : World) : Calls Try.prog 19 #[.pointer none, .int .i64 cl, .int .i64 cy] w fun e w' => e = .returned (.bool false) ∧ Below w.heap.size w w' := by
  go_enter Try.func19, Try.ntmps19
  go_wp2
  go_ret
  exact ⟨rfl, by ((with_reducible (repeat (first | assumption | exact Below.refl _ _ | refine bset ?_ (Nat.le_refl _) _ | refine balloc ?_ _ | refine bdrew ?_ | refine bdrewN ?_ _))); done)⟩
set_option maxHeartbeats 4000000 in
set_option maxRecDepth 100000 in
theorem nil_take (cl cy : Int) (w : World) : Calls Try.prog 20 #[.pointer none, .int .i64 cl, .int .i64 cy] w fun e w' => e = .returned (.bool false) ∧ Below w.heap.size w w' := by
  go_enter Try.func20, Try.ntmps20
  go_wp2_with (go_at_call 19; (with_reducible refine (nil_free _ _ _).mono ?_); rintro e w' ⟨rfl, hb⟩)
  go_ret
  exact ⟨rfl, hb⟩
set_option maxHeartbeats 4000000 in
set_option maxRecDepth 100000 in
theorem nil_used (cl cy : Int) (w : World) : Calls Try.prog 21 #[.pointer none, .int .i64 cl, .int .i64 cy] w fun e w' => e = .returned (.int .i64 0) ∧ Below w.heap.size w w' := by
  go_enter Try.func21, Try.ntmps21
  go_wp2
  go_ret
  exact ⟨rfl, by ((with_reducible (repeat (first | assumption | exact Below.refl _ _ | refine bset ?_ (Nat.le_refl _) _ | refine balloc ?_ _ | refine bdrew ?_ | refine bdrewN ?_ _))); done)⟩
theorem heap_newR (w : World) (o : Obj) (n : Nat) (hn : n = w.heap.size) : (w.alloc o).heap[n]? = some o := by subst hn; exact heap_alloc_new w o
/-- What New answers. -/
def NewR (t : List Int) (F : FuncId) (rcv : Value) (any : Bool) (w : World) (e : Ending) (w' : World) : Prop :=
  ∃ p b, e = .returned (.tuple #[.pointer (some ⟨p, 0, none⟩), .int .i64 0]) ∧ w.heap.size ≤ p ∧ w.heap.size ≤ b ∧ ResC w' p b t F rcv any ∧ Busy w' b 0 (fun _ _ => 0) ∧ Below w.heap.size w w'
set_option maxHeartbeats 4000000 in
set_option maxRecDepth 100000 in
theorem new_no (t : List Int) (ht : t.length = 13) (hok : tabOk t = false) (w : World) : Calls Try.prog 24 #[tabV t] w fun e w' => e = .returned (.tuple #[.pointer none, .int .i64 20]) ∧ Below w.heap.size w w' := by
  have hE : tabE t = 20 := by unfold tabE; rw [hok]; rfl
  have CT := hid (fun w' => tcheck_any t w' ht)
  rw [hE] at CT
  obtain ⟨t0, t1, t2, t3, t4, t5, t6, t7, t8, t9, t10, t11, t12, rfl⟩ := tabL13 ht
  clear hE ht hok
  unfold tabV at *
  simp only [List.map_cons, List.map_nil] at *
  go_enter Try.func24, Try.ntmps24
  go_wp2_with fail
  with_reducible refine (CT.out _).mono ?_
  rintro e w1 ⟨rfl, hb⟩
  go_wp2
  go_ret2
  exact ⟨rfl, btrans (balloc (Below.refl _ _) _) hb⟩
set_option maxHeartbeats 4000000 in
set_option maxRecDepth 100000 in
theorem new_yes (t : List Int) (ht : t.length = 13) (hok : tabOk t = true) (w : World) : Calls Try.prog 24 #[tabV t] w (NewR t 68 (.agg #[]) false w) := by
  have hE : tabE t = 0 := by unfold tabE; rw [hok]; rfl
  have CT := hid (fun w' => tcheck_any t w' ht)
  rw [hE] at CT
  have hmm := @run_makeMap Try.prog
  have hmf : ∀ (fn : Fn) (first cap : Array Value) (w : World), (Instr.makeFunc fn first cap).run Try.prog w = .ok (.func fn first cap) w := fun _ _ _ _ => rfl
  obtain ⟨t0, t1, t2, t3, t4, t5, t6, t7, t8, t9, t10, t11, t12, rfl⟩ := tabL13 ht
  clear hE ht hok
  unfold tabV at *
  simp only [List.map_cons, List.map_nil] at *
  go_enter Try.func24, Try.ntmps24
  go_wp2_with fail
  with_reducible refine (CT.out _).mono ?_
  rintro e w1 ⟨rfl, hb⟩
  obtain ⟨hc, hf⟩ := bcell hb
  have hz := bsize hb
  go_wp2
  go_ret2
  refine ⟨w1.heap.size + 1, w1.heap.size, rfl, by have := hb.size; simp at this; omega, by have := hb.size; simp at this; omega, heap_newR _ _ _ (by simp), ?_, balloc (balloc (btrans (balloc (Below.refl _ _) _) hb) _) _⟩
  exact ⟨⟨_, (MapF.made w1).keep (row := none) (World.grownBy_alloc _ _ none) (by simp)⟩, fun _ _ _ _ _ => ⟨by omega, by omega⟩⟩
/-- The object with other turns. -/
theorem ResC.turn {w : World} {p b : Nat} {t : List Int} {F : FuncId} {rcv : Value} {any : Bool} (h : ResC w p b t F rcv any) (ht : t.length = 13) (F' : FuncId) (rcv' : Value) (any' : Bool) :
    ResC ((w.setCell ⟨p, 13, none⟩ (.func (.func F') #[rcv'] #[])).setCell ⟨p, 14, none⟩ (.bool any')) p b t F' rcv' any' := by
  obtain ⟨t0, t1, t2, t3, t4, t5, t6, t7, t8, t9, t10, t11, t12, rfl⟩ := tabL13 ht
  have h1 := heap_setCell_same w p 13 _ _ (.func (.func F') #[rcv'] #[]) h
  have h2 := heap_setCell_same _ p 14 _ _ (.bool any') h1
  exact h2
theorem gb_set {w : World} {p : Addr} (v : Value) : w.grownBy (w.setCell p v) (some p.block) := ⟨rfl, rfl, rfl, by simp [World.setCell], fun k _ hne => heap_setCell_other _ _ _ _ (fun e => hne (by rw [e]))⟩
set_option maxHeartbeats 4000000 in
set_option maxRecDepth 100000 in
theorem ring_no (t : List Int) (ev : Int) (ht : t.length = 13) (hok : tabOk t = false) (w : World) : Calls Try.prog 23 #[tabV t, .int .i64 ev] w fun e w' => e = .returned (.tuple #[.pointer none, .int .i64 20]) ∧ Below w.heap.size w w' := by
  have CT := hid (new_no t ht hok)
  obtain ⟨t0, t1, t2, t3, t4, t5, t6, t7, t8, t9, t10, t11, t12, rfl⟩ := tabL13 ht
  clear ht hok
  unfold tabV at *
  simp only [List.map_cons, List.map_nil] at *
  go_enter Try.func23, Try.ntmps23
  go_wp2_with fail
  with_reducible refine (CT.out _).mono ?_
  rintro e w1 ⟨rfl, hb⟩
  go_wp2
  go_ret2
  exact ⟨rfl, btrans (balloc (Below.refl _ _) _) hb⟩
set_option maxHeartbeats 4000000 in
set_option maxRecDepth 100000 in
theorem ring_arg (t : List Int) (ev : Int) (ht : t.length = 13) (hok : tabOk t = true) (hev : ¬ (1 ≤ ev ∧ ev ≤ 65536)) (w : World) : Calls Try.prog 23 #[tabV t, .int .i64 ev] w fun e w' => e = .returned (.tuple #[.pointer none, .int .i64 2]) ∧ Below w.heap.size w w' := by
  have CT := hid (new_yes t ht hok)
  obtain ⟨t0, t1, t2, t3, t4, t5, t6, t7, t8, t9, t10, t11, t12, rfl⟩ := tabL13 ht
  clear ht hok
  unfold tabV at *
  simp only [List.map_cons, List.map_nil] at *
  by_cases h1 : ev < 1
  · go_enter Try.func23, Try.ntmps23
    go_wp2_with fail
    with_reducible refine (CT.out _).mono ?_
    rintro e w1 ⟨p, b, rfl, hp, hb, hR, hB, hbel⟩
    go_wp2
    go_ret2
    exact ⟨rfl, btrans (balloc (Below.refl _ _) _) hbel⟩
  · have h2 : 65536 < ev := by omega
    go_enter Try.func23, Try.ntmps23
    go_wp2_with fail
    with_reducible refine (CT.out _).mono ?_
    rintro e w1 ⟨p, b, rfl, hp, hb, hR, hB, hbel⟩
    go_wp2
    go_ret2
    exact ⟨rfl, btrans (balloc (Below.refl _ _) _) hbel⟩
set_option maxHeartbeats 4000000 in
set_option maxRecDepth 100000 in
theorem ring_yes (t : List Int) (ev : Int) (ht : t.length = 13) (hok : tabOk t = true) (hev : 1 ≤ ev ∧ ev ≤ 65536) (w : World) : Calls Try.prog 23 #[tabV t, .int .i64 ev] w (NewR t 66 (.agg #[.int .i64 ev]) true w) := by
  have CT := hid (new_yes t ht hok)
  have hmf : ∀ (fn : Fn) (first cap : Array Value) (w : World), (Instr.makeFunc fn first cap).run Try.prog w = .ok (.func fn first cap) w := fun _ _ _ _ => rfl
  have HTn := hid (fun (w' : World) (p b : Nat) (h : ResC w' p b t 68 (.agg #[]) false) => h.turn ht 66 (.agg #[.int .i64 ev]) true)
  have HC1 := hid (fun (w' : World) (p b : Nat) (h : ResC w' p b t 68 (.agg #[]) false) => h.fn ht)
  have HC2 := hid (fun (w' : World) (p b : Nat) (h : ResC w' p b t 68 (.agg #[]) false) => h.any ht)
  obtain ⟨t0, t1, t2, t3, t4, t5, t6, t7, t8, t9, t10, t11, t12, rfl⟩ := tabL13 ht
  clear ht hok
  unfold tabV at *
  simp only [List.map_cons, List.map_nil] at *
  obtain ⟨h1, h2⟩ := hev
  have h3 : ¬ ev < 1 := by omega
  have h4 : ¬ 65536 < ev := by omega
  go_enter Try.func23, Try.ntmps23
  go_wp2_with fail
  with_reducible refine (CT.out _).mono ?_
  rintro e w1 ⟨p, b, rfl, hp, hb, hR, hB, hbel⟩
  have hpb := res_ne hR hB
  have c13 := HC1.out _ _ _ hR
  have c14 := HC2.out _ _ _ hR
  have f13 : w1.frozen? ⟨p, 13, none⟩ = false := frozen_of_row _ _ _ _ _ hR
  have f14 : w1.frozen? ⟨p, 14, none⟩ = false := frozen_of_row _ _ _ _ _ hR
  have hRh := hid hR
  have hBh := hid hB
  clear hR hB
  go_wp2
  go_ret2
  refine ⟨p, b, rfl, ?_, ?_, HTn.out _ _ _ hRh.out, (hBh.out.keep (gb_set _) (by simpa using fun e => hpb e.symm)).keep (gb_set _) (by simpa using fun e => hpb e.symm), ?_⟩
  · simp at hp; omega
  · simp at hb; omega
  · exact bset (bset (btrans (balloc (Below.refl _ _) _) hbel) (by simp at hp; simp; omega) _) (by simp at hp; simp; omega) _
end Go.Proofs.Ytcibkoodnfkogaa
