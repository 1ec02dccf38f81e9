/- Is the machine stuck? The deferred closure of a step. -/
import Derived.Test.YtpiagggnjppkhaaM7
import Derived.Recover
import Derived.Defers
namespace Go.Proofs.Ytpiagggnjppkhaa
open Go.RowKit
set_option linter.unusedVariables false
set_option linter.unusedSimpArgs false
theorem lst_none {l : List Blk} {m : Mc} (h : ¬ m.pos < (lstS l m).length) : (lstS l m)[m.pos]? = none := List.getElem?_eq_none (by omega)
set_option maxHeartbeats 4000000 in
set_option maxRecDepth 100000 in
theorem stuck_any {g B : Nat} {S : Nat → Prop} {A : Option Addr} {l : List Blk} {cap : Nat} {pv : Value} {m : Mc} {w : World} (h : Mach w g 106 322 B S A l cap 2 pv m doX) (hp : PrgOk l) (hok : m.ok l) :
    Calls Try.prog 47 #[.pointer (some ⟨g, 0, none⟩)] w fun e w' => e = .returned (.bool (stuckS l m)) ∧ Below w.heap.size w w' := by
  have C1 := hid (list_any h hok.blk hp.n1)
  have r3 : w.cell? ⟨g, 291, none⟩ = some (.int .i64 m.pos) := h.cells.cell 291 (by decide)
  have r7 : w.cell? ⟨g, 295, none⟩ = some (.bool m.over) := h.cells.cell 295 (by decide)
  have hgl := h.cells.lt
  cases hov : m.over with
  | true =>
    have e0 := hid (show stuckS l m = false by unfold stuckS; rw [hov]; rfl)
    rw [hov] at r7
    clear h hp hok hov
    go_enter Try.func47, Try.ntmps47
    go_wp2_with fail
    with_reducible refine C1.out.mono ?_
    rintro e w1 ⟨L, c, rfl, hO, hc, hb, _⟩
    have r7 := cell_keep r7 hb
    have r3 := cell_keep r3 hb
    have hgl1 : g < w1.heap.size := Nat.lt_of_lt_of_le hgl hb.size
    go_wp2
    go_ret
    exact ⟨ret_bool e0.out.symm, hb⟩
  | false =>
    rw [hov] at r7
    by_cases hlt : m.pos < (lstS l m).length
    · obtain ⟨hoo, how⟩ := lst_mem hp (List.getElem?_eq_getElem hlt)
      obtain ⟨hk1, hk17, hd0, hd1, ha0, ha1, hb0, hb1, hn0, hn1⟩ := opOk_bd hoo how
      have e0 : stuckS l m = opT (lstS l m)[m.pos] m.R := by unfold stuckS; rw [hov, List.getElem?_eq_getElem hlt]; rfl
      rw [e0]
      clear e0
      have HG := hid (fun (w' : World) (L : Option Addr) (h : OpsIn w' L (lstS l m)) => h.get m.pos hlt)
      have hreg := h.regs.R
      generalize (lstS l m)[m.pos] = o at *
      obtain ⟨k, d, a, b, n⟩ := o
      simp only at hk1 hk17 hb0 hb1
      obtain ⟨b, rfl⟩ := Int.eq_ofNat_of_zero_le hb0
      have rb := hreg b (by omega)
      rw [reg_get] at rb
      have hbl : b < 32 := by omega
      unfold opT
      simp only
      generalize reg m.R (b : Int) = vb at *
      have hij : (m.pos : Int) < ((lstS l m).length : Int) := by omega
      generalize hln : (lstS l m).length = ln at *
      clear h hp hok hov hreg hoo how hd0 hd1 ha0 ha1 hn0 hn1
      cases h13 : (k == 13) <;> cases h14 : (k == 14) <;> cases hz : (vb == 0)
      all_goals
        go_enter Try.func47, Try.ntmps47
        go_wp2_with fail
        with_reducible refine C1.out.mono ?_
        rintro e w1 ⟨L, c, rfl, hO, hc, hb, _⟩
        have rb := cell_keep rb hb
        have r3 := cell_keep r3 hb
        have r7 := cell_keep r7 hb
        have hgl1 : g < w1.heap.size := Nat.lt_of_lt_of_le hgl hb.size
        obtain ⟨q, oo, rfl, hq⟩ := HG.out _ _ hO
        rw [hln] at hc ⊢
        obtain ⟨c0, c1, c2, c3, c4⟩ := hq
        have hql : q < w1.heap.size := World.block_lt_of_cell? w1 _ c0
        clear hO
        simp only at c0 c1 c2 c3 c4
        go_wp2
        go_quiet (fail)
        go_wp2
        go_ret
        refine ⟨rfl, btrans hb ?_⟩
        ((with_reducible (repeat (first | assumption | exact Below.refl _ _ | refine bset ?_ (Nat.le_refl _) _ | refine balloc ?_ _ | refine bdrew ?_ | refine bdrewN ?_ _))); done)
    · have e0 := hid (show stuckS l m = false by unfold stuckS; rw [lst_none hlt, Bool.and_false])
      have hij : ¬ (m.pos : Int) < ((lstS l m).length : Int) := by omega
      have hij2 : ((lstS l m).length : Int) ≤ (m.pos : Int) := by omega
      clear h hp hok hov
      go_enter Try.func47, Try.ntmps47
      go_wp2_with fail
      with_reducible refine C1.out.mono ?_
      rintro e w1 ⟨L, c, rfl, hO, hc, hb, _⟩
      have r7 := cell_keep r7 hb
      have r3 := cell_keep r3 hb
      have hgl1 : g < w1.heap.size := Nat.lt_of_lt_of_le hgl hb.size
      go_wp2
      go_ret
      exact ⟨ret_bool e0.out.symm, hb⟩
end Go.Proofs.Ytpiagggnjppkhaa
