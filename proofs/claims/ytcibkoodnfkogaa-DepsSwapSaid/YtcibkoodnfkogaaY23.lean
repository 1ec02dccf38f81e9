/- The end of a block. -/
import Derived.Test.YtcibkoodnfkogaaY20
import Derived.Recover
import Derived.Defers
namespace Go.Proofs.Ytcibkoodnfkogaa
open Go.RowKit
set_option linter.unusedVariables false
set_option linter.unusedSimpArgs false
section
open Go.RowKit
theorem mc_blk (P pv : Value) (m : Mc) (x : Nat → Value) (v : Nat) (k : Nat) : (if k = 289 then Value.int .i64 v else mcell P pv m x k) = mcell P pv { m with blk := v } x k := by
  by_cases h : k = 289
  · subst h; rfl
  · rw [if_neg h]
    unfold mcell
    simp only [h, if_false]
theorem mc_body (P pv : Value) (m : Mc) (x : Nat → Value) (v : Bool) (k : Nat) : (if k = 290 then Value.bool v else mcell P pv m x k) = mcell P pv { m with body := v } x k := by
  by_cases h : k = 290
  · subst h; rfl
  · rw [if_neg h]
    unfold mcell
    simp only [h, if_false]
theorem mc_pos (P pv : Value) (m : Mc) (x : Nat → Value) (v : Nat) (k : Nat) : (if k = 291 then Value.int .i64 v else mcell P pv m x k) = mcell P pv { m with pos := v } x k := by
  by_cases h : k = 291
  · subst h; rfl
  · rw [if_neg h]
    unfold mcell
    simp only [h, if_false]
theorem mc_rounds (P pv : Value) (m : Mc) (x : Nat → Value) (v : Int) (k : Nat) : (if k = 292 then Value.int .i64 v else mcell P pv m x k) = mcell P pv { m with rounds := v } x k := by
  by_cases h : k = 292
  · subst h; rfl
  · rw [if_neg h]
    unfold mcell
    simp only [h, if_false]
theorem mc_steps (P pv : Value) (m : Mc) (x : Nat → Value) (v : Nat) (k : Nat) : (if k = 293 then Value.int .i64 v else mcell P pv m x k) = mcell P pv { m with steps := v } x k := by
  by_cases h : k = 293
  · subst h; rfl
  · rw [if_neg h]
    unfold mcell
    simp only [h, if_false]
theorem mc_over (P pv : Value) (m : Mc) (x : Nat → Value) (v : Bool) (k : Nat) : (if k = 295 then Value.bool v else mcell P pv m x k) = mcell P pv { m with over := v } x k := by
  by_cases h : k = 295
  · subst h; rfl
  · rw [if_neg h]
    unfold mcell
    simp only [h, if_false]
theorem mc_e (P pv : Value) (m : Mc) (x : Nat → Value) (v : Int) (k : Nat) : (if k = 296 then Value.int .i64 v else mcell P pv m x k) = mcell P pv { m with e := v } x k := by
  by_cases h : k = 296
  · subst h; rfl
  · rw [if_neg h]
    unfold mcell
    simp only [h, if_false]
theorem mc_val (P pv : Value) (m : Mc) (x : Nat → Value) (v : Int) (k : Nat) : (if k = 297 then Value.int .i64 v else mcell P pv m x k) = mcell P pv { m with val := v } x k := by
  by_cases h : k = 297
  · subst h; rfl
  · rw [if_neg h]
    unfold mcell
    simp only [h, if_false]
section
variable {w0 w w' : World} {r0 : Option Nat} {g : Nat} {T : TypeId} {n B : Nat} {S : Nat → Prop} {A : Option Addr} {l : List Blk} {cap : Nat} {I : TypeId} {pv pv' : Value} {m m' : Mc} {x x' : Nat → Value}
theorem Went.place (h : Went w0 r0 w g T n B S A l cap I pv m x) (t : Nat) (b : Bool) (p : Nat) :
    Went w0 r0 (((w.setCell ⟨g, 289, none⟩ (.int .i64 t)).setCell ⟨g, 290, none⟩ (.bool b)).setCell ⟨g, 291, none⟩ (.int .i64 p)) g T n B S A l cap I pv { m with blk := t, body := b, pos := p } x :=
  ((h.set (m' := { m with blk := t }) 289 _ (fun k _ => mc_blk _ _ m x t k) rfl).set (m' := { m with blk := t, body := b }) 290 _ (fun k _ => mc_body _ _ _ x b k) rfl).set 291 _ (fun k _ => mc_pos _ _ _ x p k) rfl
theorem Went.rounds (h : Went w0 r0 w g T n B S A l cap I pv m x) (v : Int) : Went w0 r0 (w.setCell ⟨g, 292, none⟩ (.int .i64 v)) g T n B S A l cap I pv { m with rounds := v } x :=
  h.set 292 _ (fun k _ => mc_rounds _ _ _ x v k) rfl
theorem Went.halt (h : Went w0 r0 w g T n B S A l cap I pv m x) (v : Int) : Went w0 r0 ((w.setCell ⟨g, 295, none⟩ (.bool true)).setCell ⟨g, 297, none⟩ (.int .i64 v)) g T n B S A l cap I pv { m with over := true, val := v } x :=
  (h.set (m' := { m with over := true }) 295 _ (fun k _ => mc_over _ _ _ x true k) rfl).set 297 _ (fun k _ => mc_val _ _ _ x v k) rfl
theorem Went.fall (h : Went w0 r0 w g T n B S A l cap I pv m x) (v : Int) : Went w0 r0 ((w.setCell ⟨g, 295, none⟩ (.bool true)).setCell ⟨g, 296, none⟩ (.int .i64 v)) g T n B S A l cap I pv { m with over := true, e := v } x :=
  (h.set (m' := { m with over := true }) 295 _ (fun k _ => mc_over _ _ _ x true k) rfl).set 296 _ (fun k _ => mc_e _ _ _ x v k) rfl
theorem Went.pos (h : Went w0 r0 w g T n B S A l cap I pv m x) (v : Nat) : Went w0 r0 (w.setCell ⟨g, 291, none⟩ (.int .i64 v)) g T n B S A l cap I pv { m with pos := v } x :=
  h.set 291 _ (fun k _ => mc_pos _ _ _ x v k) rfl
theorem Went.steps (h : Went w0 r0 w g T n B S A l cap I pv m x) (v : Nat) : Went w0 r0 (w.setCell ⟨g, 293, none⟩ (.int .i64 v)) g T n B S A l cap I pv { m with steps := v } x :=
  h.set 293 _ (fun k _ => mc_steps _ _ _ x v k) rfl
end
def MendS (g : Nat) (B : Nat) (S : Nat → Prop) (A : Option Addr) (l : List Blk) (cap : Nat) (pv : Value) (m : Mc) (w : World) (e : Ending) (w' : World) : Prop :=
  e = .returned (.tuple #[]) ∧ Went w pv.ownBlock w' g 158 322 B S A l cap 2 pv m doX
set_option maxHeartbeats 4000000 in
set_option maxRecDepth 100000 in
theorem mend_any {g B : Nat} {S : Nat → Prop} {A : Option Addr} {l : List Blk} {cap : Nat} {pv : Value} {m : Mc} {w : World} (h : Mach w g 158 322 B S A l cap 2 pv m doX) (hbl : m.blk < l.length) (h128 : l.length ≤ 128) (b : Blk) (hbk : l[m.blk]? = some b) (hw : b.wf) (he : endB b l.length = true) (hok : m.ok l) :
    Calls Try.prog 133 #[.pointer (some ⟨g, 0, none⟩)] w (MendS g B S A l cap pv (endS b m) w) := by
  obtain ⟨q, o, hA, _, hq⟩ := h.blks.get m.blk hbl
  have hbk2 : l[m.blk] = b := by have := List.getElem?_eq_getElem hbl; rw [hbk] at this; exact (Option.some.inj this).symm
  rw [hbk2] at hq
  obtain ⟨B1, c1, B2, c2, k0, k1, k2, k3, k4, k5, o1, o2, l1, l2, _, _⟩ := hq
  have r0 : w.cell? ⟨g, 0, none⟩ = some (.slice (some ⟨q, o, none⟩) l.length cap) := by rw [← hA]; exact h.cells.cell 0 (by decide)
  have r1 : w.cell? ⟨g, 289, none⟩ = some (.int .i64 m.blk) := h.cells.cell 289 (by decide)
  have r2 : w.cell? ⟨g, 290, none⟩ = some (.bool m.body) := h.cells.cell 290 (by decide)
  have r3 : w.cell? ⟨g, 291, none⟩ = some (.int .i64 m.pos) := h.cells.cell 291 (by decide)
  have r4 : w.cell? ⟨g, 292, none⟩ = some (.int .i64 m.rounds) := h.cells.cell 292 (by decide)
  have r7 : w.cell? ⟨g, 295, none⟩ = some (.bool m.over) := h.cells.cell 295 (by decide)
  have r9 : w.cell? ⟨g, 297, none⟩ = some (.int .i64 m.val) := h.cells.cell 297 (by decide)
  have f1 := h.cells.frozen 289
  have f2 := h.cells.frozen 290
  have f3 := h.cells.frozen 291
  have f4 := h.cells.frozen 292
  have f7 := h.cells.frozen 295
  have f9 := h.cells.frozen 297
  have hgl := h.cells.lt
  have hql : q < w.heap.size := World.block_lt_of_cell? w _ k0
  have hij : (m.blk : Int) < (l.length : Int) := by omega
  have hi0 : (0 : Int) ≤ (m.blk : Int) := by omega
  obtain ⟨he0, he3, ha0, ha1, ht0, ht1, hl0, hl1⟩ := endB_ok he (by omega)
  obtain ⟨a, hae⟩ := Int.eq_ofNat_of_zero_le ha0
  obtain ⟨t, hte⟩ := Int.eq_ofNat_of_zero_le ht0
  obtain ⟨y, hye⟩ := Int.eq_ofNat_of_zero_le hl0
  have hal : a < 32 := by omega
  have ra := h.regs.R a hal
  rw [reg_get, ← hae] at ra
  have hrb := reg_bd hok.ri b.a
  have hr0 := hok.r0
  have hr1 := hok.r1
  have hok' := hid hok.rb
  have W0 := hid h.went
  obtain ⟨E, hE⟩ : ∃ E, E = endS b m := ⟨_, rfl⟩
  have hfin : Hid (∀ (w' : World), Went w pv.ownBlock w' g 158 322 B S A l cap 2 pv (endS b m) doX → MendS g B S A l cap pv E w (.returned (.tuple #[])) w') := hid fun w' h => ⟨rfl, h.congr hE.symm⟩
  rw [← hE]
  clear hE
  unfold endS rndS at hfin
  rw [hae] at k2
  rw [hte] at k4
  rw [hye] at k5
  clear hA h hbk hbk2 o1 o2 l1 l2 k0 k3 hw he hok hae
  generalize reg m.R b.a = va at *
  have hen : b.en = 0 ∨ b.en = 1 ∨ b.en = 2 ∨ b.en = 3 := by omega
  rcases hen with h0 | h0 | h0 | h0
  · rw [h0, hte] at hfin
    rw [h0] at k1
    clear he0 he3 ha0 ha1 ht0 ht1 hl0 hl1 hte hye h0
    simp only [show ¬ ((0 : Int) = 2) by decide, show ¬ ((0 : Int) = 3) by decide, show ¬ ((0 : Int) = 1) by decide, false_and, if_false, Int.toNat_natCast] at hfin
    go_enter Try.func133, Try.ntmps133
    go_wp2
    go_quiet (fail)
    go_wp2
    refine bodyPost_ret (v := .tuple #[]) (by simp [results, Try.results133, go_sem]) rfl (hfin.out _ ?_)
    exact (W0.out.drewN _).place t false 0
  · rw [h0, hte, hye] at hfin
    rw [h0] at k1
    clear he0 he3 ha0 ha1 ht0 ht1 hl0 hl1 hte hye h0
    cases hz : (va == 0) with
    | true =>
      have hz2 : va = 0 := eq_of_beq hz
      simp only [show ¬ ((1 : Int) = 2) by decide, show ¬ ((1 : Int) = 3) by decide, hz2, true_and, if_false, if_true, and_self, Int.toNat_natCast] at hfin
      clear hz2
      go_enter Try.func133, Try.ntmps133
      go_wp2
      go_quiet (fail)
      go_wp2
      go_quiet (fail)
      go_wp2
      refine bodyPost_ret (v := .tuple #[]) (by simp [results, Try.results133, go_sem]) rfl (hfin.out _ ?_)
      exact (W0.out.drewN _).place y false 0
    | false =>
      have hz2 : ¬ va = 0 := by simpa using hz
      simp only [show ¬ ((1 : Int) = 2) by decide, show ¬ ((1 : Int) = 3) by decide, hz2, and_false, if_false, Int.toNat_natCast] at hfin
      clear hz2
      go_enter Try.func133, Try.ntmps133
      go_wp2
      go_quiet (fail)
      go_wp2
      go_quiet (fail)
      go_wp2
      refine bodyPost_ret (v := .tuple #[]) (by simp [results, Try.results133, go_sem]) rfl (hfin.out _ ?_)
      exact (W0.out.drewN _).place t false 0
  · rw [h0] at hfin k1
    simp only [if_true] at hfin
    clear he0 he3 ha0 ha1 ht0 ht1 hl0 hl1 hte hye h0
    go_enter Try.func133, Try.ntmps133
    go_wp2
    go_quiet (fail)
    go_wp2
    go_region
    go_wp2
    all_goals
      refine bodyPost_ret (v := .tuple #[]) (by simp [results, Try.results133, go_sem]) rfl (hfin.out _ ?_)
      exact (W0.out.drewN _).halt va
  · rw [h0, hte] at hfin
    rw [h0] at k1
    clear he0 he3 ha0 ha1 ht0 ht1 hl0 hl1 hte hye h0
    simp only [show ¬ ((3 : Int) = 2) by decide, if_true, if_false, Int.toNat_natCast] at hfin
    cases hbd : m.body with
    | true =>
      rw [hbd] at r2
      simp only [hbd, if_true] at hfin
      have hrb1 := hok'.out hbd
      by_cases h0 : 0 < m.rounds - 1
      · rw [if_pos h0] at hfin
        go_enter Try.func133, Try.ntmps133
        go_wp2
        go_quiet (fail)
        go_wp2
        refine bodyPost_ret (v := .tuple #[]) (by simp [results, Try.results133, go_sem]) rfl (hfin.out _ ?_)
        have h1 := ((W0.out.drewN nq).rounds (m.rounds - 1)).place m.blk true 0
        exact h1
      · rw [if_neg h0] at hfin
        go_enter Try.func133, Try.ntmps133
        go_wp2
        go_quiet (fail)
        go_wp2
        refine bodyPost_ret (v := .tuple #[]) (by simp [results, Try.results133, go_sem]) rfl (hfin.out _ ?_)
        have h1 := ((W0.out.drewN nq).rounds (m.rounds - 1)).place t false 0
        exact h1
    | false =>
      rw [hbd] at r2
      simp only [hbd, Bool.false_eq_true, if_false] at hfin
      by_cases h0 : 0 < va
      · rw [show max va 0 = va by omega, if_pos h0] at hfin
        have hmx : (max va 0 : Int) = va := by omega
        go_enter Try.func133, Try.ntmps133
        go_wp2
        go_quiet (fail)
        go_wp2
        go_region
        go_wp2
        all_goals
          refine bodyPost_ret (v := .tuple #[]) (by simp [results, Try.results133, go_sem]) rfl (hfin.out _ ?_)
          have h1 := ((W0.out.drewN (nq + 1)).rounds va).place m.blk true 0
          exact h1
      · rw [show max va 0 = 0 by omega, if_neg (by decide)] at hfin
        have hmx : (max va 0 : Int) = 0 := by omega
        go_enter Try.func133, Try.ntmps133
        go_wp2
        go_quiet (fail)
        go_wp2
        go_region
        go_wp2
        all_goals
          refine bodyPost_ret (v := .tuple #[]) (by simp [results, Try.results133, go_sem]) rfl (hfin.out _ ?_)
          have h1 := ((W0.out.drewN (nq + 1)).rounds 0).place t false 0
          first
            | exact h1
            | (have e : va = 0 := by omega
               rw [e]
               exact h1)
end
/- Is the machine stuck? The deferred closure of a step. -/
section
open Go.RowKit
theorem lst_none {l : List Blk} {m : Mc} (h : ¬ m.pos < (lstS l m).length) : (lstS l m)[m.pos]? = none := List.getElem?_eq_none (by omega)
set_option maxHeartbeats 4000000 in
set_option maxRecDepth 100000 in
theorem stuck_any {g B : Nat} {S : Nat → Prop} {A : Option Addr} {l : List Blk} {cap : Nat} {pv : Value} {m : Mc} {w : World} (h : Mach w g 158 322 B S A l cap 2 pv m doX) (hp : PrgOk l) (hok : m.ok l) :
    Calls Try.prog 99 #[.pointer (some ⟨g, 0, none⟩)] w fun e w' => e = .returned (.bool (stuckS l m)) ∧ Below w.heap.size w w' := by
  have C1 := hid (list_any h hok.blk hp.n1)
  have r3 : w.cell? ⟨g, 291, none⟩ = some (.int .i64 m.pos) := h.cells.cell 291 (by decide)
  have r7 : w.cell? ⟨g, 295, none⟩ = some (.bool m.over) := h.cells.cell 295 (by decide)
  have hgl := h.cells.lt
  cases hov : m.over with
  | true =>
    have e0 := hid (show stuckS l m = false by unfold stuckS; rw [hov]; rfl)
    rw [hov] at r7
    clear h hp hok hov
    go_enter Try.func99, Try.ntmps99
    go_wp2_with fail
    with_reducible refine C1.out.mono ?_
    rintro e w1 ⟨L, c, rfl, hO, hc, hb, _⟩
    have r7 := cell_keep r7 hb
    have r3 := cell_keep r3 hb
    have hgl1 : g < w1.heap.size := Nat.lt_of_lt_of_le hgl hb.size
    go_wp2
    go_ret
    exact ⟨ret_bool e0.out.symm, hb⟩
  | false =>
    rw [hov] at r7
    by_cases hlt : m.pos < (lstS l m).length
    · obtain ⟨hoo, how⟩ := lst_mem hp (List.getElem?_eq_getElem hlt)
      obtain ⟨hk1, hk17, hd0, hd1, ha0, ha1, hb0, hb1, hn0, hn1⟩ := opOk_bd hoo how
      have e0 : stuckS l m = opT (lstS l m)[m.pos] m.R := by unfold stuckS; rw [hov, List.getElem?_eq_getElem hlt]; rfl
      rw [e0]
      clear e0
      have HG := hid (fun (w' : World) (L : Option Addr) (h : OpsIn w' L (lstS l m)) => h.get m.pos hlt)
      have hreg := h.regs.R
      generalize (lstS l m)[m.pos] = o at *
      obtain ⟨k, d, a, b, n⟩ := o
      simp only at hk1 hk17 hb0 hb1
      obtain ⟨b, rfl⟩ := Int.eq_ofNat_of_zero_le hb0
      have rb := hreg b (by omega)
      rw [reg_get] at rb
      have hbl : b < 32 := by omega
      unfold opT
      simp only
      generalize reg m.R (b : Int) = vb at *
      have hij : (m.pos : Int) < ((lstS l m).length : Int) := by omega
      generalize hln : (lstS l m).length = ln at *
      clear h hp hok hov hreg hoo how hd0 hd1 ha0 ha1 hn0 hn1
      cases h13 : (k == 13) <;> cases h14 : (k == 14) <;> cases hz : (vb == 0)
      all_goals
        go_enter Try.func99, Try.ntmps99
        go_wp2_with fail
        with_reducible refine C1.out.mono ?_
        rintro e w1 ⟨L, c, rfl, hO, hc, hb, _⟩
        have rb := cell_keep rb hb
        have r3 := cell_keep r3 hb
        have r7 := cell_keep r7 hb
        have hgl1 : g < w1.heap.size := Nat.lt_of_lt_of_le hgl hb.size
        obtain ⟨q, oo, rfl, hq⟩ := HG.out _ _ hO
        rw [hln] at hc ⊢
        obtain ⟨c0, c1, c2, c3, c4⟩ := hq
        have hql : q < w1.heap.size := World.block_lt_of_cell? w1 _ c0
        clear hO
        simp only at c0 c1 c2 c3 c4
        go_wp2
        go_quiet (fail)
        go_wp2
        go_ret
        refine ⟨rfl, btrans hb ?_⟩
        ((with_reducible (repeat (first | assumption | exact Below.refl _ _ | refine bset ?_ (Nat.le_refl _) _ | refine balloc ?_ _ | refine bdrew ?_ | refine bdrewN ?_ _))); done)
    · have e0 := hid (show stuckS l m = false by unfold stuckS; rw [lst_none hlt, Bool.and_false])
      have hij : ¬ (m.pos : Int) < ((lstS l m).length : Int) := by omega
      have hij2 : ((lstS l m).length : Int) ≤ (m.pos : Int) := by omega
      clear h hp hok hov
      go_enter Try.func99, Try.ntmps99
      go_wp2_with fail
      with_reducible refine C1.out.mono ?_
      rintro e w1 ⟨L, c, rfl, hO, hc, hb, _⟩
      have r7 := cell_keep r7 hb
      have r3 := cell_keep r3 hb
      have hgl1 : g < w1.heap.size := Nat.lt_of_lt_of_le hgl hb.size
      go_wp2
      go_ret
      exact ⟨ret_bool e0.out.symm, hb⟩
end
/- The deferred closure of a step. -/
section
open Go.RowKit
theorem wp_name {P : Program} {c : Code} {Q : Exit → Act → World → Prop} {a : Act} {w : World} (h : ∀ Q' : Exit → Act → World → Prop, Hid (∀ e a w, Q e a w → Q' e a w) → c.wp P Q' a w) : c.wp P Q a w := h Q (fun _ _ _ h => h)
set_option maxHeartbeats 4000000 in
set_option maxRecDepth 100000 in
theorem catch_idle (pm pt pd : Addr) (w : World) :
    CallsD Try.prog 131 #[.pointer (some pm), .pointer (some pt), .pointer (some pd)] .returning w fun e u' w' => e = .returned (.tuple #[]) ∧ u' = .returning ∧ w' = w := by
  refine callsD_of_wpS Try.func131 rfl fun c₀ cs hu => ?_
  simp only [Try.ntmps131, List.size_toArray, List.length_cons, List.length_nil, Nat.reduceAdd, Nat.reduceSub, Array.replicate_succ, Array.replicate_zero, List.push_toArray, List.append_toArray, List.nil_append, List.cons_append]
  with_reducible refine wpS_seq ?_
  with_reducible refine wpS_region ?_
  simp [wpOpsS, go_sem, recoverD, hu, Exit.thenS]
  with_reducible refine wpS_of_wp ?_
  with_reducible refine wp_name fun Q' hQ' => ?_
  go_wp2
  with_reducible refine hQ'.out _ _ _ ?_
  cases c₀
  simp_all [bodyPostS, results, Try.results131, go_sem]
set_option maxHeartbeats 4000000 in
set_option maxRecDepth 100000 in
theorem catch_trap (g bm bt bd : Nat) (t0 t1 t2 t3 d0 o0 o1 : Value) (w : World) (hm : w.cell? ⟨bm, 0, none⟩ = some (.pointer (some ⟨g, 0, none⟩)))
    (h5 : w.cell? ⟨g, 295, none⟩ = some o0) (h6 : w.cell? ⟨g, 296, none⟩ = some o1) (f5 : w.frozen? ⟨g, 295, none⟩ = false) (f6 : w.frozen? ⟨g, 296, none⟩ = false)
    (k0 : w.cell? ⟨bt, 0, none⟩ = some t0) (k1 : w.cell? ⟨bt, 1, none⟩ = some t1) (k2 : w.cell? ⟨bt, 2, none⟩ = some t2) (k3 : w.cell? ⟨bt, 3, none⟩ = some t3) (kd : w.cell? ⟨bd, 0, none⟩ = some d0)
    (z0 : w.frozen? ⟨bt, 0, none⟩ = false) (z1 : w.frozen? ⟨bt, 1, none⟩ = false) (z2 : w.frozen? ⟨bt, 2, none⟩ = false) (z3 : w.frozen? ⟨bt, 3, none⟩ = false) (zd : w.frozen? ⟨bd, 0, none⟩ = false)
    (n1 : g ≠ bt) (n2 : g ≠ bd) (n3 : bt ≠ bd) (n4 : bm ≠ g) :
    CallsD Try.prog 131 #[.pointer (some ⟨bm, 0, none⟩), .pointer (some ⟨bt, 0, none⟩), .pointer (some ⟨bd, 0, none⟩)] (.panicking [{ v := .iface 196 (.agg #[]), recovered := false }]) w fun e u' w' =>
      e = .returned (.tuple #[]) ∧ u' = .panicking [{ v := .iface 196 (.agg #[]), recovered := true }] ∧ w' = (((((((w.setCell ⟨g, 295, none⟩ (.bool true)).setCell ⟨g, 296, none⟩ (.int .i64 101)).setCell ⟨bt, 0, none⟩ (.int .i64 0)).setCell ⟨bt, 1, none⟩ (.bool false)).setCell ⟨bt, 2, none⟩ (.int .i64 0)).setCell ⟨bt, 3, none⟩ (.bool false)).setCell ⟨bd, 0, none⟩ (.bool false)).alloc (.cells #[] 196) := by
  have n1' := Ne.symm n1
  have n2' := Ne.symm n2
  have n3' := Ne.symm n3
  have n4' := Ne.symm n4
  have hta : ∀ w, (Instr.typeAssert (.iface 196 (.agg #[])) 20 196 true).run Try.prog w = .ok (.tuple #[.agg #[], .bool true]) w := fun w => by kernel_rfl
  have hgl : g < w.heap.size := World.block_lt_of_cell? w _ h5
  have hbl : bt < w.heap.size := World.block_lt_of_cell? w _ k0
  have hdl : bd < w.heap.size := World.block_lt_of_cell? w _ kd
  have hml : bm < w.heap.size := World.block_lt_of_cell? w _ hm
  refine callsD_of_wpS Try.func131 rfl fun c₀ cs hu => ?_
  simp only [Try.ntmps131, List.size_toArray, List.length_cons, List.length_nil, Nat.reduceAdd, Nat.reduceSub, Array.replicate_succ, Array.replicate_zero, List.push_toArray, List.append_toArray, List.nil_append, List.cons_append]
  with_reducible refine wpS_seq ?_
  with_reducible refine wpS_region ?_
  simp [wpOpsS, go_sem, recoverD, hu, Exit.thenS]
  with_reducible refine wpS_of_wp ?_
  with_reducible refine wp_name fun Q' hQ' => ?_
  go_wp2
  with_reducible refine hQ'.out _ _ _ ?_
  cases c₀
  simp_all [bodyPostS, results, Try.results131, go_sem]
end
end Go.Proofs.Ytcibkoodnfkogaa
