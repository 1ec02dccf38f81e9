/- The document's machine: the end of a block. -/
import Derived.Test.YtpiagggnjppkhaaZ9
import Derived.Test.YtpiagggnjppkhaaZ8
namespace Go.Proofs.Ytpiagggnjppkhaa
open Go.RowKit
set_option linter.unusedVariables false
set_option linter.unusedSimpArgs false
section
open Go.RowKit
/-- The cells of the last tag. -/
def lastX (t : Tg) (k : Nat) : Value := if k = 298 then .int .i64 t.blk else if k = 299 then .bool t.loop else if k = 300 then .int .i64 t.op else .bool false
theorem mc_x (P pv : Value) (m : Mc) (x : Nat → Value) (j : Nat) (v : Value) (hj : 298 ≤ j) (k : Nat) : (if k = j then v else mcell P pv m x k) = mcell P pv m (fun k => if k = j then v else x k) k := by
  by_cases h : k = j
  · subst h
    unfold mcell
    rw [if_pos rfl]
    repeat rw [if_neg (by omega)]
    exact (if_pos rfl).symm
  · rw [if_neg h]
    unfold mcell
    simp only [h, if_false]
section
variable {w0 w w' : World} {r0 : Option Nat} {g : Nat} {T : TypeId} {B : Nat} {S : Nat → Prop} {A : Option Addr} {l : List Blk} {cap : Nat} {I : TypeId} {pv pv' : Value} {m m' : Mc} {x x' : Nat → Value}
theorem Went.last (h : Went w0 r0 w g T 302 B S A l cap I pv m x) (t : Tg) :
    Went w0 r0 ((((w.setCell ⟨g, 298, none⟩ (.int .i64 t.blk)).setCell ⟨g, 299, none⟩ (.bool t.loop)).setCell ⟨g, 300, none⟩ (.int .i64 t.op)).setCell ⟨g, 301, none⟩ (.bool false)) g T 302 B S A l cap I pv m (lastX t) := by
  refine (((h.set 298 _ (fun k _ => mc_x _ _ m x 298 _ (by omega) k) rfl).set 299 _ (fun k _ => mc_x _ _ m _ 299 _ (by omega) k) rfl).set 300 _ (fun k _ => mc_x _ _ m _ 300 _ (by omega) k) rfl).set 301 _ (fun k hk => ?_) rfl
  rw [mc_x _ _ m _ 301 _ (by omega) k]
  by_cases h8 : k < 298
  · unfold mcell
    have e : ∀ j, 298 ≤ j → ¬ k = j := fun j hj => by omega
    by_cases h0 : k < 33
    · simp only [h0, if_true]
    by_cases h1 : k < 289
    · simp only [h0, h1, if_true, if_false]
    obtain rfl | rfl | rfl | rfl | rfl | rfl | rfl | rfl | rfl : k = 289 ∨ k = 290 ∨ k = 291 ∨ k = 292 ∨ k = 293 ∨ k = 294 ∨ k = 295 ∨ k = 296 ∨ k = 297 := by omega
    all_goals rfl
  · obtain rfl | rfl | rfl | rfl : k = 298 ∨ k = 299 ∨ k = 300 ∨ k = 301 := by omega
    all_goals rfl
theorem Went.body (h : Went w0 r0 w g T 302 B S A l cap I pv m x) (b : Bool) (p : Nat) :
    Went w0 r0 ((w.setCell ⟨g, 290, none⟩ (.bool b)).setCell ⟨g, 291, none⟩ (.int .i64 p)) g T 302 B S A l cap I pv { m with body := b, pos := p } x :=
  (h.set (m' := { m with body := b }) 290 _ (fun k _ => mc_body _ _ _ x b k) rfl).set 291 _ (fun k _ => mc_pos _ _ _ x p k) rfl
theorem Went.halt0 (h : Went w0 r0 w g T 302 B S A l cap I pv m x) (he : m.e = 0) (v : Int) :
    Went w0 r0 (((w.setCell ⟨g, 295, none⟩ (.bool true)).setCell ⟨g, 296, none⟩ (.int .i64 0)).setCell ⟨g, 297, none⟩ (.int .i64 v)) g T 302 B S A l cap I pv { m with over := true, val := v } x := by
  have h2 := ((h.set (m' := { m with over := true }) 295 _ (fun k _ => mc_over _ _ _ x true k) rfl).set (m' := { m with over := true, e := 0 }) 296 _ (fun k _ => mc_e _ _ _ x 0 k) rfl).set (m' := { m with over := true, e := 0, val := v }) 297 _ (fun k _ => mc_val _ _ _ x v k) rfl
  refine h2.congr ?_
  rw [← he]
end
set_option maxHeartbeats 4000000 in
set_option maxRecDepth 100000 in
theorem rendM_any {g B : Nat} {S : Nat → Prop} {A : Option Addr} {l : List Blk} {cap : Nat} {pv : Value} {m : Mc} {w : World} {x : Nat → Value} (h : Mach w g 108 302 B S A l cap 2 pv m x) (h128 : l.length ≤ 128) (b : Blk) (hw : b.wf) (he : endB b l.length = true) (hok : m.ok l) (hov : m.over = false) (B1 B2 : Option Addr) (c1 c2 : Nat) :
    Calls Try.prog 79 #[.pointer (some ⟨g, 0, none⟩), .agg #[.slice B1 b.ops.length c1, .int .i8 b.en, .int .u8 b.a, .slice B2 b.body.length c2, .int .i64 b.th, .int .i64 b.el]] w (RendS g B S A l cap pv (endS b m) (lastX ⟨m.blk, false, -1⟩) w) := by
  have CT := hid (fun (w' : World) (pv : Value) (m' : Mc) (x' : Nat → Value) (t : Nat) (h : Mach w' g 108 302 B S A l cap 2 pv m' x') => rto_any t h)
  have r1 : w.cell? ⟨g, 289, none⟩ = some (.int .i64 m.blk) := h.cells.cell 289 (by decide)
  have r2 : w.cell? ⟨g, 290, none⟩ = some (.bool m.body) := h.cells.cell 290 (by decide)
  have r3 : w.cell? ⟨g, 291, none⟩ = some (.int .i64 m.pos) := h.cells.cell 291 (by decide)
  have r4 : w.cell? ⟨g, 292, none⟩ = some (.int .i64 m.rounds) := h.cells.cell 292 (by decide)
  have r7 : w.cell? ⟨g, 295, none⟩ = some (.bool m.over) := h.cells.cell 295 (by decide)
  have r8 : w.cell? ⟨g, 296, none⟩ = some (.int .i64 m.e) := h.cells.cell 296 (by decide)
  have r9 : w.cell? ⟨g, 297, none⟩ = some (.int .i64 m.val) := h.cells.cell 297 (by decide)
  have r10 : w.cell? ⟨g, 298, none⟩ = some (x 298) := h.cells.cell 298 (by decide)
  have r11 : w.cell? ⟨g, 299, none⟩ = some (x 299) := h.cells.cell 299 (by decide)
  have r12 : w.cell? ⟨g, 300, none⟩ = some (x 300) := h.cells.cell 300 (by decide)
  have r13 : w.cell? ⟨g, 301, none⟩ = some (x 301) := h.cells.cell 301 (by decide)
  have f1 := h.cells.frozen 289
  have f2 := h.cells.frozen 290
  have f3 := h.cells.frozen 291
  have f4 := h.cells.frozen 292
  have f7 := h.cells.frozen 295
  have f8 := h.cells.frozen 296
  have f9 := h.cells.frozen 297
  have f10 := h.cells.frozen 298
  have f11 := h.cells.frozen 299
  have f12 := h.cells.frozen 300
  have f13 := h.cells.frozen 301
  have hgl := h.cells.lt
  obtain ⟨he0, he3, ha0, ha1, ht0, ht1, hl0, hl1⟩ := endB_ok he (by have := hok.blk; omega)
  obtain ⟨a, hae⟩ := Int.eq_ofNat_of_zero_le ha0
  obtain ⟨t, hte⟩ := Int.eq_ofNat_of_zero_le ht0
  obtain ⟨y, hye⟩ := Int.eq_ofNat_of_zero_le hl0
  have hal : a < 32 := by omega
  have ra := h.rregs.R a hal
  rw [reg_get, ← hae] at ra
  have hrb := reg_bd hok.ri b.a
  have hr0 := hok.r0
  have hr1 := hok.r1
  have hok' := hid hok.rb
  have hme := hid (hok.e0 hov)
  have W0 := hid h.went
  obtain ⟨E, hE⟩ : ∃ E, E = endS b m := ⟨_, rfl⟩
  have hfin : Hid (∀ (w' : World), Went w pv.ownBlock w' g 108 302 B S A l cap 2 pv (endS b m) (lastX ⟨m.blk, false, -1⟩) → RendS g B S A l cap pv E (lastX ⟨m.blk, false, -1⟩) w (.returned (.tuple #[])) w') := hid fun w' h => ⟨rfl, h.congr hE.symm⟩
  rw [← hE]
  clear hE
  unfold endS rndS at hfin
  rw [hae] at *
  rw [hte] at *
  rw [hye] at *
  generalize hva : reg m.R (a : Int) = va at *
  have hen : b.en = 0 ∨ b.en = 1 ∨ b.en = 2 ∨ b.en = 3 := by omega
  generalize b.ops.length = n1 at *
  generalize b.body.length = n2 at *
  clear h hw he hok
  have hbd0 : b.en = 0 ∨ b.en = 1 ∨ b.en = 2 ∨ b.en = 3 := hen
  generalize hben : b.en = en at *
  obtain ⟨X1, hX1⟩ : ∃ X1, X1 = lastX ⟨m.blk, false, -1⟩ := ⟨_, rfl⟩
  rw [← hX1] at hfin ⊢
  go_enter Try.func79, Try.ntmps79
  go_upto_region 2 with (fail)
  obtain ⟨w1, hw1⟩ : ∃ w1 : World, w1 = ((((w.setCell ⟨g, 298, none⟩ (.int .i64 m.blk)).setCell ⟨g, 299, none⟩ (.bool false)).setCell ⟨g, 300, none⟩ (.int .i64 (-1))).setCell ⟨g, 301, none⟩ (.bool false)).alloc (.cells #[.slice B1 n1 c1, .int .i8 en, .int .u8 a, .slice B2 n2 c2, .int .i64 t, .int .i64 y] 50) := ⟨_, rfl⟩
  rw [← hw1]
  have W1 : Hid (Went w pv.ownBlock w1 g 108 302 B S A l cap 2 pv m X1) := hid (by rw [hw1, hX1]; exact (W0.out.last ⟨m.blk, false, -1⟩).alloc _)
  have hs1 : w1.heap.size = w.heap.size + 1 := by rw [hw1]; simp
  have b1 : w1.cell? ⟨w.heap.size, 1, none⟩ = some (.int .i8 en) := by rw [hw1]; go_simp
  have b2 : w1.cell? ⟨w.heap.size, 2, none⟩ = some (.int .u8 a) := by rw [hw1]; go_simp
  have b4 : w1.cell? ⟨w.heap.size, 4, none⟩ = some (.int .i64 t) := by rw [hw1]; go_simp
  have b5 : w1.cell? ⟨w.heap.size, 5, none⟩ = some (.int .i64 y) := by rw [hw1]; go_simp
  have hM := W1.out.mach
  clear r1 r2 r3 r4 r7 r8 r9 r10 r11 r12 r13 f1 f2 f3 f4 f7 f8 f9 f10 f11 f12 f13 ra W0
  have r2 : w1.cell? ⟨g, 290, none⟩ = some (.bool m.body) := hM.cells.cell 290 (by decide)
  have r3 : w1.cell? ⟨g, 291, none⟩ = some (.int .i64 m.pos) := hM.cells.cell 291 (by decide)
  have r4 : w1.cell? ⟨g, 292, none⟩ = some (.int .i64 m.rounds) := hM.cells.cell 292 (by decide)
  have r7 : w1.cell? ⟨g, 295, none⟩ = some (.bool m.over) := hM.cells.cell 295 (by decide)
  have r8 : w1.cell? ⟨g, 296, none⟩ = some (.int .i64 m.e) := hM.cells.cell 296 (by decide)
  have r9 : w1.cell? ⟨g, 297, none⟩ = some (.int .i64 m.val) := hM.cells.cell 297 (by decide)
  have f2 := hM.cells.frozen 290
  have f3 := hM.cells.frozen 291
  have f4 := hM.cells.frozen 292
  have f7 := hM.cells.frozen 295
  have f8 := hM.cells.frozen 296
  have f9 := hM.cells.frozen 297
  have ra := hM.rregs.R a hal
  rw [reg_get, hva] at ra
  have hg1 : g < w1.heap.size := by omega
  have hw0 : w.heap.size < w1.heap.size := by omega
  replace hw1 := hid hw1
  clear hM hX1 hva hs1 hbd0 hben
  rcases hen with rfl | rfl | rfl | rfl
  · simp only [show ¬ ((0 : Int) = 2) by decide, show ¬ ((0 : Int) = 3) by decide, show ¬ ((0 : Int) = 1) by decide, false_and, if_false, Int.toNat_natCast] at hfin
    clear he0 he3 ha0 ha1 ht0 ht1 hl0 hl1
    go_wp2_with fail
    with_reducible refine (CT.out _ _ _ _ t W1.out.mach).mono ?_
    rintro e w2 ⟨rfl, W2⟩
    have W3 := hid (W1.out.trans W2)
    clear W2
    go_wp2
    refine bodyPost_ret (v := .tuple #[]) (by simp [results, Try.results79, go_sem]) rfl (hfin.out _ ?_)
    exact W3.out
  · clear he0 he3 ha0 ha1 ht0 ht1 hl0 hl1
    cases hz : (va == 0) with
    | true =>
      have hz2 : va = 0 := eq_of_beq hz
      have hz3 : (va != 0) = false := by rw [hz2]; rfl
      simp only [show ¬ ((1 : Int) = 2) by decide, show ¬ ((1 : Int) = 3) by decide, hz2, true_and, if_false, if_true, and_self, Int.toNat_natCast] at hfin
      clear hz2
      go_wp2
      go_quiet (fail)
      go_wp2_with fail
      with_reducible refine (CT.out _ _ _ _ y (W1.out.drewN _).mach).mono ?_
      rintro e w2 ⟨rfl, W2⟩
      have W3 := hid ((W1.out.drewN _).trans W2)
      clear W2
      go_wp2
      refine bodyPost_ret (v := .tuple #[]) (by simp [results, Try.results79, go_sem]) rfl (hfin.out _ ?_)
      exact W3.out
    | false =>
      have hz2 : ¬ va = 0 := by simpa using hz
      have hz3 : (va != 0) = true := by simpa using hz2
      simp only [show ¬ ((1 : Int) = 2) by decide, show ¬ ((1 : Int) = 3) by decide, hz2, and_false, if_false, Int.toNat_natCast] at hfin
      clear hz2
      go_wp2
      go_quiet (fail)
      go_wp2_with fail
      with_reducible refine (CT.out _ _ _ _ t (W1.out.drewN _).mach).mono ?_
      rintro e w2 ⟨rfl, W2⟩
      have W3 := hid ((W1.out.drewN _).trans W2)
      clear W2
      go_wp2
      refine bodyPost_ret (v := .tuple #[]) (by simp [results, Try.results79, go_sem]) rfl (hfin.out _ ?_)
      exact W3.out
  · simp only [if_true] at hfin
    clear he0 he3 ha0 ha1 ht0 ht1 hl0 hl1
    go_wp2
    go_region
    go_wp2
    all_goals
      refine bodyPost_ret (v := .tuple #[]) (by simp [results, Try.results79, go_sem]) rfl (hfin.out _ ?_)
      first
        | exact (W1.out.drewN _).halt0 hme.out va
        | exact W1.out.drew.halt0 hme.out va
        | exact (W1.out.halt0 hme.out va).drew
  · clear he0 he3 ha0 ha1 ht0 ht1 hl0 hl1
    simp only [show ¬ ((3 : Int) = 2) by decide, if_true, if_false, Int.toNat_natCast] at hfin
    cases hbd : m.body with
    | true =>
      rw [hbd] at r2
      simp only [hbd, if_true] at hfin
      have hrb1 := hok'.out hbd
      by_cases h0 : 0 < m.rounds - 1
      · rw [if_pos h0] at hfin
        go_wp2
        refine bodyPost_ret (v := .tuple #[]) (by simp [results, Try.results79, go_sem]) rfl (hfin.out _ ?_)
        exact (W1.out.rounds (m.rounds - 1)).body true 0
      · rw [if_neg h0] at hfin
        have W2 := hid (W1.out.rounds (m.rounds - 1))
        go_wp2_with fail
        with_reducible refine (CT.out _ _ _ _ t W2.out.mach).mono ?_
        rintro e w2 ⟨rfl, W3⟩
        have W4 := hid (W2.out.trans W3)
        clear W3
        go_wp2
        refine bodyPost_ret (v := .tuple #[]) (by simp [results, Try.results79, go_sem]) rfl (hfin.out _ ?_)
        exact W4.out
    | false =>
      rw [hbd] at r2
      simp only [hbd, Bool.false_eq_true, if_false] at hfin
      by_cases h0 : 0 < va
      · rw [show max va 0 = va by omega, if_pos h0] at hfin
        have hmx : (max va 0 : Int) = va := by omega
        go_wp2
        go_region
        go_wp2
        all_goals
          refine bodyPost_ret (v := .tuple #[]) (by simp [results, Try.results79, go_sem]) rfl (hfin.out _ ?_)
          first
            | exact ((W1.out.drewN _).rounds va).body true 0
            | exact (W1.out.drew.rounds va).body true 0
      · rw [show max va 0 = 0 by omega, if_neg (by decide)] at hfin
        have hmx : (max va 0 : Int) = 0 := by omega
        go_wp2
        go_region
        all_goals go_wp2_with fail
        all_goals
          first
            | (have e : va = 0 := by omega
               subst e)
            | skip
          have W2 := hid ((W1.out.rounds 0).drew)
          with_reducible refine (CT.out _ _ _ _ t W2.out.mach).mono ?_
          rintro e w2 ⟨rfl, W3⟩
          have W4 := hid (W2.out.trans W3)
          clear W3
          go_wp2
          refine bodyPost_ret (v := .tuple #[]) (by simp [results, Try.results79, go_sem]) rfl (hfin.out _ ?_)
          exact W4.out
end
/- The deferred closure of a step. -/
section
open Go.RowKit
theorem wp_name {P : Program} {c : Code} {Q : Exit → Act → World → Prop} {a : Act} {w : World} (h : ∀ Q' : Exit → Act → World → Prop, Hid (∀ e a w, Q e a w → Q' e a w) → c.wp P Q' a w) : c.wp P Q a w := h Q (fun _ _ _ h => h)
set_option maxHeartbeats 4000000 in
set_option maxRecDepth 100000 in
theorem catch_idle (pm pt pd : Addr) (w : World) :
    CallsD Try.prog 74 #[.pointer (some pm), .pointer (some pt), .pointer (some pd)] .returning w fun e u' w' => e = .returned (.tuple #[]) ∧ u' = .returning ∧ w' = w := by
  refine callsD_of_wpS Try.func74 rfl fun c₀ cs hu => ?_
  simp only [Try.ntmps74, List.size_toArray, List.length_cons, List.length_nil, Nat.reduceAdd, Nat.reduceSub, Array.replicate_succ, Array.replicate_zero, List.push_toArray, List.append_toArray, List.nil_append, List.cons_append]
  with_reducible refine wpS_seq ?_
  with_reducible refine wpS_region ?_
  simp [wpOpsS, go_sem, recoverD, hu, Exit.thenS]
  with_reducible refine wpS_of_wp ?_
  with_reducible refine wp_name fun Q' hQ' => ?_
  go_wp2
  with_reducible refine hQ'.out _ _ _ ?_
  cases c₀
  simp_all [bodyPostS, results, Try.results74, go_sem]
set_option maxHeartbeats 4000000 in
set_option maxRecDepth 100000 in
theorem catch_trap (g bm bt bd : Nat) (t0 t1 t2 t3 d0 o0 o1 : Value) (w : World) (hm : w.cell? ⟨bm, 0, none⟩ = some (.pointer (some ⟨g, 0, none⟩)))
    (h5 : w.cell? ⟨g, 295, none⟩ = some o0) (h6 : w.cell? ⟨g, 296, none⟩ = some o1) (f5 : w.frozen? ⟨g, 295, none⟩ = false) (f6 : w.frozen? ⟨g, 296, none⟩ = false)
    (k0 : w.cell? ⟨bt, 0, none⟩ = some t0) (k1 : w.cell? ⟨bt, 1, none⟩ = some t1) (k2 : w.cell? ⟨bt, 2, none⟩ = some t2) (k3 : w.cell? ⟨bt, 3, none⟩ = some t3) (kd : w.cell? ⟨bd, 0, none⟩ = some d0)
    (z0 : w.frozen? ⟨bt, 0, none⟩ = false) (z1 : w.frozen? ⟨bt, 1, none⟩ = false) (z2 : w.frozen? ⟨bt, 2, none⟩ = false) (z3 : w.frozen? ⟨bt, 3, none⟩ = false) (zd : w.frozen? ⟨bd, 0, none⟩ = false)
    (n1 : g ≠ bt) (n2 : g ≠ bd) (n3 : bt ≠ bd) (n4 : bm ≠ g) :
    CallsD Try.prog 74 #[.pointer (some ⟨bm, 0, none⟩), .pointer (some ⟨bt, 0, none⟩), .pointer (some ⟨bd, 0, none⟩)] (.panicking [{ v := .iface 150 (.agg #[]), recovered := false }]) w fun e u' w' =>
      e = .returned (.tuple #[]) ∧ u' = .panicking [{ v := .iface 150 (.agg #[]), recovered := true }] ∧ w' = (((((((w.setCell ⟨g, 295, none⟩ (.bool true)).setCell ⟨g, 296, none⟩ (.int .i64 101)).setCell ⟨bt, 0, none⟩ (.int .i64 0)).setCell ⟨bt, 1, none⟩ (.bool false)).setCell ⟨bt, 2, none⟩ (.int .i64 0)).setCell ⟨bt, 3, none⟩ (.bool false)).setCell ⟨bd, 0, none⟩ (.bool false)).alloc (.cells #[] 150) := by
  have n1' := Ne.symm n1
  have n2' := Ne.symm n2
  have n3' := Ne.symm n3
  have n4' := Ne.symm n4
  have hta : ∀ w, (Instr.typeAssert (.iface 150 (.agg #[])) 20 150 true).run Try.prog w = .ok (.tuple #[.agg #[], .bool true]) w := fun w => by kernel_rfl
  have hgl : g < w.heap.size := World.block_lt_of_cell? w _ h5
  have hbl : bt < w.heap.size := World.block_lt_of_cell? w _ k0
  have hdl : bd < w.heap.size := World.block_lt_of_cell? w _ kd
  have hml : bm < w.heap.size := World.block_lt_of_cell? w _ hm
  refine callsD_of_wpS Try.func74 rfl fun c₀ cs hu => ?_
  simp only [Try.ntmps74, List.size_toArray, List.length_cons, List.length_nil, Nat.reduceAdd, Nat.reduceSub, Array.replicate_succ, Array.replicate_zero, List.push_toArray, List.append_toArray, List.nil_append, List.cons_append]
  with_reducible refine wpS_seq ?_
  with_reducible refine wpS_region ?_
  simp [wpOpsS, go_sem, recoverD, hu, Exit.thenS]
  with_reducible refine wpS_of_wp ?_
  with_reducible refine wp_name fun Q' hQ' => ?_
  go_wp2
  with_reducible refine hQ'.out _ _ _ ?_
  cases c₀
  simp_all [bodyPostS, results, Try.results74, go_sem]
end
end Go.Proofs.Ytpiagggnjppkhaa
