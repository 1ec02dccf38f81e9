/- A step of the machine, whatever it is; a run. -/
import Derived.Test.YtcibkoodnfkogaaY24
import Derived.Test.YtcibkoodnfkogaaY25
import Derived.Test.YtcibkoodnfkogaaY16
import Derived.Test.YtcibkoodnfkogaaY20
import Derived.Deep.CutBlock
namespace Go.Proofs.Ytcibkoodnfkogaa
open Go.RowKit
set_option linter.unusedVariables false
set_option linter.unusedSimpArgs false
theorem step_any {g B : Nat} {S : Nat → Prop} {A : Option Addr} {l : List Blk} {cap : Nat} {pv : Value} {m : Mc} {w : World} (h : Mach w g 158 322 B S A l cap 2 pv m doX) (hp : PrgOk l) (hok : m.ok l) (hst : m.steps ≤ 10000000000000) :
    Calls Try.prog 98 #[.pointer (some ⟨g, 0, none⟩)] w (StepS g B S A l cap pv m w) := by
  cases hov : m.over with
  | true => exact step_over1 h hp hok hst hov
  | false =>
    by_cases hlt : m.pos < (lstS l m).length
    · cases hT : opT (lstS l m)[m.pos] m.R with
      | false => exact step_done h hp hok hst hov hlt hT
      | true => exact step_trap h hp hok hst hov hlt hT
    · exact step_end h hp hok hst hov hlt
/-- These numbers lie from address A on, in a block that is no older than B. -/
def NumsFrom (w : World) (B : Nat) (A : Option Addr) (l : List Int) : Prop := NumsIn w A l ∧ ∀ a, A = some a → B ≤ a.block ∧ a.block < w.heap.size
theorem NumsFrom.nums {w : World} {B : Nat} {A : Option Addr} {l : List Int} (h : NumsFrom w B A l) : NumsIn w A l := h.1
theorem NumsFrom.keep {w w' : World} {B : Nat} {A : Option Addr} {l : List Int} (h : NumsFrom w B A l) (hb : Below w.heap.size w w') : NumsFrom w' B A l := ⟨h.1.keep hb, fun a ha => ⟨(h.2 a ha).1, Nat.lt_of_lt_of_le (h.2 a ha).2 hb.size⟩⟩
theorem NumsFrom.turn {w w' : World} {B : Nat} {A : Option Addr} {l : List Int} {g : Nat} {r : Option Nat} (h : NumsFrom w B A l) (ht : Trn g r w w') (hg : g < B) (hr : ∀ k, r = some k → k < B) : NumsFrom w' B A l :=
  ⟨nums_same_block h.1 fun a ha => ht.block _ (h.2 a ha).2 (by have := (h.2 a ha).1; omega) (fun e => by have := hr _ e.symm; have := (h.2 a ha).1; omega), fun a ha => ⟨(h.2 a ha).1, Nat.lt_of_lt_of_le (h.2 a ha).2 ht.size⟩⟩
theorem nums_set {w : World} {B : Nat} {A : Option Addr} {l : List Int} (h : NumsFrom w B A l) (p : Addr) (v : Value) (hp : ∀ a, A = some a → a.block ≠ p.block) : NumsFrom (w.setCell p v) B A l :=
  ⟨nums_same_block h.1 fun a ha => heap_setCell_other _ _ _ _ (hp a ha), fun a ha => ⟨(h.2 a ha).1, by rw [World.size_setCell]; exact (h.2 a ha).2⟩⟩
theorem nums_five {w : World} {B : Nat} {A : Option Addr} {l : List Int} (h : NumsFrom w B A l) (b : Nat) (v0 v1 v2 v3 v4 : Value) (hp : ∀ a, A = some a → a.block ≠ b) :
    NumsFrom (((((w.setCell ⟨b, 0, none⟩ v0).setCell ⟨b, 1, none⟩ v1).setCell ⟨b, 2, none⟩ v2).setCell ⟨b, 3, none⟩ v3).setCell ⟨b, 4, none⟩ v4) B A l :=
  nums_set (nums_set (nums_set (nums_set (nums_set h _ _ hp) _ _ hp) _ _ hp) _ _ hp) _ _ hp
theorem Went.five {w0 w : World} {r0 : Option Nat} {g : Nat} {T : TypeId} {n B : Nat} {S : Nat → Prop} {A : Option Addr} {l : List Blk} {cap : Nat} {I : TypeId} {pv : Value} {m : Mc} {x : Nat → Value}
    (h : Went w0 r0 w g T n B S A l cap I pv m x) (b : Nat) (v0 v1 v2 v3 v4 : Value) (hg : b ≠ g) (hB : B ≤ b) (hp : ∀ k, pv.ownBlock = some k → k ≠ b) (hs : w0.heap.size ≤ b) :
    Went w0 r0 (((((w.setCell ⟨b, 0, none⟩ v0).setCell ⟨b, 1, none⟩ v1).setCell ⟨b, 2, none⟩ v2).setCell ⟨b, 3, none⟩ v3).setCell ⟨b, 4, none⟩ v4) g T n B S A l cap I pv m x :=
  ((((h.aside ⟨b, 0, none⟩ v0 hg hB hp hs).aside ⟨b, 1, none⟩ v1 hg hB hp hs).aside ⟨b, 2, none⟩ v2 hg hB hp hs).aside ⟨b, 3, none⟩ v3 hg hB hp hs).aside ⟨b, 4, none⟩ v4 hg hB hp hs
theorem ne_blk {b c i j : Nat} (h : b ≠ c) : (⟨b, i, none⟩ : Addr) ≠ ⟨c, j, none⟩ := fun e => h (by injection e)
/-- Behind a run. -/
def RanS (g : Nat) (B : Nat) (S : Nat → Prop) (A : Option Addr) (l : List Blk) (cap : Nat) (pv : Value) (m' : Mc) (w : World) (e : Ending) (w' : World) : Prop :=
  ∃ (pv' : Value) (A1 A2 : Option Addr) (c1 c2 : Nat), e = .returned (.agg #[.int .i64 (outE m'), .int .i64 (outV m'), .slice A1 m'.prints.length c1, .slice A2 (outM m').length c2, .int .i64 m'.steps]) ∧
    Went w pv.ownBlock w' g 158 322 B S A l cap 2 pv' m' doX ∧ NumsFrom w' w.heap.size A1 m'.prints ∧ NumsFrom w' w.heap.size A2 (outM m')
theorem run_step {l : List Blk} {n : Nat} {m : Mc} (h : stepD l m = true) : runS l (n + 1) m = runS l n (stepM l m) := by
  show (if stepD l m = true then _ else _) = _
  rw [if_pos h]
theorem run_stop {l : List Blk} {n : Nat} {m : Mc} (h : stepD l m = false) : runS l (n + 1) m = stepM l m := by unfold runS; rw [h]; rfl
set_option maxHeartbeats 4000000 in
set_option maxRecDepth 100000 in
theorem run_loop_any {g B : Nat} {S : Nat → Prop} {A : Option Addr} {l : List Blk} {cap : Nat} {pv : Value} {m : Mc} {w : World} (h : Mach w g 158 322 B S A l cap 2 pv m doX) (hp : PrgOk l) (hok : m.ok l) (hst : m.steps ≤ 1000000000000) (n : Int) (hn0 : -9223372036854775808 ≤ n) (hn1 : n ≤ 9223372036854775807) :
    Calls Try.prog 62 #[.pointer (some ⟨g, 0, none⟩), .int .i64 n] w (RanS g B S A l cap pv (runM l n m) w) := by
  have C1 := hid (fun (w' : World) (pv' : Value) (m' : Mc) (h : Mach w' g 158 322 B S A l cap 2 pv' m' doX) (hok : m'.ok l) (hst : m'.steps ≤ 10000000000000) => step_any h hp hok hst)
  have C2 := hid (fun (w' : World) (pv' : Value) (m' : Mc) (h : Mach w' g 158 322 B S A l cap 2 pv' m' doX) (hok : m'.ok l) => stuck_any h hp hok)
  have W0 := hid h.went
  obtain ⟨w1, hw1⟩ : ∃ w1 : World, w1 = w.alloc (.cells #[.int .i64 0, .int .i64 0, .slice none 0 0, .slice none 0 0, .int .i64 0] 105 (0, 0)) := ⟨_, rfl⟩
  have hwb : Below w.heap.size w w1 := by rw [hw1]; exact balloc (Below.refl _ _) _
  have W1 := hid (h.below hwb).went
  have hR1 : Hid (w1.heap[w.heap.size]? = some (.cells #[.int .i64 0, .int .i64 0, .slice none 0 0, .slice none 0 0, .int .i64 0] 105 (0, 0))) := hid (by rw [hw1]; exact heap_new_at _ _ _ rfl)
  have hs1 : w1.heap.size = w.heap.size + 1 := by rw [hw1]; simp
  have hpo : Hid (∀ k, pv.ownBlock = some k → k < w.heap.size) := hid fun k e => (own_ge h.own k e).2
  have hgl := h.cells.lt
  have hB0 := h.bw
  have hcl : (clampS n : Int) = min (max n 0) 1048576 := by unfold clampS; omega
  have hcl2 : clampS n ≤ 1048576 := by unfold clampS; omega
  obtain ⟨N, hN⟩ : ∃ N, N = clampS n := ⟨_, rfl⟩
  have hok0 := hid hok
  have hRS := hid (run_ok hp N hok)
  have hfin : Hid (runM l n m = lastS l (runS l N m)) := hid (by rw [hN]; rfl)
  have hRst := hid (show (runS l N m).steps ≤ 1100000000000 by
    have := run_steps l N m
    have := tags_len l N m
    omega)
  rw [← hN] at hcl hcl2
  rw [hfin.out]
  obtain ⟨MF, hMF⟩ : ∃ MF, MF = lastS l (runS l N m) := ⟨_, rfl⟩
  rw [← hMF]
  replace hMF := hid hMF
  clear h hok hN hfin
  go_enter Try.func62, Try.ntmps62
  go_upto_block 0 with (fail)
  have hif : (if 1048576 < if n < 0 then 0 else n then (1048576 : Int) else if n < 0 then 0 else n) = (N : Int) := by
    rw [hcl]
    repeat' split
    all_goals omega
  have hif2 : min (max n 0) 1048576 = (N : Int) := hcl.symm
  (first | rw [hif] | rw [hif2])
  have W01 := hid (W0.out.below hwb)
  (first | (generalize (if n < 0 then (0 : Int) else n) = nn) | skip)
  (first | (generalize max n 0 = nm) | skip)
  rw [← hw1]
  clear hw1 hif hif2 hcl
  go_cut [] (fun wx => (∃ pv', Hid (Went w1 pv.ownBlock wx g 158 322 B S A l cap 2 pv' (runS l N m) doX)) ∧ Hid (wx.heap[w.heap.size]? = some (.cells #[.int .i64 0, .int .i64 0, .slice none 0 0, .slice none 0 0, .int .i64 0] 105 (0, 0))))
  case first =>
    go_wp2_with fail
    go_loopg [15] N (fun gk v15 wr => ∃ (i : Nat) (pvi : Value) (mi : Mc), i ≤ N ∧ v15 = .int .i64 i ∧ Hid (gk + i = N) ∧ Hid (Went w1 pv.ownBlock wr g 158 322 B S A l cap 2 pvi mi doX) ∧ Hid (mi.ok l) ∧ Hid (runS l (N - i) mi = runS l N m) ∧ Hid (mi.steps ≤ m.steps + i) ∧ Hid (wr.heap[w.heap.size]? = some (.cells #[.int .i64 0, .int .i64 0, .slice none 0 0, .slice none 0 0, .int .i64 0] 105 (0, 0))))
    case atStart => exact ⟨0, pv, m, by omega, rfl, by exact Nat.add_zero _, W1, hok0, hid rfl, hid (by omega), hR1⟩
    case round =>
      obtain ⟨i, pvi, mi, hi, rfl, hg, hW, hoki, hrun, hsti, hRi⟩ := hrel
      by_cases hlt : i < N
      · have hij : (i : Int) < (N : Int) := by omega
        have hpi : Hid (∀ k, pvi.ownBlock = some k → k ≠ w.heap.size) := hid fun k e h => by
          rcases hW.out.own with h2 | ⟨b, h2, h3⟩
          · have := hpo.out k (by rw [← h2]; exact e)
            omega
          · rw [h2] at e
            injection e with e
            omega
        cases hD : stepD l mi with
        | true =>
          have hr2 : Hid (runS l (N - (i + 1)) (stepM l mi) = runS l N m) := hid (by
            rw [← hrun.out, show N - i = (N - (i + 1)) + 1 by omega, run_step hD])
          go_wp2_with fail
          with_reducible refine (C1.out _ _ _ hW.out.mach hoki.out (by have := hsti.out; omega)).mono ?_
          rintro e w2 ⟨rfl, pv2, hw⟩
          rw [hD]
          have W2 := hid (hW.out.trans hw)
          have hR2 : Hid (w2.heap[w.heap.size]? = some (.cells #[.int .i64 0, .int .i64 0, .slice none 0 0, .slice none 0 0, .int .i64 0] 105 (0, 0))) := hid ((hw.trn.block _ (by have := hW.out.trn.size; omega) (by omega) (fun e => hpi.out _ e.symm rfl)).trans hRi.out)
          generalize stepT l mi = tg
          obtain ⟨tb, tl, tp⟩ := tg
          unfold Tg.val
          clear hw
          go_wp2
          go_roundg (N - (i + 1))
          case measure => have := hg.out; omega
          case rel =>
            refine ⟨i + 1, pv2, stepM l mi, by omega, by go_num, by show _ + _ = _; omega, hid (W2.out.alloc _), hid (stepM_ok hp hoki.out), hr2, hid (by have := stepM_steps l mi; have := hsti.out; omega), hid ?_⟩
            exact (alloc_old _ _ (by have := W2.out.trn.size; omega)).trans hR2.out
        | false =>
          have hr2 : Hid (stepM l mi = runS l N m) := hid (by
            rw [← hrun.out, show N - i = (N - (i + 1)) + 1 by omega, run_stop hD])
          go_wp2_with fail
          with_reducible refine (C1.out _ _ _ hW.out.mach hoki.out (by have := hsti.out; omega)).mono ?_
          rintro e w2 ⟨rfl, pv2, hw⟩
          rw [hD]
          have W2 := hid (hW.out.trans hw)
          have hR2 : Hid (w2.heap[w.heap.size]? = some (.cells #[.int .i64 0, .int .i64 0, .slice none 0 0, .slice none 0 0, .int .i64 0] 105 (0, 0))) := hid ((hw.trn.block _ (by have := hW.out.trn.size; omega) (by omega) (fun e => hpi.out _ e.symm rfl)).trans hRi.out)
          generalize stepT l mi = tg
          obtain ⟨tb, tl, tp⟩ := tg
          unfold Tg.val
          clear hw
          go_wp2
          go_meet
          case rel => exact ⟨⟨pv2, hid ((W2.out.alloc _).congr hr2.out)⟩, hid ((alloc_old _ _ (by have := W2.out.trn.size; omega)).trans hR2.out)⟩
      · obtain rfl : i = N := by omega
        have hr2 : Hid (mi = runS l i m) := hid (by
          rw [← hrun.out, Nat.sub_self]; rfl)
        go_wp2
        go_meet
        case rel => exact ⟨⟨pvi, hid (hW.out.congr hr2.out)⟩, hRi⟩
  case rest =>
    obtain ⟨⟨pvr, hW⟩, hR⟩ := hcut
    generalize runS l N m = R at *
    have hokF : Hid (MF.ok l ∧ MF.steps ≤ 1100000000001) := hid (by
      rw [hMF.out]
      unfold lastS
      have := stepM_steps l R
      have := hRst.out
      split
      · exact ⟨stepM_ok hp hRS.out, by omega⟩
      · exact ⟨hRS.out, by omega⟩)
    go_upto_region 9 with (fail)
    go_cut [26] (fun v26 wx => ∃ c, v26 = .bool c ∧ Hid (stuckS l R = c) ∧ Hid (Went w1 pv.ownBlock wx g 158 322 B S A l cap 2 pvr R doX) ∧ Hid (wx.heap[w.heap.size]? = some (.cells #[.int .i64 0, .int .i64 0, .slice none 0 0, .slice none 0 0, .int .i64 0] 105 (0, 0))))
    case first =>
      go_wp2_with fail
      with_reducible refine (C2.out _ _ _ hW.out.mach hRS.out).mono ?_
      rintro e wq ⟨rfl, hb⟩
      go_wp2
      go_meet
      case rel => exact ⟨_, rfl, hid rfl, hid (hW.out.below hb), hid ((hb.block _ (by have := hW.out.trn.size; omega)).trans hR.out)⟩
    case rest =>
      clear hW hR
      obtain ⟨cS, rfl, hcS, hW, hR⟩ := hcut
      go_upto_if 26 with (fail)
      go_cut [] (fun wx => (∃ pv', Hid (Went w1 pv.ownBlock wx g 158 322 B S A l cap 2 pv' MF doX)) ∧ Hid (wx.heap[w.heap.size]? = some (.cells #[.int .i64 0, .int .i64 0, .slice none 0 0, .slice none 0 0, .int .i64 0] 105 (0, 0))))
      case first =>
        cases cS with
        | false =>
          have hfin : Hid (R = MF) := hid (by rw [hMF.out]; unfold lastS; rw [hcS.out]; rfl)
          go_wp2
          go_meet
          case rel => exact ⟨⟨pvr, hid (hW.out.congr hfin.out)⟩, hR⟩
        | true =>
          have hfin : Hid (stepM l R = MF) := hid (by rw [hMF.out]; unfold lastS; rw [hcS.out]; rfl)
          have hpi : Hid (∀ k, pvr.ownBlock = some k → k ≠ w.heap.size) := hid fun k e h => by
            rcases hW.out.own with h2 | ⟨b, h2, h3⟩
            · have := hpo.out k (by rw [← h2]; exact e)
              omega
            · rw [h2] at e
              injection e with e
              omega
          go_wp2_with fail
          with_reducible refine (C1.out _ _ _ hW.out.mach hRS.out (by have := hRst.out; omega)).mono ?_
          rintro e w2 ⟨rfl, pv2, hw⟩
          have W2 := hid (hW.out.trans hw)
          have hR2 := hid ((hw.trn.block _ (by have := hW.out.trn.size; omega) (by omega) (fun e => hpi.out _ e.symm rfl)).trans hR.out)
          generalize stepT l R = tg
          generalize stepD l R = dd
          obtain ⟨tb, tl, tp⟩ := tg
          unfold Tg.val
          clear hw
          go_wp2
          go_meet
          case rel => exact ⟨⟨pv2, hid (W2.out.congr hfin.out)⟩, hR2⟩
      case rest =>
        clear hW hR hcS hMF hRS hRst
        obtain ⟨⟨pvq, WQ⟩, hR⟩ := hcut
        go_upto_region 11 with (fail)
        obtain ⟨wq, rfl⟩ : ∃ x : World, x = wc := ⟨_, rfl⟩
        have r3 : wq.cell? ⟨g, 293, none⟩ = some (.int .i64 MF.steps) := WQ.out.mach.cells.cell 293 (by decide)
        have r4 : wq.cell? ⟨g, 294, none⟩ = some pvq := WQ.out.mach.cells.cell 294 (by decide)
        have hsz2 : w.heap.size < wq.heap.size := by have := WQ.out.trn.size; omega
        have hsz : g < wq.heap.size := by omega
        have hsz1 : g < wq.heap.size + 1 := by omega
        have hN1 : wq.heap.size ≠ g := by omega
        have hN2 : wq.heap.size + 1 ≠ g := by omega
        have hA : (wq.alloc (.cells #[] 2)).drew.heap[wq.heap.size]? = some (.cells #[] 2 (0, 0)) := heap_new_at wq _ _ rfl
        have hBo : ∀ o : Obj, ((wq.alloc (.cells #[] 2)).alloc o).drew.heap[wq.heap.size]? = some (.cells #[] 2 (0, 0)) := fun o => (alloc_old _ o (by simp)).trans (heap_new_at wq _ _ rfl)
        have hCo : ∀ o : Obj, ((wq.alloc o).alloc (.cells #[] 2)).drew.heap[wq.heap.size + 1]? = some (.cells #[] 2 (0, 0)) := fun o => heap_new_at (wq.alloc o) _ _ (by simp)
        replace hA := hid hA
        replace hBo := hid hBo
        replace hCo := hid hCo
        go_cut [7] (fun v7 wx => ∃ (k7 c1 : Nat) (A1 : Option Addr), v7 = .pointer (some ⟨k7, 0, none⟩) ∧ wq.heap.size ≤ k7 ∧ wx.cell? ⟨k7, 0, none⟩ = some (.int .i64 100) ∧ wx.cell? ⟨k7, 1, none⟩ = some (.int .i64 0) ∧ wx.cell? ⟨k7, 2, none⟩ = some (.slice A1 MF.prints.length c1) ∧ wx.cell? ⟨k7, 3, none⟩ = some (.slice none 0 0) ∧ wx.cell? ⟨k7, 4, none⟩ = some (.int .i64 MF.steps) ∧ wx.frozen? ⟨k7, 0, none⟩ = false ∧ wx.frozen? ⟨k7, 1, none⟩ = false ∧ wx.frozen? ⟨k7, 3, none⟩ = false ∧ Hid (NumsIn wx A1 MF.prints ∧ ∀ a, A1 = some a → wq.heap.size ≤ a.block ∧ a.block < wx.heap.size ∧ a.block ≠ k7) ∧ Hid (Below wq.heap.size wq wx))
        case first =>
          have hpm : MF.prints.length ≤ 10000000000000 := by
            have h1 := hokF.out.1.pl
            have h2 := hokF.out.2
            omega
          have HX : Hid (ListV wq pvq MF.prints) := hid (by
            by_cases hpe : MF.prints = []
            · exact .inl ⟨WQ.out.mach.pn hpe, hpe⟩
            · have hpl1 : 0 < MF.prints.length := by
                cases hpx : MF.prints with
                | nil => exact absurd hpx hpe
                | cons a r => simp
              obtain ⟨kq, cq, hv, hkB, hkl⟩ := WQ.out.mach.own.form hpl1
              have ho := WQ.out.mach.own
              rw [hv] at ho
              refine .inr ⟨kq, 0, cq, hv, fun j u hu => ?_⟩
              rw [Nat.zero_add, ho.cellAt j (by have := (List.getElem?_eq_some_iff.1 hu).1; simp at this; omega)]
              exact hu)
          go_region_held3 (fun w' => w'.cell? ⟨g, 293, none⟩ = some (.int .i64 MF.steps) ∧ w'.cell? ⟨g, 294, none⟩ = some pvq) ((go_split_ands; (repeat' apply And.intro) <;> (first | with_reducible assumption | with_reducible exact set_other (set_other (set_other (set_other (set_other (cell_keep r3 B9) (ne_blk hN1)) (ne_blk hN1)) (ne_blk hN1)) (ne_blk hN1)) (ne_blk hN1) | with_reducible exact set_other (set_other (set_other (set_other (set_other (cell_keep r3 B9) (ne_blk hN2)) (ne_blk hN2)) (ne_blk hN2)) (ne_blk hN2)) (ne_blk hN2) | with_reducible exact set_other (set_other (set_other (set_other (set_other (cell_keep r4 B9) (ne_blk hN1)) (ne_blk hN1)) (ne_blk hN1)) (ne_blk hN1)) (ne_blk hN1) | with_reducible exact set_other (set_other (set_other (set_other (set_other (cell_keep r4 B9) (ne_blk hN2)) (ne_blk hN2)) (ne_blk hN2)) (ne_blk hN2)) (ne_blk hN2) | exact cell_keep r3 (by ((with_reducible (repeat (first | assumption | exact Below.refl _ _ | refine bset ?_ (Nat.le_refl _) _ | refine balloc ?_ _ | refine bdrew ?_ | refine bdrewN ?_ _))); done)) | exact cell_keep r4 (by ((with_reducible (repeat (first | assumption | exact Below.refl _ _ | refine bset ?_ (Nat.le_refl _) _ | refine balloc ?_ _ | refine bdrew ?_ | refine bdrewN ?_ _))); done))))) (first | ((refine app_list rfl _ _ rfl wq.heap.size (wq.heap.size + 1) MF.prints pvq rfl rfl (HX.out.keep (by ((with_reducible (repeat (first | assumption | exact Below.refl _ _ | refine bset ?_ (Nat.le_refl _) _ | refine balloc ?_ _ | refine bdrew ?_ | refine bdrewN ?_ _))); done))) ?_ ?_ ?_ ?_ ?_); (next => first | with_reducible exact hA.out | with_reducible exact hBo.out _ | with_reducible exact hCo.out _); (next => omega); (next => (first | omega | (simp; done) | (simp; omega))); (next => omega); intro g1 d1 w9 hnn1 hgb1 hlt1 hat1 hb9 hc9 hf9 hs9; have B9 : Below wq.heap.size wq w9 := Below.trans (by ((with_reducible (repeat (first | assumption | exact Below.refl _ _ | refine bset ?_ (Nat.le_refl _) _ | refine balloc ?_ _ | refine bdrew ?_ | refine bdrewN ?_ _))); done)) hb9; have hz9 : wq.heap.size < w9.heap.size := (by (try simp at hs9); omega); have hg9 : g < w9.heap.size := (by omega); (try (have hz8 : wq.heap.size < w9.heap.size := (by first | omega | (simp at hs9; omega)); have zc0 : w9.cell? ⟨wq.heap.size, 0, none⟩ = some (.int .i64 0) := (hc9 _ 0 (by (first | omega | (simp; done) | (simp; omega))) (by (first | omega | (simp; done) | (simp; omega)))).trans (by go_simp); have zc1 : w9.cell? ⟨wq.heap.size, 1, none⟩ = some (.int .i64 0) := (hc9 _ 1 (by (first | omega | (simp; done) | (simp; omega))) (by (first | omega | (simp; done) | (simp; omega)))).trans (by go_simp); have zc2 : w9.cell? ⟨wq.heap.size, 2, none⟩ = some (.slice none 0 0) := (hc9 _ 2 (by (first | omega | (simp; done) | (simp; omega))) (by (first | omega | (simp; done) | (simp; omega)))).trans (by go_simp); have zc3 : w9.cell? ⟨wq.heap.size, 3, none⟩ = some (.slice none 0 0) := (hc9 _ 3 (by (first | omega | (simp; done) | (simp; omega))) (by (first | omega | (simp; done) | (simp; omega)))).trans (by go_simp); have zc4 : w9.cell? ⟨wq.heap.size, 4, none⟩ = some (.int .i64 0) := (hc9 _ 4 (by (first | omega | (simp; done) | (simp; omega))) (by (first | omega | (simp; done) | (simp; omega)))).trans (by go_simp); have zf0 : w9.frozen? ⟨wq.heap.size, 0, none⟩ = false := (hf9 _ 0 (by (first | omega | (simp; done) | (simp; omega))) (by (first | omega | (simp; done) | (simp; omega)))).trans (by go_simp); have zf1 : w9.frozen? ⟨wq.heap.size, 1, none⟩ = false := (hf9 _ 1 (by (first | omega | (simp; done) | (simp; omega))) (by (first | omega | (simp; done) | (simp; omega)))).trans (by go_simp); have zf2 : w9.frozen? ⟨wq.heap.size, 2, none⟩ = false := (hf9 _ 2 (by (first | omega | (simp; done) | (simp; omega))) (by (first | omega | (simp; done) | (simp; omega)))).trans (by go_simp); have zf3 : w9.frozen? ⟨wq.heap.size, 3, none⟩ = false := (hf9 _ 3 (by (first | omega | (simp; done) | (simp; omega))) (by (first | omega | (simp; done) | (simp; omega)))).trans (by go_simp); have zf4 : w9.frozen? ⟨wq.heap.size, 4, none⟩ = false := (hf9 _ 4 (by (first | omega | (simp; done) | (simp; omega))) (by (first | omega | (simp; done) | (simp; omega)))).trans (by go_simp))); replace hc9 := hid hc9; replace hf9 := hid hf9; clear hb9 hs9; replace hat1 := hid hat1; replace hlt1 := hid hlt1; replace hgb1 := hid hgb1; replace hnn1 := hid hnn1) | ((refine app_list rfl _ _ rfl wq.heap.size (wq.heap.size) MF.prints pvq rfl rfl (HX.out.keep (by ((with_reducible (repeat (first | assumption | exact Below.refl _ _ | refine bset ?_ (Nat.le_refl _) _ | refine balloc ?_ _ | refine bdrew ?_ | refine bdrewN ?_ _))); done))) ?_ ?_ ?_ ?_ ?_); (next => first | with_reducible exact hA.out | with_reducible exact hBo.out _ | with_reducible exact hCo.out _); (next => omega); (next => (first | omega | (simp; done) | (simp; omega))); (next => omega); intro g1 d1 w9 hnn1 hgb1 hlt1 hat1 hb9 hc9 hf9 hs9; have B9 : Below wq.heap.size wq w9 := Below.trans (by ((with_reducible (repeat (first | assumption | exact Below.refl _ _ | refine bset ?_ (Nat.le_refl _) _ | refine balloc ?_ _ | refine bdrew ?_ | refine bdrewN ?_ _))); done)) hb9; have hz9 : wq.heap.size < w9.heap.size := (by (try simp at hs9); omega); have hg9 : g < w9.heap.size := (by omega); (try (have hz8 : wq.heap.size + 1 < w9.heap.size := (by first | omega | (simp at hs9; omega)); have zc0 : w9.cell? ⟨wq.heap.size + 1, 0, none⟩ = some (.int .i64 0) := (hc9 _ 0 (by (first | omega | (simp; done) | (simp; omega))) (by (first | omega | (simp; done) | (simp; omega)))).trans (by go_simp); have zc1 : w9.cell? ⟨wq.heap.size + 1, 1, none⟩ = some (.int .i64 0) := (hc9 _ 1 (by (first | omega | (simp; done) | (simp; omega))) (by (first | omega | (simp; done) | (simp; omega)))).trans (by go_simp); have zc2 : w9.cell? ⟨wq.heap.size + 1, 2, none⟩ = some (.slice none 0 0) := (hc9 _ 2 (by (first | omega | (simp; done) | (simp; omega))) (by (first | omega | (simp; done) | (simp; omega)))).trans (by go_simp); have zc3 : w9.cell? ⟨wq.heap.size + 1, 3, none⟩ = some (.slice none 0 0) := (hc9 _ 3 (by (first | omega | (simp; done) | (simp; omega))) (by (first | omega | (simp; done) | (simp; omega)))).trans (by go_simp); have zc4 : w9.cell? ⟨wq.heap.size + 1, 4, none⟩ = some (.int .i64 0) := (hc9 _ 4 (by (first | omega | (simp; done) | (simp; omega))) (by (first | omega | (simp; done) | (simp; omega)))).trans (by go_simp); have zf0 : w9.frozen? ⟨wq.heap.size + 1, 0, none⟩ = false := (hf9 _ 0 (by (first | omega | (simp; done) | (simp; omega))) (by (first | omega | (simp; done) | (simp; omega)))).trans (by go_simp); have zf1 : w9.frozen? ⟨wq.heap.size + 1, 1, none⟩ = false := (hf9 _ 1 (by (first | omega | (simp; done) | (simp; omega))) (by (first | omega | (simp; done) | (simp; omega)))).trans (by go_simp); have zf2 : w9.frozen? ⟨wq.heap.size + 1, 2, none⟩ = false := (hf9 _ 2 (by (first | omega | (simp; done) | (simp; omega))) (by (first | omega | (simp; done) | (simp; omega)))).trans (by go_simp); have zf3 : w9.frozen? ⟨wq.heap.size + 1, 3, none⟩ = false := (hf9 _ 3 (by (first | omega | (simp; done) | (simp; omega))) (by (first | omega | (simp; done) | (simp; omega)))).trans (by go_simp); have zf4 : w9.frozen? ⟨wq.heap.size + 1, 4, none⟩ = false := (hf9 _ 4 (by (first | omega | (simp; done) | (simp; omega))) (by (first | omega | (simp; done) | (simp; omega)))).trans (by go_simp))); replace hc9 := hid hc9; replace hf9 := hid hf9; clear hb9 hs9; replace hat1 := hid hat1; replace hlt1 := hid hlt1; replace hgb1 := hid hgb1; replace hnn1 := hid hnn1) | (fail))
          all_goals
            have a1 := hat1.out
            have a2 := hlt1.out
            have a3 := hgb1.out
            simp at a1
            go_wp2
            go_meet
            case rel =>
              first
                | (refine ⟨w9.heap.size, d1, some ⟨g1, 0, none⟩, rfl, ?_, ?_, ?_, ?_, ?_, ?_, ?_, ?_, ?_, hid ⟨?_, fun a ha => ?_⟩, hid ?_⟩
                   · (first | omega | exact Nat.le_refl _)
                   · (go_simp; done)
                   · (go_simp; done)
                   · (go_simp; done)
                   · (go_simp; done)
                   · (go_simp; done)
                   · (go_simp; done)
                   · (go_simp; done)
                   · (go_simp; done)
                   · with_reducible exact hnn1.out.keep (balloc (Below.refl _ _) _)
                   · injection ha with ha; subst ha; refine ⟨?_, ?_, ?_⟩ <;> (first | omega | (show g1 ≠ _; omega) | (simp; omega))
                   · ((repeat (first | with_reducible assumption | with_reducible exact Below.refl _ _ | with_reducible refine balloc ?_ _ | with_reducible refine bdrew ?_ | with_reducible refine bset ?_ (by first | exact Nat.le_refl _ | (simp; done) | (simp; omega)) _)); done))
                | (refine ⟨wq.heap.size + 1, d1, some ⟨g1, 0, none⟩, rfl, ?_, ?_, ?_, ?_, ?_, ?_, ?_, ?_, ?_, hid ⟨?_, fun a ha => ?_⟩, hid ?_⟩
                   · (first | omega | exact Nat.le_refl _)
                   · (go_simp; done)
                   · (go_simp; done)
                   · (go_simp; done)
                   · (go_simp; done)
                   · (go_simp; done)
                   · (go_simp; done)
                   · (go_simp; done)
                   · (go_simp; done)
                   · (have nk : g1 ≠ wq.heap.size + 1 := by omega); (have hp : ∀ a : Addr, some (⟨g1, 0, none⟩ : Addr) = some a → a.block ≠ wq.heap.size + 1 := fun a ha => by injection ha with ha; subst ha; exact nk); (have hf : NumsFrom w9 0 (some ⟨g1, 0, none⟩) MF.prints := ⟨hnn1.out, fun a ha => ⟨Nat.zero_le _, by injection ha with ha; subst ha; exact a2⟩⟩); with_reducible exact NumsFrom.nums (nums_five hf (wq.heap.size + 1) _ _ _ _ _ hp)
                   · injection ha with ha; subst ha; refine ⟨?_, ?_, ?_⟩ <;> (first | omega | (show g1 ≠ _; omega) | (simp; omega))
                   · ((repeat (first | with_reducible assumption | with_reducible exact Below.refl _ _ | with_reducible refine balloc ?_ _ | with_reducible refine bdrew ?_ | with_reducible refine bset ?_ (by first | exact Nat.le_refl _ | (simp; done) | (simp; omega)) _)); done))
                | (refine ⟨wq.heap.size, d1, some ⟨g1, 0, none⟩, rfl, ?_, ?_, ?_, ?_, ?_, ?_, ?_, ?_, ?_, hid ⟨?_, fun a ha => ?_⟩, hid ?_⟩
                   · (first | omega | exact Nat.le_refl _)
                   · (go_simp; done)
                   · (go_simp; done)
                   · (go_simp; done)
                   · (go_simp; done)
                   · (go_simp; done)
                   · (go_simp; done)
                   · (go_simp; done)
                   · (go_simp; done)
                   · (have nk : g1 ≠ wq.heap.size := by omega); (have hp : ∀ a : Addr, some (⟨g1, 0, none⟩ : Addr) = some a → a.block ≠ wq.heap.size := fun a ha => by injection ha with ha; subst ha; exact nk); (have hf : NumsFrom w9 0 (some ⟨g1, 0, none⟩) MF.prints := ⟨hnn1.out, fun a ha => ⟨Nat.zero_le _, by injection ha with ha; subst ha; exact a2⟩⟩); with_reducible exact NumsFrom.nums (nums_five hf (wq.heap.size) _ _ _ _ _ hp)
                   · injection ha with ha; subst ha; refine ⟨?_, ?_, ?_⟩ <;> (first | omega | (show g1 ≠ _; omega) | (simp; omega))
                   · ((repeat (first | with_reducible assumption | with_reducible exact Below.refl _ _ | with_reducible refine balloc ?_ _ | with_reducible refine bdrew ?_ | with_reducible refine bset ?_ (by first | exact Nat.le_refl _ | (simp; done) | (simp; omega)) _)); done))
        case rest =>
          obtain ⟨k7, c1, A1, rfl, hk7, z0, z1, z2, z3, z4, f0, f1, f3, HN, HB⟩ := hcut
          have W2 := hid (WQ.out.below HB.out)
          have HRx := hid ((HB.out.block _ hsz2).trans hR.out)
          have y0 : wc.cell? ⟨w.heap.size, 0, none⟩ = some (.int .i64 0) := cell_of_row wc w.heap.size 0 _ _ _ HRx.out
          have y1 : wc.cell? ⟨w.heap.size, 1, none⟩ = some (.int .i64 0) := cell_of_row wc w.heap.size 1 _ _ _ HRx.out
          have y2 : wc.cell? ⟨w.heap.size, 2, none⟩ = some (.slice none 0 0) := cell_of_row wc w.heap.size 2 _ _ _ HRx.out
          have y3 : wc.cell? ⟨w.heap.size, 3, none⟩ = some (.slice none 0 0) := cell_of_row wc w.heap.size 3 _ _ _ HRx.out
          have y4 : wc.cell? ⟨w.heap.size, 4, none⟩ = some (.int .i64 0) := cell_of_row wc w.heap.size 4 _ _ _ HRx.out
          have yf : ∀ i, wc.frozen? ⟨w.heap.size, i, none⟩ = false := fun i => frozen_of_row wc w.heap.size i _ _ HRx.out
          have q7 : wc.cell? ⟨g, 295, none⟩ = some (.bool MF.over) := W2.out.mach.cells.cell 295 (by decide)
          have q8 : wc.cell? ⟨g, 296, none⟩ = some (.int .i64 MF.e) := W2.out.mach.cells.cell 296 (by decide)
          have q9 : wc.cell? ⟨g, 297, none⟩ = some (.int .i64 MF.val) := W2.out.mach.cells.cell 297 (by decide)
          have hsx := HB.out.size
          have hgx : g < wc.heap.size := by omega
          have hkx : k7 < wc.heap.size := World.block_lt_of_cell? wc _ z0
          have hwx : w.heap.size < wc.heap.size := by omega
          have n1 : ¬ k7 = w.heap.size := by omega
          have n2 : ¬ w.heap.size = k7 := by omega
          have n3 : ¬ k7 = g := by omega
          have n4 : ¬ g = k7 := by omega
          clear r3 r4
          have W3 := hid (W01.out.trans W2.out)
          have ho1 : Hid (∀ k, pvq.ownBlock = some k → k ≠ w.heap.size) := hid fun k e h => by
            rcases W2.out.own with h2 | ⟨b, h2, h3⟩
            · have := hpo.out k (by rw [← h2]; exact e)
              omega
            · rw [h2] at e
              injection e with e
              omega
          have ho2 : Hid (∀ k, pvq.ownBlock = some k → k ≠ k7) := hid fun k e h => by
            have := (own_ge WQ.out.mach.own k e).2
            omega
          have hBw := WQ.out.mach.bw
          have hBg := hB0
          have hNf : Hid (NumsFrom wc w.heap.size A1 MF.prints ∧ ∀ a, A1 = some a → a.block ≠ k7 ∧ a.block ≠ w.heap.size) := hid ⟨⟨HN.out.1, fun a ha => ⟨by have := (HN.out.2 a ha).1; omega, (HN.out.2 a ha).2.1⟩⟩, fun a ha => ⟨(HN.out.2 a ha).2.2, by have := (HN.out.2 a ha).1; omega⟩⟩
          clear C1 C2 W0 W1 W01 hR1 hs1 hwb hpo hcl2 hok0 hp hst hn0 hn1 hR HN HB WQ W2 HRx
          cases hov : MF.over with
          | false =>
            rw [hov] at q7
            go_wp2
            refine bodyPost_ret (v := .agg #[.int .i64 100, .int .i64 0, .slice A1 MF.prints.length c1, .slice none 0 0, .int .i64 MF.steps]) (by simp [results, Try.results62, go_sem, y0, y1, y2, y3, y4]) rfl ?_
            refine ⟨pvq, A1, none, c1, 0, ?_, Went.five W3.out w.heap.size _ _ _ _ _ (by omega) hBg ho1.out (Nat.le_refl _), nums_five hNf.out.1 _ _ _ _ _ _ (fun a ha => (hNf.out.2 a ha).2), ?_⟩
            · unfold outE outV outM
              simp [hov]
            · unfold outM
              rw [hov]
              exact ⟨fun h => absurd rfl h, fun a ha => by cases ha⟩
          | true =>
            rw [hov] at q7
            cases he : (MF.e == 0) with
            | true =>
              have he0 : MF.e = 0 := eq_of_beq he
              have hMM := hid (show ∀ j u, (MF.M.map (Value.int .i64))[j]? = some u → wc.cell? ⟨g, 33 + j, none⟩ = some u from fun j u hu => by
                rw [List.getElem?_map] at hu
                cases hx : MF.M[j]? with
                | none => rw [hx] at hu; cases hu
                | some x =>
                  rw [hx] at hu
                  have hj := (List.getElem?_eq_some_iff.1 hx).1
                  have h256 := hokF.out.1.m256
                  rw [W3.out.mach.regs.M j (by omega), hx]
                  simpa using hu)
              have hm256 := hokF.out.1.m256
              go_wp2
              go_region
              go_upto_region 15 with (fail)
              go_region_law ((refine app_nil rfl _ _ rfl g 33 MF.M 256 256 hm256 rfl rfl (by omega) (by omega) (fun j u hu => ?_) ?_); (next => exact set_other (set_other (hMM.out j u hu) (ne_blk n3)) (ne_blk n3)); intro g2 d2 w8 hnn2 hgb2 hlt2 hb8; have u0 : w8.cell? ⟨k7, 0, none⟩ = some (.int .i64 0) := cell_keep (by go_simp) hb8; have u1 : w8.cell? ⟨k7, 1, none⟩ = some (.int .i64 MF.val) := cell_keep (by go_simp) hb8; have u2 : w8.cell? ⟨k7, 2, none⟩ = some (.slice A1 MF.prints.length c1) := cell_keep (by go_simp) hb8; have u3 : w8.cell? ⟨k7, 3, none⟩ = some (.slice none 0 0) := cell_keep (by go_simp) hb8; have u4 : w8.cell? ⟨k7, 4, none⟩ = some (.int .i64 MF.steps) := cell_keep (by go_simp) hb8; have x0 : w8.cell? ⟨w.heap.size, 0, none⟩ = some (.int .i64 0) := cell_keep (by go_simp) hb8; have x1 : w8.cell? ⟨w.heap.size, 1, none⟩ = some (.int .i64 0) := cell_keep (by go_simp) hb8; have x2 : w8.cell? ⟨w.heap.size, 2, none⟩ = some (.slice none 0 0) := cell_keep (by go_simp) hb8; have x3 : w8.cell? ⟨w.heap.size, 3, none⟩ = some (.slice none 0 0) := cell_keep (by go_simp) hb8; have x4 : w8.cell? ⟨w.heap.size, 4, none⟩ = some (.int .i64 0) := cell_keep (by go_simp) hb8; have uf3 : w8.frozen? ⟨k7, 3, none⟩ = false := frozen_keep (by go_simp) (by show k7 < _; simp; omega) hb8; have xf : ∀ i, w8.frozen? ⟨w.heap.size, i, none⟩ = false := fun i => frozen_keep (by go_simp) (by show w.heap.size < _; simp; omega) hb8; have hz8 : wc.heap.size ≤ w8.heap.size := (by have := hb8.size; simp at this; omega))
              go_wp2
              have hKB : B ≤ k7 := by omega
              have hgs : wc.heap.size ≤ g2 := by have := hgb2; simp at this; omega
              have nk2 : g2 ≠ k7 := by omega
              have nw2 : g2 ≠ w.heap.size := by omega
              have W4 := (((W3.out.aside ⟨k7, 0, none⟩ (.int .i64 0) n3 hKB ho2.out (by show w.heap.size ≤ k7; omega)).aside ⟨k7, 1, none⟩ (.int .i64 MF.val) n3 hKB ho2.out (by show w.heap.size ≤ k7; omega)).drew.drew.below hb8).aside ⟨k7, 3, none⟩ (.slice (some ⟨g2, 0, none⟩) 256 d2) n3 hKB ho2.out (by show w.heap.size ≤ k7; omega)
              have hN4 : NumsFrom ((wc.setCell ⟨k7, 0, none⟩ (.int .i64 0)).setCell ⟨k7, 1, none⟩ (.int .i64 MF.val)).drew.drew w.heap.size A1 MF.prints := NumsFrom.keep (nums_set (nums_set hNf.out.1 _ _ (fun a ha => (hNf.out.2 a ha).1)) _ _ (fun a ha => (hNf.out.2 a ha).1)) (bdrew (bdrew (Below.refl _ _)))
              have hN5 := nums_set (hN4.keep hb8) ⟨k7, 3, none⟩ (.slice (some ⟨g2, 0, none⟩) 256 d2) (fun a ha => (hNf.out.2 a ha).1)
              have hM5 : NumsFrom w8 w.heap.size (some ⟨g2, 0, none⟩) MF.M := ⟨hnn2, fun a ha => by injection ha with ha; subst ha; exact ⟨by show w.heap.size ≤ g2; omega, hlt2⟩⟩
              have hM6 := nums_set hM5 ⟨k7, 3, none⟩ (.slice (some ⟨g2, 0, none⟩) 256 d2) (fun a ha => by injection ha with ha; subst ha; exact nk2)
              refine bodyPost_ret (v := .agg #[.int .i64 0, .int .i64 MF.val, .slice A1 MF.prints.length c1, .slice (some ⟨g2, 0, none⟩) 256 d2, .int .i64 MF.steps]) (by simp [results, Try.results62, go_sem, x0, x1, x2, x3, x4, n1, n2]) rfl ?_
              refine ⟨pvq, A1, some ⟨g2, 0, none⟩, c1, d2, ?_, Went.five W4 w.heap.size _ _ _ _ _ (by omega) hBg ho1.out (Nat.le_refl _), nums_five hN5 _ _ _ _ _ _ (fun a ha => (hNf.out.2 a ha).2), ?_⟩
              · unfold outE outV outM
                simp [hov, he0, hm256]
              · unfold outM
                rw [if_pos ⟨hov, he0⟩]
                exact nums_five hM6 _ _ _ _ _ _ (fun a ha => by injection ha with ha; subst ha; exact nw2)
            | false =>
              have he0 : ¬ MF.e = 0 := by simpa using he
              go_wp2
              go_region
              go_wp2
              refine bodyPost_ret (v := .agg #[.int .i64 MF.e, .int .i64 MF.val, .slice A1 MF.prints.length c1, .slice none 0 0, .int .i64 MF.steps]) (by simp [results, Try.results62, go_sem, y0, y1, y2, y3, y4, n1, n2]) rfl ?_
              have hKB : B ≤ k7 := by omega
              have W4 := (W3.out.aside ⟨k7, 0, none⟩ (.int .i64 MF.e) n3 hKB ho2.out (by show w.heap.size ≤ k7; omega)).aside ⟨k7, 1, none⟩ (.int .i64 MF.val) n3 hKB ho2.out (by show w.heap.size ≤ k7; omega)
              have hN4 : NumsFrom ((wc.setCell ⟨k7, 0, none⟩ (.int .i64 MF.e)).setCell ⟨k7, 1, none⟩ (.int .i64 MF.val)) w.heap.size A1 MF.prints := nums_set (nums_set hNf.out.1 _ _ (fun a ha => (hNf.out.2 a ha).1)) _ _ (fun a ha => (hNf.out.2 a ha).1)
              refine ⟨pvq, A1, none, c1, 0, ?_, (Went.five W4 w.heap.size _ _ _ _ _ (by omega) hBg ho1.out (Nat.le_refl _)).drew, NumsFrom.keep (nums_five hN4 _ _ _ _ _ _ (fun a ha => (hNf.out.2 a ha).2)) (bdrew (Below.refl _ _)), ?_⟩
              · unfold outE outV outM
                simp [hov, he0]
              · unfold outM
                rw [if_neg (by simp [he0])]
                exact ⟨fun h => absurd rfl h, fun a ha => by cases ha⟩
end Go.Proofs.Ytcibkoodnfkogaa
