/- The document's machine: a run. -/
import Derived.Test.YtpiagggnjppkhaaZ20
namespace Go.Proofs.Ytpiagggnjppkhaa
open Go.RowKit
set_option linter.unusedVariables false
set_option linter.unusedSimpArgs false
/-- Behind a run. -/
def RranS (g : Nat) (B : Nat) (S : Nat → Prop) (A : Option Addr) (l : List Blk) (cap : Nat) (pv : Value) (m' : Mc) (w : World) (e : Ending) (w' : World) : Prop :=
  ∃ (pv' : Value) (x' : Nat → Value) (A1 A2 : Option Addr) (c1 c2 : Nat), e = .returned (.agg #[.int .i64 (outE m'), .int .i64 (outV m'), .slice A1 m'.prints.length c1, .slice A2 (outM m').length c2, .int .i64 m'.steps]) ∧
    Went w pv.ownBlock w' g 108 302 B S A l cap 2 pv' m' x' ∧ NumsFrom w' w.heap.size A1 m'.prints ∧ NumsFrom w' w.heap.size A2 (outM m')
set_option maxHeartbeats 4000000 in
set_option maxRecDepth 100000 in
theorem rrun_any {g B : Nat} {S : Nat → Prop} {A : Option Addr} {l : List Blk} {cap : Nat} {pv : Value} {m : Mc} {w : World} {x : Nat → Value} (h : Mach w g 108 302 B S A l cap 2 pv m x) (hp : PrgOk l) (hok : m.ok l) (hst : m.steps ≤ 1000000000000) (n : Int) (hn0 : -9223372036854775808 ≤ n) (hn1 : n ≤ 9223372036854775807) :
    Calls Try.prog 18 #[.pointer (some ⟨g, 0, none⟩), .int .i64 n] w (RranS g B S A l cap pv (runM l n m) w) := by
  have C1 := hid (fun (w' : World) (pv' : Value) (m' : Mc) (x' : Nat → Value) (h : Mach w' g 108 302 B S A l cap 2 pv' m' x') (hok : m'.ok l) (hst : m'.steps ≤ 10000000000000) => rstep_any h hp hok hst)
  have C2 := hid (fun (w' : World) (pv' : Value) (m' : Mc) (x' : Nat → Value) (h : Mach w' g 108 302 B S A l cap 2 pv' m' x') (hok : m'.ok l) => rtrap_any h hp hok)
  have W0 := hid h.went
  obtain ⟨w1, hw1⟩ : ∃ w1 : World, w1 = w.alloc (.cells #[.int .i64 0, .int .i64 0, .slice none 0 0, .slice none 0 0, .int .i64 0] 39 (0, 0)) := ⟨_, rfl⟩
  have hwb : Below w.heap.size w w1 := by rw [hw1]; exact balloc (Below.refl _ _) _
  have W1 := hid (h.below hwb).went
  have hR1 : Hid (w1.heap[w.heap.size]? = some (.cells #[.int .i64 0, .int .i64 0, .slice none 0 0, .slice none 0 0, .int .i64 0] 39 (0, 0))) := hid (by rw [hw1]; exact heap_new_at _ _ _ rfl)
  have hs1 : w1.heap.size = w.heap.size + 1 := by rw [hw1]; simp
  have hpo : Hid (∀ k, pv.ownBlock = some k → k < w.heap.size) := hid fun k e => (own_ge h.own k e).2
  have hgl := h.cells.lt
  have hB0 := h.bw
  have hcl : (clampS n : Int) = min (max n 0) 1048576 := by unfold clampS; omega
  have hcl2 : clampS n ≤ 1048576 := by unfold clampS; omega
  obtain ⟨N, hN⟩ : ∃ N, N = clampS n := ⟨_, rfl⟩
  have hok0 := hid hok
  have hRS := hid (run_ok hp N hok)
  have hfin : Hid (runM l n m = lastS l (runS l N m)) := hid (by rw [hN]; rfl)
  have hRst := hid (show (runS l N m).steps ≤ 1100000000000 by
    have := run_steps l N m
    have := tags_len l N m
    omega)
  rw [← hN] at hcl hcl2
  rw [hfin.out]
  obtain ⟨MF, hMF⟩ : ∃ MF, MF = lastS l (runS l N m) := ⟨_, rfl⟩
  rw [← hMF]
  replace hMF := hid hMF
  have hif : (if 1048576 < if n < 0 then 0 else n then (1048576 : Int) else if n < 0 then 0 else n) = (N : Int) := by
    rw [hcl]
    repeat' split
    all_goals omega
  clear h hok hN hfin hcl
  go_enter Try.func18, Try.ntmps18
  go_upto_block 0 with (fail)
  (try rw [hif])
  generalize (if n < 0 then (0 : Int) else n) = nn
  rw [← hw1]
  have W01 := hid (W0.out.below hwb)
  clear hw1 hif
  go_cut [] (fun wx => (∃ pv' x', Hid (Went w1 pv.ownBlock wx g 108 302 B S A l cap 2 pv' (runS l N m) x')) ∧ Hid (wx.heap[w.heap.size]? = some (.cells #[.int .i64 0, .int .i64 0, .slice none 0 0, .slice none 0 0, .int .i64 0] 39 (0, 0))))
  case first =>
    go_wp2_with fail
    go_loopg [5] N (fun gk v5 wr => ∃ (i : Nat) (pvi : Value) (mi : Mc) (xi : Nat → Value), i ≤ N ∧ v5 = .int .i64 i ∧ Hid (gk + i = N) ∧ Hid (Went w1 pv.ownBlock wr g 108 302 B S A l cap 2 pvi mi xi) ∧ Hid (mi.ok l) ∧ Hid (runS l (N - i) mi = runS l N m) ∧ Hid (mi.steps ≤ m.steps + i) ∧ Hid (wr.heap[w.heap.size]? = some (.cells #[.int .i64 0, .int .i64 0, .slice none 0 0, .slice none 0 0, .int .i64 0] 39 (0, 0))))
    case atStart => exact ⟨0, pv, m, x, by omega, rfl, by exact Nat.add_zero _, W1, hok0, hid rfl, hid (by omega), hR1⟩
    case round =>
      obtain ⟨i, pvi, mi, xi, hi, rfl, hg, hW, hoki, hrun, hsti, hRi⟩ := hrel
      by_cases hlt : i < N
      · have hij : (i : Int) < (N : Int) := by omega
        have hpi : Hid (∀ k, pvi.ownBlock = some k → k ≠ w.heap.size) := hid fun k e h => by
          rcases hW.out.own with h2 | ⟨b, h2, h3⟩
          · have := hpo.out k (by rw [← h2]; exact e)
            omega
          · rw [h2] at e
            injection e with e
            omega
        go_wp2_with fail
        with_reducible refine (C1.out _ _ _ _ hW.out.mach hoki.out (by have := hsti.out; omega)).mono ?_
        rintro e w2 ⟨rfl, pv2, hw⟩
        have hR2 : Hid (w2.heap[w.heap.size]? = some (.cells #[.int .i64 0, .int .i64 0, .slice none 0 0, .slice none 0 0, .int .i64 0] 39 (0, 0))) := hid ((hw.trn.block _ (by have := hW.out.trn.size; omega) (by omega) (fun e => hpi.out _ e.symm rfl)).trans hRi.out)
        have W2 := hid (hW.out.trans hw)
        clear hw
        cases hD : stepD l mi with
        | true =>
          have hr2 : Hid (runS l (N - (i + 1)) (stepM l mi) = runS l N m) := hid (by
            rw [← hrun.out, show N - i = (N - (i + 1)) + 1 by omega, run_step hD])
          go_wp2
          go_roundg (N - (i + 1))
          case measure => have := hg.out; omega
          case rel => exact ⟨i + 1, pv2, stepM l mi, _, by omega, by go_num, by show _ + _ = _; omega, W2, hid (stepM_ok hp hoki.out), hr2, hid (by have := stepM_steps l mi; have := hsti.out; omega), hR2⟩
        | false =>
          have hr2 : Hid (stepM l mi = runS l N m) := hid (by
            rw [← hrun.out, show N - i = (N - (i + 1)) + 1 by omega, run_stop hD])
          go_wp2
          go_meet
          case rel => exact ⟨⟨pv2, _, hid (W2.out.congr hr2.out)⟩, hR2⟩
      · obtain rfl : i = N := by omega
        have hr2 : Hid (mi = runS l i m) := hid (by
          rw [← hrun.out, Nat.sub_self]; rfl)
        go_wp2
        go_meet
        case rel => exact ⟨⟨pvi, xi, hid (hW.out.congr hr2.out)⟩, hRi⟩
  case rest =>
    obtain ⟨⟨pvr, xr, hW⟩, hR⟩ := hcut
    generalize runS l N m = R at *
    have hokF : Hid (MF.ok l ∧ MF.steps ≤ 1100000000001) := hid (by
      rw [hMF.out]
      unfold lastS
      have := stepM_steps l R
      have := hRst.out
      split
      · exact ⟨stepM_ok hp hRS.out, by omega⟩
      · exact ⟨hRS.out, by omega⟩)
    go_upto_region 5 with (fail)
    go_cut [21] (fun v21 wx => ∃ c, v21 = .bool c ∧ Hid (stuckS l R = c) ∧ Hid (Went w1 pv.ownBlock wx g 108 302 B S A l cap 2 pvr R xr) ∧ Hid (wx.heap[w.heap.size]? = some (.cells #[.int .i64 0, .int .i64 0, .slice none 0 0, .slice none 0 0, .int .i64 0] 39 (0, 0))))
    case first =>
      go_wp2_with fail
      with_reducible refine (C2.out _ _ _ _ hW.out.mach hRS.out).mono ?_
      rintro e wq ⟨rfl, hb⟩
      go_wp2
      go_meet
      case rel => exact ⟨_, rfl, hid rfl, hid (hW.out.below hb), hid ((hb.block _ (by have := hW.out.trn.size; omega)).trans hR.out)⟩
    case rest =>
      clear hW hR
      obtain ⟨cS, rfl, hcS, hW, hR⟩ := hcut
      go_upto_if 21 with (fail)
      go_cut [] (fun wx => (∃ pv' x', Hid (Went w1 pv.ownBlock wx g 108 302 B S A l cap 2 pv' MF x')) ∧ Hid (wx.heap[w.heap.size]? = some (.cells #[.int .i64 0, .int .i64 0, .slice none 0 0, .slice none 0 0, .int .i64 0] 39 (0, 0))))
      case first =>
        cases cS with
        | false =>
          have hfin : Hid (R = MF) := hid (by rw [hMF.out]; unfold lastS; rw [hcS.out]; rfl)
          go_wp2
          go_meet
          case rel => exact ⟨⟨pvr, xr, hid (hW.out.congr hfin.out)⟩, hR⟩
        | true =>
          have hfin : Hid (stepM l R = MF) := hid (by rw [hMF.out]; unfold lastS; rw [hcS.out]; rfl)
          have hpi : Hid (∀ k, pvr.ownBlock = some k → k ≠ w.heap.size) := hid fun k e h => by
            rcases hW.out.own with h2 | ⟨b, h2, h3⟩
            · have := hpo.out k (by rw [← h2]; exact e)
              omega
            · rw [h2] at e
              injection e with e
              omega
          go_wp2_with fail
          with_reducible refine (C1.out _ _ _ _ hW.out.mach hRS.out (by have := hRst.out; omega)).mono ?_
          rintro e w2 ⟨rfl, pv2, hw⟩
          have W2 := hid (hW.out.trans hw)
          have hR2 := hid ((hw.trn.block _ (by have := hW.out.trn.size; omega) (by omega) (fun e => hpi.out _ e.symm rfl)).trans hR.out)
          generalize stepD l R = dd at *
          clear hw
          go_wp2
          go_meet
          case rel => exact ⟨⟨pv2, _, hid (W2.out.congr hfin.out)⟩, hR2⟩
      case rest =>
        clear hW hR hcS hMF hRS hRst
        obtain ⟨⟨pvq, xq, WQ⟩, hR⟩ := hcut
        obtain ⟨wq, rfl⟩ : ∃ x : World, x = wc := ⟨_, rfl⟩
        have r3 : wq.cell? ⟨g, 293, none⟩ = some (.int .i64 MF.steps) := WQ.out.mach.cells.cell 293 (by decide)
        have hsz2 : w.heap.size < wq.heap.size := by have := WQ.out.trn.size; omega
        have hsz : g < wq.heap.size := by omega
        obtain ⟨P, cq, rfl, hPn⟩ := nums_from WQ.out.mach.own rfl
        have HPn := hid hPn.nums
        have R4 := hid (show wq.cell? ⟨g, 294, none⟩ = some (.slice P MF.prints.length cq) from WQ.out.mach.cells.cell 294 (by decide))
        have hpm : MF.prints.length ≤ 10000000000000 := by
          have h1 := hokF.out.1.pl
          have h2 := hokF.out.2
          omega
        obtain ⟨ii, z, hi, hz, h1, h8, hz1⟩ := int_info
        have HI := hid hi
        have HZ := hid hz
        have HU := hid (Try.underlying25)
        replace h1 := hid h1
        replace h8 := hid h8
        replace hz1 := hid hz1
        have HMs := hid WQ.out.mach
        clear hi hz hPn C1 C2
        go_upto_region 9 with (fail)
        obtain ⟨k6, hk6⟩ : ∃ k6, k6 = wq.heap.size := ⟨_, rfl⟩
        obtain ⟨wz, hwz⟩ : ∃ wz : World, wz = wq.alloc (.cells #[.int .i64 100, .int .i64 0, .slice none 0 0, .slice none 0 0, .int .i64 MF.steps] 39 (0, 0)) := ⟨_, rfl⟩
        rw [← hwz, ← hk6]
        have hbz : Hid (Below wq.heap.size wq wz) := hid (by rw [hwz]; ((with_reducible (repeat (first | assumption | exact Below.refl _ _ | refine bset ?_ (Nat.le_refl _) _ | refine balloc ?_ _ | refine bdrew ?_ | refine bdrewN ?_ _))); done))
        have H6 : Hid (wz.heap[k6]? = some (.cells #[.int .i64 100, .int .i64 0, .slice none 0 0, .slice none 0 0, .int .i64 MF.steps] 39 (0, 0))) := hid (by rw [hwz, hk6]; exact heap_new_at _ _ _ rfl)
        have hsz6 : wz.heap.size = wq.heap.size + 1 := by rw [hwz]; simp
        have hk6a : k6 ≤ wq.heap.size := by omega
        have hk6b : wq.heap.size ≤ k6 := by omega
        replace hwz := hid hwz
        clear hk6
        go_loopg [7] MF.prints.length (fun gk v7 wr => ∃ (v : Value) (i : Nat), v7 = .int .i64 i ∧ i ≤ MF.prints.length ∧ Hid (gk + i = MF.prints.length) ∧ Hid (wr.heap[k6]? = some (.cells #[.int .i64 100, .int .i64 0, v, .slice none 0 0, .int .i64 MF.steps] 39 (0, 0))) ∧ Hid (wr.ownsRow (k6 + 1) 2 1 v i ((MF.prints.take i).map (Value.int .i64))) ∧ Hid (Below wq.heap.size wq wr) ∧ Hid (k6 + 1 ≤ wr.heap.size))
        case atStart => exact ⟨.slice none 0 0, 0, rfl, Nat.zero_le _, by exact Nat.add_zero _, H6, hid (World.ownsRow_nil _ _ _ _), hbz, hid (by omega)⟩
        case round =>
          obtain ⟨v, i, rfl, hi, hgk, h6, ho, hb, hs⟩ := hrel
          have hsr := hs.out
          have hk6r : k6 < wr.heap.size := by omega
          have hgr : g < wr.heap.size := by omega
          have r4 := cell_keep R4.out hb.out
          by_cases hlt : i < MF.prints.length
          · have hij : (i : Int) < (MF.prints.length : Int) := by omega
            have hi0 : (0 : Int) ≤ (i : Int) := by omega
            obtain ⟨kq, oq, rfl, e0⟩ := (HPn.out.keep hb.out).get i hlt
            have hkq : kq < wr.heap.size := World.block_lt_of_cell? wr _ e0
            have hnext := hid (ints_take hlt)
            have c6 : wr.cell? ⟨k6, 2, none⟩ = some v := cell_of_row wr _ 2 _ _ _ h6.out
            have f6 : wr.frozen? ⟨k6, 2, none⟩ = false := frozen_of_row wr _ 2 _ _ h6.out
            have HNE : Hid (some k6 ≠ v.ownBlock) := hid fun e => by have := (own_ge ho.out _ e.symm).1; omega
            have HL0 := hid (show MF.prints.length = MF.prints.length from rfl)
            generalize MF.prints[i] = y at *
            go_upto_region 11 with (fail)
            go_region_law ((refine step_append_lies _ (by rfl) _ _ _ (by rfl) (k6 + 1) 2 ii z 1 8 HU.out HI.out HZ.out h1.out h8.out hz1.out (by omega) v i ((MF.prints.take i).map (Value.int .i64)) (by rfl) (own_below ho.out (by ((with_reducible (repeat (first | assumption | exact Below.refl _ _ | refine bset ?_ (Nat.le_refl _) _ | refine balloc ?_ _ | refine bdrew ?_ | refine bdrewN ?_ _))); done))) ⟨wr.heap.size, 0, none⟩ 1 1 [.int .i64 y] (by rfl) (by rfl) (World.news_of_block (heap_new_at _ _ _ (by simp))) (by intro u hu; simp only [List.mem_cons, List.not_mem_nil, or_false] at hu; subst hu; rfl) (by omega) (by unfold maxLen; omega) (by omega) (by simp; omega) _ rfl ?_); intro g3 d3 w7 hown7 hgrow7 hat7 hlt7; have r7 := hgrow7.cell (cell_keep c6 (by ((with_reducible (repeat (first | assumption | exact Below.refl _ _ | refine bset ?_ (Nat.le_refl _) _ | refine balloc ?_ _ | refine bdrew ?_ | refine bdrewN ?_ _))); done))) HNE.out; have f7 := (hgrow7.frozen_far ⟨k6, 2, none⟩ (by simp; omega) HNE.out).trans (frozen_keep f6 hk6r (by ((with_reducible (repeat (first | assumption | exact Below.refl _ _ | refine bset ?_ (Nat.le_refl _) _ | refine balloc ?_ _ | refine bdrew ?_ | refine bdrewN ?_ _))); done))))
            all_goals
              have B7 : Hid (Below (k6 + 1) wr w7) := hid (grown_old (by ((with_reducible (repeat (first | assumption | exact Below.refl _ _ | refine bset ?_ (Nat.le_refl _) _ | refine balloc ?_ _ | refine bdrew ?_ | refine bdrewN ?_ _))); done)) ho.out hgrow7 (Nat.le_refl _) (by omega))
              have O7 := hid hown7
              have hs7 := B7.out.size
              clear hown7 hgrow7 hat7
              go_wp2
              go_roundg (MF.prints.length - (i + 1))
              case measure => have := hgk.out; omega
              case rel =>
                refine ⟨.slice (some ⟨g3, 0, none⟩) (i + 1) d3, i + 1, by go_num, by omega, by show _ + _ = _; omega, hid ?_, hid ?_, hid ?_, hid ?_⟩
                · exact heap_setCell_same w7 k6 2 #[.int .i64 100, .int .i64 0, v, .slice none 0 0, .int .i64 MF.steps] _ _ ((B7.out.block _ (by omega)).trans h6.out)
                · rw [hnext.out]
                  refine ownsRow_setCell_below O7.out ?_ _
                  show k6 < k6 + 1
                  omega
                · exact (hb.out.trans (B7.out.mono (by omega))).setCell (p := ⟨k6, 2, none⟩) hk6b _
                · rw [World.size_setCell]; omega
          · obtain rfl : i = MF.prints.length := by omega
            have ho2 := ho.out
            rw [List.take_length] at ho2
            obtain ⟨A1, c1, rfl, hN⟩ := nums_from ho2 rfl
            have hij : ¬ (MF.prints.length : Int) < (MF.prints.length : Int) := by omega
            go_upto_region 12 with (fail)
            have W2 := hid (WQ.out.below hb.out)
            have HRx := hid ((hb.out.block _ hsz2).trans hR.out)
            have y0 : wr.cell? ⟨w.heap.size, 0, none⟩ = some (.int .i64 0) := cell_of_row wr w.heap.size 0 _ _ _ HRx.out
            have y1 : wr.cell? ⟨w.heap.size, 1, none⟩ = some (.int .i64 0) := cell_of_row wr w.heap.size 1 _ _ _ HRx.out
            have y2 : wr.cell? ⟨w.heap.size, 2, none⟩ = some (.slice none 0 0) := cell_of_row wr w.heap.size 2 _ _ _ HRx.out
            have y3 : wr.cell? ⟨w.heap.size, 3, none⟩ = some (.slice none 0 0) := cell_of_row wr w.heap.size 3 _ _ _ HRx.out
            have y4 : wr.cell? ⟨w.heap.size, 4, none⟩ = some (.int .i64 0) := cell_of_row wr w.heap.size 4 _ _ _ HRx.out
            have yf : ∀ i, wr.frozen? ⟨w.heap.size, i, none⟩ = false := fun i => frozen_of_row wr w.heap.size i _ _ HRx.out
            have z0 : wr.cell? ⟨k6, 0, none⟩ = some (.int .i64 100) := cell_of_row wr k6 0 _ _ _ h6.out
            have z1 : wr.cell? ⟨k6, 1, none⟩ = some (.int .i64 0) := cell_of_row wr k6 1 _ _ _ h6.out
            have z2 : wr.cell? ⟨k6, 2, none⟩ = some (.slice A1 MF.prints.length c1) := cell_of_row wr k6 2 _ _ _ h6.out
            have z3 : wr.cell? ⟨k6, 3, none⟩ = some (.slice none 0 0) := cell_of_row wr k6 3 _ _ _ h6.out
            have z4 : wr.cell? ⟨k6, 4, none⟩ = some (.int .i64 MF.steps) := cell_of_row wr k6 4 _ _ _ h6.out
            have zf0 : wr.frozen? ⟨k6, 0, none⟩ = false := frozen_of_row wr k6 0 _ _ h6.out
            have zf1 : wr.frozen? ⟨k6, 1, none⟩ = false := frozen_of_row wr k6 1 _ _ h6.out
            have zf3 : wr.frozen? ⟨k6, 3, none⟩ = false := frozen_of_row wr k6 3 _ _ h6.out
            have q7 : wr.cell? ⟨g, 295, none⟩ = some (.bool MF.over) := W2.out.mach.cells.cell 295 (by decide)
            have q8 : wr.cell? ⟨g, 296, none⟩ = some (.int .i64 MF.e) := W2.out.mach.cells.cell 296 (by decide)
            have q9 : wr.cell? ⟨g, 297, none⟩ = some (.int .i64 MF.val) := W2.out.mach.cells.cell 297 (by decide)
            have hwx : w.heap.size < wr.heap.size := by omega
            have n1 : ¬ k6 = w.heap.size := by omega
            have n2 : ¬ w.heap.size = k6 := by omega
            have n3 : ¬ k6 = g := by omega
            have n4 : ¬ g = k6 := by omega
            have W3 := hid (W01.out.trans W2.out)
            have ho1 : Hid (∀ k, Value.ownBlock (.slice P MF.prints.length cq) = some k → k ≠ w.heap.size) := hid fun k e h => by
              rcases W2.out.own with h2 | ⟨b, h2, h3⟩
              · have := hpo.out k (by rw [← h2]; exact e)
                omega
              · rw [h2] at e
                injection e with e
                omega
            have ho6 : Hid (∀ k, Value.ownBlock (.slice P MF.prints.length cq) = some k → k ≠ k6) := hid fun k e h => by
              have := (own_ge WQ.out.mach.own k e).2
              omega
            have hBw := WQ.out.mach.bw
            have hBk : B ≤ k6 := by omega
            have hNf : Hid (NumsFrom wr w.heap.size A1 MF.prints ∧ ∀ a, A1 = some a → a.block ≠ k6 ∧ a.block ≠ w.heap.size) := hid ⟨⟨hN.1, fun a ha => ⟨by have := (hN.2 a ha).1; omega, (hN.2 a ha).2⟩⟩, fun a ha => by have := (hN.2 a ha).1; omega⟩
            clear W0 W1 W01 hR1 hs1 hwb hpo hcl2 hok0 hp hst hn0 hn1 hR WQ W2 HRx hN ho ho2 h6 H6 hbz HPn R4 r4 HMs
            cases hov : MF.over with
            | false =>
              rw [hov] at q7
              go_wp2
              refine bodyPost_ret (v := .agg #[.int .i64 100, .int .i64 0, .slice A1 MF.prints.length c1, .slice none 0 0, .int .i64 MF.steps]) (by simp [results, Try.results18, go_sem, y0, y1, y2, y3, y4]) rfl ?_
              refine ⟨_, xq, A1, none, c1, 0, ?_, Went.five W3.out w.heap.size _ _ _ _ _ (by omega) hB0 ho1.out (Nat.le_refl _), nums_five hNf.out.1 _ _ _ _ _ _ (fun a ha => (hNf.out.2 a ha).2), ?_⟩
              · unfold outE outV outM
                simp [hov]
              · unfold outM
                rw [hov]
                exact ⟨fun h => absurd rfl h, fun a ha => by cases ha⟩
            | true =>
              rw [hov] at q7
              have W4 := hid ((W3.out.aside ⟨k6, 0, none⟩ (.int .i64 MF.e) n3 hBk ho6.out (by show w.heap.size ≤ k6; omega)).aside ⟨k6, 1, none⟩ (.int .i64 MF.val) n3 hBk ho6.out (by show w.heap.size ≤ k6; omega))
              have N4 := hid (nums_set (nums_set hNf.out.1 ⟨k6, 0, none⟩ (.int .i64 MF.e) (fun a ha => (hNf.out.2 a ha).1)) ⟨k6, 1, none⟩ (.int .i64 MF.val) (fun a ha => (hNf.out.2 a ha).1))
              cases he : (MF.e == 0) with
              | true =>
                have he0 : MF.e = 0 := eq_of_beq he
                have hm256 := hokF.out.1.m256
                have CC := hid (rcells_any g MF.M hm256 _ W4.out.mach.rregs.M)
                go_wp2_with fail
                rw [he0] at W4 N4 CC
                with_reducible refine (CC.out).mono ?_
                rintro e w8 ⟨A2, c2, rfl, hN2, hb8⟩
                have hb8' := hid hb8
                have u0 : w8.cell? ⟨k6, 0, none⟩ = some (.int .i64 0) := cell_keep (by go_simp) hb8
                have u1 : w8.cell? ⟨k6, 1, none⟩ = some (.int .i64 MF.val) := cell_keep (by go_simp) hb8
                have u2 : w8.cell? ⟨k6, 2, none⟩ = some (.slice A1 MF.prints.length c1) := cell_keep (by go_simp) hb8
                have u3 : w8.cell? ⟨k6, 3, none⟩ = some (.slice none 0 0) := cell_keep (by go_simp) hb8
                have u4 : w8.cell? ⟨k6, 4, none⟩ = some (.int .i64 MF.steps) := cell_keep (by go_simp) hb8
                have x0 : w8.cell? ⟨w.heap.size, 0, none⟩ = some (.int .i64 0) := cell_keep (by go_simp) hb8
                have x1 : w8.cell? ⟨w.heap.size, 1, none⟩ = some (.int .i64 0) := cell_keep (by go_simp) hb8
                have x2 : w8.cell? ⟨w.heap.size, 2, none⟩ = some (.slice none 0 0) := cell_keep (by go_simp) hb8
                have x3 : w8.cell? ⟨w.heap.size, 3, none⟩ = some (.slice none 0 0) := cell_keep (by go_simp) hb8
                have x4 : w8.cell? ⟨w.heap.size, 4, none⟩ = some (.int .i64 0) := cell_keep (by go_simp) hb8
                have uf3 : w8.frozen? ⟨k6, 3, none⟩ = false := frozen_keep (by go_simp) (by show k6 < _; simp; omega) hb8
                have xf : ∀ i, w8.frozen? ⟨w.heap.size, i, none⟩ = false := fun i => frozen_keep (by go_simp) (by show w.heap.size < _; simp; omega) hb8
                have hz8 : wr.heap.size ≤ w8.heap.size := by have := hb8.size; simp at this; omega
                have hk68 : k6 < w8.heap.size := by omega
                have hw8 : w.heap.size < w8.heap.size := by omega
                have M2 : Hid (NumsFrom w8 wr.heap.size A2 MF.M) := hid (by have h := hN2; simp only [World.size_setCell] at h; exact h)
                have W5 := hid (W4.out.below hb8)
                have N5 := hid (N4.out.keep hb8)
                rw [hm256]
                clear hb8 hN2 hb8' CC y0 y1 y2 y3 y4 yf z0 z1 z2 z3 z4 zf0 zf1 zf3 q7 q8 q9
                go_wp2
                have ha2 : ∀ a, A2 = some a → a.block ≠ k6 ∧ a.block ≠ w.heap.size := fun a ha => by have := (M2.out.2 a ha).1; omega
                have W6 := W5.out.aside ⟨k6, 3, none⟩ (.slice A2 256 c2) n3 hBk ho6.out (by show w.heap.size ≤ k6; omega)
                have N6 := nums_set N5.out ⟨k6, 3, none⟩ (.slice A2 256 c2) (fun a ha => (hNf.out.2 a ha).1)
                have M6 := nums_set M2.out ⟨k6, 3, none⟩ (.slice A2 256 c2) (fun a ha => (ha2 a ha).1)
                refine bodyPost_ret (v := .agg #[.int .i64 0, .int .i64 MF.val, .slice A1 MF.prints.length c1, .slice A2 256 c2, .int .i64 MF.steps]) (by simp [results, Try.results18, go_sem, x0, x1, x2, x3, x4, n1, n2]) rfl ?_
                refine ⟨_, xq, A1, A2, c1, c2, ?_, Went.five W6 w.heap.size _ _ _ _ _ (by omega) hB0 ho1.out (Nat.le_refl _), nums_five N6 _ _ _ _ _ _ (fun a ha => (hNf.out.2 a ha).2), ?_⟩
                · unfold outE outV outM
                  simp [hov, he0, hm256]
                · unfold outM
                  rw [if_pos ⟨hov, he0⟩]
                  have h := nums_five M6 w.heap.size (.int .i64 0) (.int .i64 MF.val) (.slice A1 MF.prints.length c1) (.slice A2 256 c2) (.int .i64 MF.steps) (fun a ha => (ha2 a ha).2)
                  exact ⟨h.1, fun a ha => ⟨by have := (h.2 a ha).1; omega, (h.2 a ha).2⟩⟩
              | false =>
                have he0 : ¬ MF.e = 0 := by simpa using he
                go_wp2
                refine bodyPost_ret (v := .agg #[.int .i64 MF.e, .int .i64 MF.val, .slice A1 MF.prints.length c1, .slice none 0 0, .int .i64 MF.steps]) (by simp [results, Try.results18, go_sem, y0, y1, y2, y3, y4, n1, n2]) rfl ?_
                refine ⟨_, xq, A1, none, c1, 0, ?_, Went.five W4.out w.heap.size _ _ _ _ _ (by omega) hB0 ho1.out (Nat.le_refl _), nums_five N4.out _ _ _ _ _ _ (fun a ha => (hNf.out.2 a ha).2), ?_⟩
                · unfold outE outV outM
                  simp [hov, he0]
                · unfold outM
                  rw [if_neg (by simp [he0])]
                  exact ⟨fun h => absurd rfl h, fun a ha => by cases ha⟩
end Go.Proofs.Ytpiagggnjppkhaa
