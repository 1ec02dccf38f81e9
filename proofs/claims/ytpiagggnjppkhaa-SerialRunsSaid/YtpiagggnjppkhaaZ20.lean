/- The document's machine: all cells; the state. -/
import Derived.Test.YtpiagggnjppkhaaZ12
import Derived.Test.YtpiagggnjppkhaaZ19
import Derived.Test.YtpiagggnjppkhaaZ18
import Derived.OwnWalk
namespace Go.Proofs.Ytpiagggnjppkhaa
open Go.RowKit
set_option linter.unusedVariables false
set_option linter.unusedSimpArgs false
/-- Numbers in a list of its own. -/
def CellsS (M : List Int) (w : World) (e : Ending) (w' : World) : Prop :=
  ∃ (A : Option Addr) (c : Nat), e = .returned (.slice A M.length c) ∧ NumsFrom w' w.heap.size A M ∧ Below w.heap.size w w'
theorem nums_from {w : World} {B : Nat} {v : Value} {n : Nat} {l : List Int} (h : w.ownsRow B 2 1 v n (l.map (Value.int .i64))) (hn : n = l.length) : ∃ (A : Option Addr) (c : Nat), v = .slice A l.length c ∧ NumsFrom w B A l := by
  subst hn
  rcases h.2 with ⟨h1, h0⟩ | ⟨g, cap, cur, h1, hB, hx, _⟩
  · refine ⟨none, 0, by rw [h1, h0], fun hne => absurd (List.eq_nil_of_length_eq_zero h0) hne, fun a ha => by cases ha⟩
  · refine ⟨some ⟨g, 0, none⟩, cap, h1, ?_, fun a ha => ?_⟩
    · subst h1
      exact nums_own h rfl
    · injection ha with ha
      subst ha
      exact ⟨hB, (Array.getElem?_eq_some_iff.1 hx).1⟩
theorem ints_take {l : List Int} {i : Nat} (hi : i < l.length) : (l.take (i + 1)).map (Value.int .i64) = (l.take i).map (Value.int .i64) ++ [.int .i64 l[i]] := by
  rw [List.take_succ_eq_append_getElem hi, List.map_append]
  rfl
theorem grown_below {w wr w4 : World} {e : TypeId} {s : Nat} {v : Value} {n : Nat} {xs : List Value} {o : Obj} (ho : wr.ownsRow w.heap.size e s v n xs) (hb : Below w.heap.size w wr) (hg : (wr.alloc o).grownBy w4 v.ownBlock) : Below w.heap.size w w4 :=
  ⟨hg.os.trans hb.os, hg.tape.trans hb.tape, hg.output.trans hb.output, by have := hg.size; have := hb.size; simp at *; omega, fun k hk => (hg.block k (by have := hb.size; simp; omega) fun e => by have := (own_ge ho k e.symm).1; omega).trans ((alloc_old _ _ (by have := hb.size; omega)).trans (hb.block k hk))⟩
set_option maxHeartbeats 4000000 in
set_option maxRecDepth 100000 in
theorem rcells_any (g : Nat) (M : List Int) (hM : M.length = 256) (w : World) (hr : ∀ i, i < 256 → w.cell? ⟨g, 33 + i, none⟩ = some (.int .i64 (M[i]?.getD 0))) :
    Calls Try.prog 50 #[.pointer (some ⟨g, 33, none⟩)] w (CellsS M w) := by
  obtain ⟨ii, z, hi, hz, h1, h8, hz1⟩ := int_info
  have HI := hid hi
  have HZ := hid hz
  have HU := hid (Try.underlying25)
  replace h1 := hid h1
  replace h8 := hid h8
  replace hz1 := hid hz1
  have HR := hid hr
  have HM := hid hM
  have hgl : g < w.heap.size := World.block_lt_of_cell? w _ (hr 0 (by decide))
  have hfin : Hid (∀ w' v, Below w.heap.size w w' → w'.ownsRow w.heap.size 2 1 v 256 ((M.take 256).map (Value.int .i64)) → CellsS M w (.returned v) w') := hid fun w' v hb h => by
    rw [List.take_of_length_le (by omega)] at h
    obtain ⟨A, c, rfl, hn⟩ := nums_from h hM.symm
    exact ⟨A, c, rfl, hn, hb⟩
  clear hi hz hr hM
  obtain ⟨w1, hrun0, ho, hg⟩ := run_make_own (P := Try.prog) w w.heap.size 25 2 ii z 1 HU.out HI.out HZ.out h1.out .i64 .i64 256 (by rw [h8.out]; omega) (by unfold maxLen; omega) (Nat.le_refl _)
  have hrun : (Instr.makeSlice 25 (.int .i64 0) (.int .i64 256)).run Try.prog w = .ok (.slice (some ⟨w.heap.size, 0, none⟩) 0 256) w1 := hrun0
  clear hrun0
  have hb1 : Below w.heap.size w w1 := ⟨hg.os, hg.tape, hg.output, hg.size, fun k hk => hg.block k hk (by intro e; cases e)⟩
  have O1 := hid ho
  have B1 := hid hb1
  clear ho hg hb1
  go_enter Try.func50, Try.ntmps50
  go_wp2_with fail
  go_loopg [3, 4] 256 (fun gk v3 v4 wr => ∃ (v : Value) (i : Nat), v = v3 ∧ v4 = .int .i64 i ∧ i ≤ 256 ∧ Hid (gk + i = 256) ∧ Hid (wr.ownsRow w.heap.size 2 1 v i ((M.take i).map (Value.int .i64))) ∧ Hid (Below w.heap.size w wr))
  case atStart => exact ⟨_, 0, rfl, rfl, by omega, by exact Nat.add_zero _, hid (by rw [List.take_zero]; exact O1.out), B1⟩
  case round =>
    obtain ⟨v, i, rfl, rfl, hi, hgk, ho, hb⟩ := hrel
    by_cases hlt : i < 256
    · have hij : (i : Int) < 256 := by omega
      have hi0 : (0 : Int) ≤ (i : Int) := by omega
      have hiM : i < M.length := by rw [HM.out]; exact hlt
      have r0 := cell_keep (HR.out i hlt) hb.out
      rw [List.getElem?_eq_getElem hiM] at r0
      have r0 : wr.cell? ⟨g, 33 + i, none⟩ = some (.int .i64 M[i]) := r0
      have hgr : g < wr.heap.size := by have := hb.out.size; omega
      have hnext := hid (ints_take hiM)
      generalize M[i] = y at *
      go_wp2_with (at_builtin; refine wpList_append_lies _ (by rfl) _ _ _ (by rfl) w.heap.size 2 ii z 1 8 HU.out HI.out HZ.out h1.out h8.out hz1.out (by omega) v i ((M.take i).map (Value.int .i64)) (by rfl) (own_below ho.out (by ((with_reducible (repeat (first | assumption | exact Below.refl _ _ | refine bset ?_ (Nat.le_refl _) _ | refine balloc ?_ _ | refine bdrew ?_ | refine bdrewN ?_ _))); done))) ⟨wr.heap.size, 0, none⟩ 1 1 [.int .i64 y] (by rfl) (by rfl) (World.news_of_block (heap_new_at _ _ _ (by simp))) (by intro u hu; simp only [List.mem_cons, List.not_mem_nil, or_false] at hu; subst hu; rfl) (by omega) (by unfold maxLen; omega) (by omega) (by have := hb.out.size; simp; omega) _ rfl ?_)
      intro g3 d3 w4 hown4 hgrow4 hat4 hlt4
      have B4 : Hid (Below w.heap.size w w4) := hid (grown_below ho.out hb.out hgrow4)
      have O4 := hid hown4
      clear hown4 hgrow4 hat4 hlt4
      go_wp2
      go_roundg (256 - (i + 1))
      case measure => have := hgk.out; omega
      case rel => exact ⟨_, i + 1, rfl, by go_num, by omega, by show _ + _ = _; omega, hid (by rw [hnext.out, List.map_take]; exact O4.out), B4⟩
    · obtain rfl : i = 256 := by omega
      go_wp2
      refine bodyPost_ret (v := v) (by simp [results, Try.results50, go_sem]) rfl (hfin.out _ _ hb.out ho.out)
theorem grown_old {wr wx w7 : World} {B B0 : Nat} {e : TypeId} {s : Nat} {v : Value} {n : Nat} {xs : List Value} (hbx : Below wr.heap.size wr wx) (ho : wr.ownsRow B e s v n xs) (hg : wx.grownBy w7 v.ownBlock) (hB : B0 ≤ B) (hs : B0 ≤ wr.heap.size) : Below B0 wr w7 :=
  ⟨hg.os.trans hbx.os, hg.tape.trans hbx.tape, hg.output.trans hbx.output, Nat.le_trans hbx.size hg.size, fun k hk => (hg.block k (by have := hbx.size; omega) fun e => by have := (own_ge ho k e.symm).1; omega).trans (hbx.block k (by omega))⟩
set_option maxHeartbeats 4000000 in
set_option maxRecDepth 100000 in
theorem rstate_any {g B : Nat} {S : Nat → Prop} {A : Option Addr} {l : List Blk} {cap : Nat} {pv : Value} {m : Mc} {w : World} {x : Nat → Value} (h : Mach w g 108 302 B S A l cap 2 pv m x) (hr : m.R.length = 32) (hm : m.M.length = 256) :
    Calls Try.prog 20 #[.pointer (some ⟨g, 0, none⟩)] w (StateS m w) := by
  obtain ⟨ii, z, hi, hz, h1, h8, hz1⟩ := int_info
  have HI := hid hi
  have HZ := hid hz
  have HU := hid (Try.underlying25)
  replace h1 := hid h1
  replace h8 := hid h8
  replace hz1 := hid hz1
  have HRR := hid h.rregs
  have HR := hid hr
  have CC := hid (fun (w' : World) (hb : Below w.heap.size w w') => rcells_any g m.M hm w' (h.rregs.keep hb).M)
  have hgl := h.cells.lt
  have HM := hid hm
  clear hi hz h hr hm
  go_enter Try.func20, Try.ntmps20
  go_wp2_with fail
  obtain ⟨wa, hwa⟩ : ∃ wa : World, wa = (w.alloc (.cells #[.slice none 0 0, .slice none 0 0] 27 (0, 0))).alloc (.cells #[.slice none 0 0, .slice none 0 0] 27 (0, 0)) := ⟨_, rfl⟩
  rw [← hwa]
  have hba : Hid (Below w.heap.size w wa) := hid (by rw [hwa]; ((with_reducible (repeat (first | assumption | exact Below.refl _ _ | refine bset ?_ (Nat.le_refl _) _ | refine balloc ?_ _ | refine bdrew ?_ | refine bdrewN ?_ _))); done))
  have hsa : wa.heap.size = w.heap.size + 2 := by rw [hwa]; simp
  have H2 : Hid (wa.heap[w.heap.size]? = some (.cells #[.slice none 0 0, .slice none 0 0] 27 (0, 0))) := hid (by rw [hwa]; exact (alloc_old _ _ (by simp)).trans (heap_new_at _ _ _ rfl))
  have H3 : Hid (wa.heap[w.heap.size + 1]? = some (.cells #[.slice none 0 0, .slice none 0 0] 27 (0, 0))) := hid (by rw [hwa]; exact heap_new_at _ _ _ (by simp))
  replace hwa := hid hwa
  go_loopg [4] 32 (fun gk v4 wr => ∃ (v : Value) (i : Nat), v4 = .int .i64 i ∧ i ≤ 32 ∧ Hid (gk + i = 32) ∧ Hid (wr.heap[w.heap.size + 1]? = some (.cells #[v, .slice none 0 0] 27 (0, 0))) ∧ Hid (wr.heap[w.heap.size]? = some (.cells #[.slice none 0 0, .slice none 0 0] 27 (0, 0))) ∧ Hid (wr.ownsRow (w.heap.size + 2) 2 1 v i ((m.R.take i).map (Value.int .i64))) ∧ Hid (Below w.heap.size w wr) ∧ Hid (w.heap.size + 2 ≤ wr.heap.size))
  case atStart => exact ⟨.slice none 0 0, 0, rfl, by omega, by exact Nat.add_zero _, H3, H2, hid (World.ownsRow_nil _ _ _ _), hba, hid (by omega)⟩
  case round =>
    obtain ⟨v, i, rfl, hi, hgk, h3, h2, ho, hb, hs⟩ := hrel
    have hsr := hs.out
    have hk3 : w.heap.size + 1 < wr.heap.size := by omega
    have hk2 : w.heap.size < wr.heap.size := by omega
    have hgr : g < wr.heap.size := by omega
    by_cases hlt : i < 32
    · have hij : (i : Int) < 32 := by omega
      have hi0 : (0 : Int) ≤ (i : Int) := by omega
      have hiM : i < m.R.length := by rw [HR.out]; exact hlt
      have r0 := cell_keep (HRR.out.R i hlt) hb.out
      rw [List.getElem?_eq_getElem hiM] at r0
      have r0 : wr.cell? ⟨g, 1 + i, none⟩ = some (.int .i64 m.R[i]) := r0
      have hnext := hid (ints_take hiM)
      have c3 : wr.cell? ⟨w.heap.size + 1, 0, none⟩ = some v := cell_of_row wr _ 0 _ _ _ h3.out
      have f3 : wr.frozen? ⟨w.heap.size + 1, 0, none⟩ = false := frozen_of_row wr _ 0 _ _ h3.out
      have HNE : Hid (some (w.heap.size + 1) ≠ v.ownBlock) := hid fun e => by have := (own_ge ho.out _ e.symm).1; omega
      generalize m.R[i] = y at *
      go_upto_region 5 with (fail)
      go_region_law ((refine step_append_lies _ (by rfl) _ _ _ (by rfl) (w.heap.size + 2) 2 ii z 1 8 HU.out HI.out HZ.out h1.out h8.out hz1.out (by omega) v i ((m.R.take i).map (Value.int .i64)) (by rfl) (own_below ho.out (by ((with_reducible (repeat (first | assumption | exact Below.refl _ _ | refine bset ?_ (Nat.le_refl _) _ | refine balloc ?_ _ | refine bdrew ?_ | refine bdrewN ?_ _))); done))) ⟨wr.heap.size, 0, none⟩ 1 1 [.int .i64 y] (by rfl) (by rfl) (World.news_of_block (heap_new_at _ _ _ (by simp))) (by intro u hu; simp only [List.mem_cons, List.not_mem_nil, or_false] at hu; subst hu; rfl) (by omega) (by unfold maxLen; omega) (by omega) (by simp; omega) _ rfl ?_); intro g3 d3 w7 hown7 hgrow7 hat7 hlt7; have r7 := hgrow7.cell (cell_keep c3 (by ((with_reducible (repeat (first | assumption | exact Below.refl _ _ | refine bset ?_ (Nat.le_refl _) _ | refine balloc ?_ _ | refine bdrew ?_ | refine bdrewN ?_ _))); done))) HNE.out; have f7 := (hgrow7.frozen_far ⟨w.heap.size + 1, 0, none⟩ (by simp; omega) HNE.out).trans (frozen_keep f3 hk3 (by ((with_reducible (repeat (first | assumption | exact Below.refl _ _ | refine bset ?_ (Nat.le_refl _) _ | refine balloc ?_ _ | refine bdrew ?_ | refine bdrewN ?_ _))); done))))
      all_goals
        have B7 : Hid (Below (w.heap.size + 2) wr w7) := hid (grown_old (by ((with_reducible (repeat (first | assumption | exact Below.refl _ _ | refine bset ?_ (Nat.le_refl _) _ | refine balloc ?_ _ | refine bdrew ?_ | refine bdrewN ?_ _))); done)) ho.out hgrow7 (Nat.le_refl _) (by omega))
        have O7 := hid hown7
        have hs7 := B7.out.size
        clear hown7 hgrow7 hat7
        go_wp2
        go_roundg (32 - (i + 1))
        case measure => have := hgk.out; omega
        case rel =>
          refine ⟨.slice (some ⟨g3, 0, none⟩) (i + 1) d3, i + 1, by go_num, by omega, by show _ + _ = _; omega, hid ?_, hid ?_, hid ?_, hid ?_, hid ?_⟩
          · exact heap_setCell_same w7 (w.heap.size + 1) 0 #[v, .slice none 0 0] _ _ ((B7.out.block _ (by omega)).trans h3.out)
          · exact (heap_setCell_other _ _ _ _ (by show w.heap.size ≠ w.heap.size + 1; omega)).trans ((B7.out.block _ (by omega)).trans h2.out)
          · rw [hnext.out]
            refine ownsRow_setCell_below O7.out ?_ _
            show w.heap.size + 1 < w.heap.size + 2
            omega
          · exact (hb.out.trans (B7.out.mono (by omega))).setCell (p := ⟨w.heap.size + 1, 0, none⟩) (by show w.heap.size ≤ w.heap.size + 1; omega) _
          · rw [World.size_setCell]; omega
    · obtain rfl : i = 32 := by omega
      have ho2 := ho.out
      rw [List.take_of_length_le (by rw [HR.out]; omega)] at ho2
      obtain ⟨A1, c1, rfl, hN⟩ := nums_from ho2 HR.out.symm
      have HR2 := hid HR.out
      have h3b := h3.out
      rw [HR.out] at h3b
      replace h3 := hid h3b
      go_wp2_with fail
      with_reducible refine (CC.out _ hb.out).mono ?_
      rintro e w8 ⟨A2, c2, rfl, hN2, hb8⟩
      rw [HM.out]
      have x0 : w8.cell? ⟨w.heap.size + 1, 0, none⟩ = some (.slice A1 32 c1) := cell_keep (cell_of_row wr _ 0 _ _ _ h3.out) hb8
      have x1 : w8.cell? ⟨w.heap.size + 1, 1, none⟩ = some (.slice none 0 0) := cell_keep (cell_of_row wr _ 1 _ _ _ h3.out) hb8
      have xf : w8.frozen? ⟨w.heap.size + 1, 1, none⟩ = false := frozen_keep (frozen_of_row wr _ 1 _ _ h3.out) hk3 hb8
      have y0 : w8.cell? ⟨w.heap.size, 0, none⟩ = some (.slice none 0 0) := cell_keep (cell_of_row wr _ 0 _ _ _ h2.out) hb8
      have y1 : w8.cell? ⟨w.heap.size, 1, none⟩ = some (.slice none 0 0) := cell_keep (cell_of_row wr _ 1 _ _ _ h2.out) hb8
      have yf0 : w8.frozen? ⟨w.heap.size, 0, none⟩ = false := frozen_keep (frozen_of_row wr _ 0 _ _ h2.out) hk2 hb8
      have yf1 : w8.frozen? ⟨w.heap.size, 1, none⟩ = false := frozen_keep (frozen_of_row wr _ 1 _ _ h2.out) hk2 hb8
      have hs8 := hb8.size
      have hk38 : w.heap.size + 1 < w8.heap.size := by omega
      have hk28 : w.heap.size < w8.heap.size := by omega
      have N1 := hid (hN.keep hb8)
      have N2 := hid hN2
      have B8 := hid (btrans hb.out hb8)
      clear hN hN2 hb8 h3 h2 ho
      go_wp2
      refine bodyPost_ret (v := .agg #[.slice A1 32 c1, .slice A2 256 c2]) (by simp [results, Try.results20, go_sem, x0, x1, y0, y1]) rfl ?_
      have hw3 : ∀ a, A1 = some a → a.block ≠ w.heap.size + 1 ∧ a.block ≠ w.heap.size := fun a ha => by have := (N1.out.2 a ha).1; omega
      have hw4 : ∀ a, A2 = some a → a.block ≠ w.heap.size + 1 ∧ a.block ≠ w.heap.size := fun a ha => by have := (N2.out.2 a ha).1; omega
      have K1 := nums_set (nums_set (nums_set N1.out ⟨w.heap.size + 1, 1, none⟩ (.slice A2 256 c2) (fun a ha => (hw3 a ha).1)) ⟨w.heap.size, 0, none⟩ (.slice A1 32 c1) (fun a ha => (hw3 a ha).2)) ⟨w.heap.size, 1, none⟩ (.slice A2 256 c2) (fun a ha => (hw3 a ha).2)
      have K2 := nums_set (nums_set (nums_set N2.out ⟨w.heap.size + 1, 1, none⟩ (.slice A2 256 c2) (fun a ha => (hw4 a ha).1)) ⟨w.heap.size, 0, none⟩ (.slice A1 32 c1) (fun a ha => (hw4 a ha).2)) ⟨w.heap.size, 1, none⟩ (.slice A2 256 c2) (fun a ha => (hw4 a ha).2)
      refine ⟨A1, A2, c1, c2, by rw [HR2.out, HM.out], ?_, ⟨K1.1, fun a ha => ⟨by have := (K1.2 a ha).1; omega, (K1.2 a ha).2⟩⟩, ⟨K2.1, fun a ha => ⟨by have := (K2.2 a ha).1; omega, (K2.2 a ha).2⟩⟩⟩
      exact ((B8.out.setCell (p := ⟨w.heap.size + 1, 1, none⟩) (by show w.heap.size ≤ w.heap.size + 1; omega) _).setCell (p := ⟨w.heap.size, 0, none⟩) (Nat.le_refl _) _).setCell (p := ⟨w.heap.size, 1, none⟩) (Nat.le_refl _) _
end Go.Proofs.Ytpiagggnjppkhaa
