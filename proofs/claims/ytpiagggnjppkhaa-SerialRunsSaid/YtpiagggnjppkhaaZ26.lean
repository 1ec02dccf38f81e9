/- The document's Check of a program. -/
import Derived.Test.YtpiagggnjppkhaaZ25
namespace Go.Proofs.Ytpiagggnjppkhaa
open Go.RowKit
set_option linter.unusedVariables false
set_option linter.unusedSimpArgs false
set_option maxHeartbeats 4000000 in
set_option maxRecDepth 100000 in
theorem rprg_check_any (A : Option Addr) (l : List Blk) (cap : Nat) (w : World) (hl : BlksIn w A l) (hw : ∀ b ∈ l, b.wf) (hm : l.length ≤ 9223372036854775807) :
    Calls Try.prog 44 #[.agg #[.slice A l.length cap]] w fun e w' => e = .returned (.int .i64 (prgE l)) ∧ Below w.heap.size w w' := by
  have HL := hid hl
  have HW := hid hw
  clear hl hw
  by_cases hn : 128 < l.length
  · have e0 := hid (show prgE l = 3 by unfold prgE; rw [if_pos (.inl hn)])
    have hn2 : (128 : Int) < l.length := by omega
    go_enter Try.func44, Try.ntmps44
    go_wp2
    go_ret
    refine ⟨ret_int e0.out.symm, ?_⟩
    ((with_reducible (repeat (first | assumption | exact Below.refl _ _ | refine bset ?_ (Nat.le_refl _) _ | refine balloc ?_ _ | refine bdrew ?_ | refine bdrewN ?_ _))); done)
  have hops := hid (fun w hl => rpops_any A l cap w hl HW.out (by omega))
  have hn2 : ¬ (128 : Int) < l.length := by omega
  by_cases hs : 1024 < l.length + sumB l
  · have e0 := hid (show prgE l = 3 by unfold prgE; rw [if_pos (.inr hs)])
    have hub := sumB_le HW.out l.length (Nat.le_refl _)
    rw [List.take_length] at hub
    have hs2 := hid (show (1024 : Int) < l.length + (sumB l : Nat) by omega)
    clear hs hub
    go_enter Try.func44, Try.ntmps44
    go_wp2_with fail
    with_reducible refine (hops.out _ (BlksIn.keep (w := w) HL.out ?_)).mono ?_
    · ((with_reducible (repeat (first | assumption | exact Below.refl _ _ | refine bset ?_ (Nat.le_refl _) _ | refine balloc ?_ _ | refine bdrew ?_ | refine bdrewN ?_ _))); done)
    rintro e w1 ⟨rfl, hb⟩
    replace hs2 := hs2.out
    go_wp2
    go_ret
    refine ⟨ret_int e0.out.symm, btrans (a := w) ?_ hb⟩
    ((with_reducible (repeat (first | assumption | exact Below.refl _ _ | refine bset ?_ (Nat.le_refl _) _ | refine balloc ?_ _ | refine bdrew ?_ | refine bdrewN ?_ _))); done)
  have hs2 := hid (show ¬ (1024 : Int) < l.length + (sumB l : Nat) by omega)
  have e1 : prgE l = if l.length = 0 then 50 else firstE l.length l := by unfold prgE; rw [if_neg (by omega)]
  clear hs
  by_cases hz : l.length = 0
  · rw [if_pos hz] at e1
    replace e1 := hid e1
    have hzi := hid (show (l.length : Int) = 0 by omega)
    clear hz
    go_enter Try.func44, Try.ntmps44
    go_wp2_with fail
    with_reducible refine (hops.out _ (BlksIn.keep (w := w) HL.out ?_)).mono ?_
    · ((with_reducible (repeat (first | assumption | exact Below.refl _ _ | refine bset ?_ (Nat.le_refl _) _ | refine balloc ?_ _ | refine bdrew ?_ | refine bdrewN ?_ _))); done)
    rintro e w1 ⟨rfl, hb⟩
    obtain ⟨hc, hf⟩ := bcell hb
    have hzz := bsize hb
    replace hs2 := hs2.out
    have hz := hzi.out
    go_wp2
    go_ret
    refine ⟨ret_int e1.out.symm, btrans (a := w) ?_ hb⟩
    ((with_reducible (repeat (first | assumption | exact Below.refl _ _ | refine bset ?_ (Nat.le_refl _) _ | refine balloc ?_ _ | refine bdrew ?_ | refine bdrewN ?_ _))); done)
  rw [if_neg hz] at e1
  replace e1 := hid e1
  have hz2 : ¬ (l.length : Int) = 0 := by omega
  have hz3 : (0 : Int) < l.length := by omega
  have hzb : ((l.length : Int) == 0) = false := by rw [Bool.eq_false_iff]; intro h; exact hz2 (by simpa using h)
  go_enter Try.func44, Try.ntmps44
  go_wp2_with fail
  with_reducible refine (hops.out _ (BlksIn.keep (w := w) HL.out ?_)).mono ?_
  · ((with_reducible (repeat (first | assumption | exact Below.refl _ _ | refine bset ?_ (Nat.le_refl _) _ | refine balloc ?_ _ | refine bdrew ?_ | refine bdrewN ?_ _))); done)
  rintro e w1 ⟨rfl, hb⟩
  have B1 : Hid (Below w.heap.size w w1) := hid (btrans (a := w) (by ((with_reducible (repeat (first | assumption | exact Below.refl _ _ | refine bset ?_ (Nat.le_refl _) _ | refine balloc ?_ _ | refine bdrew ?_ | refine bdrewN ?_ _))); done)) hb)
  have hcell0 : w1.cell? ⟨w.heap.size, 0, none⟩ = some (.slice A l.length cap) := cell_keep (by simp) hb
  clear hb
  have hs3 := hs2.out
  go_wp2
  clear hs3
  go_loopg [4] l.length (fun g v wr => ∃ i : Nat, i ≤ l.length ∧ v = .int .i64 i ∧ Hid (g + i = l.length) ∧ Hid (firstE l.length (l.drop i) = firstE l.length l) ∧ wr.cell? ⟨w.heap.size, 0, none⟩ = some (.slice A l.length cap) ∧ Below w.heap.size w wr)
  case atStart => exact ⟨0, by omega, rfl, by exact Nat.add_zero _, hid rfl, hcell0, B1.out⟩
  case round =>
    obtain ⟨i, hi, rfl, hg, hfs, hcell, hbw⟩ := hrel
    have hgw : w.heap.size < wr.heap.size := World.block_lt_of_cell? wr _ hcell
    by_cases hlt : i < l.length
    · obtain ⟨g, off, rfl, hop⟩ := (BlksIn.keep HL.out hbw).get i hlt
      have HO := hid hop
      obtain ⟨B, c, B2, c2, k0, k1, k2, k3, k4, k5, o1, o2, _, _⟩ := hop
      have O1 := hid o1
      have O2 := hid o2
      clear o1 o2
      have hwf := hid (HW.out l[i] (List.getElem_mem hlt))
      have m0 := hwf.out.m0
      have m1 := hwf.out.m1
      have hgs : g < wr.heap.size := World.block_lt_of_cell? wr _ k0
      have hb0 := hid hbw
      clear hbw
      have hstep := firstE_step l.length l hlt
      rw [hfs.out] at hstep
      have hij : (i : Int) < (l.length : Int) := by omega
      have hi0 : (0 : Int) ≤ (i : Int) := by omega
      have C1 := hid (fun (w : World) (h : OpsIn w B l[i].ops) => rall_any B l[i].ops c w h (by omega))
      have C2 := hid (fun (w : World) => rend_any B B2 c c2 l[i].ops.length l[i].body.length l[i].en l[i].a l[i].th l[i].el l.length w hwf.out.a0)
      have C3 := hid (fun (w : World) (h : OpsIn w B2 l[i].body) => rall_any B2 l[i].body c2 w h (by omega))
      cases h1 : allOk l[i].ops
      · rw [show blkE l[i] l.length = 30 by unfold blkE; rw [h1]; rfl, if_neg (by decide), ← e1.out] at hstep
        replace hstep := hid hstep
        rw [h1] at C1
        go_wp2_with fail
        with_reducible refine (C1.out _ (OpsIn.keep (w := wr) O1.out ?_)).mono ?_
        · ((with_reducible (repeat (first | assumption | exact Below.refl _ _ | refine bset ?_ (Nat.le_refl _) _ | refine balloc ?_ _ | refine bdrew ?_ | refine bdrewN ?_ _))); done)
        rintro e w2 ⟨rfl, hb⟩
        go_wp2
        go_ret
        exact ⟨ret_int hstep.out.symm, btrans hb0.out (btrans (a := wr) (by ((with_reducible (repeat (first | assumption | exact Below.refl _ _ | refine bset ?_ (Nat.le_refl _) _ | refine balloc ?_ _ | refine bdrew ?_ | refine bdrewN ?_ _))); done)) hb)⟩
      cases h2 : endB l[i] l.length
      · rw [show blkE l[i] l.length = 50 by unfold blkE; rw [h1, h2]; rfl, if_neg (by decide), ← e1.out] at hstep
        replace hstep := hid hstep
        rw [h1] at C1
        rw [← endB_eq, h2] at C2
        go_wp2_with fail
        with_reducible refine (C1.out _ (OpsIn.keep (w := wr) O1.out ?_)).mono ?_
        · ((with_reducible (repeat (first | assumption | exact Below.refl _ _ | refine bset ?_ (Nat.le_refl _) _ | refine balloc ?_ _ | refine bdrew ?_ | refine bdrewN ?_ _))); done)
        rintro e w2 ⟨rfl, hb⟩
        have hbr : Below wr.heap.size wr w2 := btrans (a := wr) (by ((with_reducible (repeat (first | assumption | exact Below.refl _ _ | refine bset ?_ (Nat.le_refl _) _ | refine balloc ?_ _ | refine bdrew ?_ | refine bdrewN ?_ _))); done)) hb
        have BB2 := hid (btrans hb0.out hbr)
        have hcell2 := cell_keep hcell hbr
        have n0 : w2.cell? ⟨wr.heap.size, 0, none⟩ = some (.slice B l[i].ops.length c) := cell_keep (by simp) hb
        have n1 : w2.cell? ⟨wr.heap.size, 1, none⟩ = some (.int .i8 l[i].en) := cell_keep (by simp) hb
        have n2 : w2.cell? ⟨wr.heap.size, 2, none⟩ = some (.int .u8 l[i].a) := cell_keep (by simp) hb
        have n3 : w2.cell? ⟨wr.heap.size, 3, none⟩ = some (.slice B2 l[i].body.length c2) := cell_keep (by simp) hb
        have n4 : w2.cell? ⟨wr.heap.size, 4, none⟩ = some (.int .i64 l[i].th) := cell_keep (by simp) hb
        have n5 : w2.cell? ⟨wr.heap.size, 5, none⟩ = some (.int .i64 l[i].el) := cell_keep (by simp) hb
        clear hb
        go_wp2_with fail
        with_reducible refine (C2.out _).mono ?_
        rintro e w3 ⟨rfl, hb⟩
        go_wp2
        go_ret
        exact ⟨ret_int hstep.out.symm, btrans BB2.out hb⟩
      cases h3 : allOk l[i].body
      · rw [show blkE l[i] l.length = 30 by unfold blkE; rw [h1, h2, h3]; rfl, if_neg (by decide), ← e1.out] at hstep
        replace hstep := hid hstep
        rw [h1] at C1
        rw [← endB_eq, h2] at C2
        rw [h3] at C3
        go_wp2_with fail
        with_reducible refine (C1.out _ (OpsIn.keep (w := wr) O1.out ?_)).mono ?_
        · ((with_reducible (repeat (first | assumption | exact Below.refl _ _ | refine bset ?_ (Nat.le_refl _) _ | refine balloc ?_ _ | refine bdrew ?_ | refine bdrewN ?_ _))); done)
        rintro e w2 ⟨rfl, hb⟩
        have hbr : Below wr.heap.size wr w2 := btrans (a := wr) (by ((with_reducible (repeat (first | assumption | exact Below.refl _ _ | refine bset ?_ (Nat.le_refl _) _ | refine balloc ?_ _ | refine bdrew ?_ | refine bdrewN ?_ _))); done)) hb
        have BB2 := hid (btrans hb0.out hbr)
        have hcell2 := cell_keep hcell hbr
        have n0 : w2.cell? ⟨wr.heap.size, 0, none⟩ = some (.slice B l[i].ops.length c) := cell_keep (by simp) hb
        have n1 : w2.cell? ⟨wr.heap.size, 1, none⟩ = some (.int .i8 l[i].en) := cell_keep (by simp) hb
        have n2 : w2.cell? ⟨wr.heap.size, 2, none⟩ = some (.int .u8 l[i].a) := cell_keep (by simp) hb
        have n3 : w2.cell? ⟨wr.heap.size, 3, none⟩ = some (.slice B2 l[i].body.length c2) := cell_keep (by simp) hb
        have n4 : w2.cell? ⟨wr.heap.size, 4, none⟩ = some (.int .i64 l[i].th) := cell_keep (by simp) hb
        have n5 : w2.cell? ⟨wr.heap.size, 5, none⟩ = some (.int .i64 l[i].el) := cell_keep (by simp) hb
        have O22 := hid (O2.out.keep hbr)
        clear hb
        go_wp2_with fail
        with_reducible refine (C2.out _).mono ?_
        rintro e w3 ⟨rfl, hb⟩
        have B3 := hid (btrans BB2.out hb)
        have hcell3 := cell_keep hcell2 hb
        have n33 := cell_keep n3 hb
        have O23 := hid (O22.out.keep hb)
        clear hb
        go_wp2_with fail
        with_reducible refine (C3.out _ O23.out).mono ?_
        rintro e w4 ⟨rfl, hb⟩
        go_wp2
        go_ret
        exact ⟨ret_int hstep.out.symm, btrans B3.out hb⟩
      · rw [show blkE l[i] l.length = 0 by unfold blkE; rw [h1, h2, h3]; rfl, if_pos rfl] at hstep
        replace hstep := hid hstep
        rw [h1] at C1
        rw [← endB_eq, h2] at C2
        rw [h3] at C3
        go_wp2_with fail
        with_reducible refine (C1.out _ (OpsIn.keep (w := wr) O1.out ?_)).mono ?_
        · ((with_reducible (repeat (first | assumption | exact Below.refl _ _ | refine bset ?_ (Nat.le_refl _) _ | refine balloc ?_ _ | refine bdrew ?_ | refine bdrewN ?_ _))); done)
        rintro e w2 ⟨rfl, hb⟩
        have hbr : Below wr.heap.size wr w2 := btrans (a := wr) (by ((with_reducible (repeat (first | assumption | exact Below.refl _ _ | refine bset ?_ (Nat.le_refl _) _ | refine balloc ?_ _ | refine bdrew ?_ | refine bdrewN ?_ _))); done)) hb
        have BB2 := hid (btrans hb0.out hbr)
        have hcell2 := cell_keep hcell hbr
        have n0 : w2.cell? ⟨wr.heap.size, 0, none⟩ = some (.slice B l[i].ops.length c) := cell_keep (by simp) hb
        have n1 : w2.cell? ⟨wr.heap.size, 1, none⟩ = some (.int .i8 l[i].en) := cell_keep (by simp) hb
        have n2 : w2.cell? ⟨wr.heap.size, 2, none⟩ = some (.int .u8 l[i].a) := cell_keep (by simp) hb
        have n3 : w2.cell? ⟨wr.heap.size, 3, none⟩ = some (.slice B2 l[i].body.length c2) := cell_keep (by simp) hb
        have n4 : w2.cell? ⟨wr.heap.size, 4, none⟩ = some (.int .i64 l[i].th) := cell_keep (by simp) hb
        have n5 : w2.cell? ⟨wr.heap.size, 5, none⟩ = some (.int .i64 l[i].el) := cell_keep (by simp) hb
        have O22 := hid (O2.out.keep hbr)
        clear hb
        go_wp2_with fail
        with_reducible refine (C2.out _).mono ?_
        rintro e w3 ⟨rfl, hb⟩
        have B3 := hid (btrans BB2.out hb)
        have hcell3 := cell_keep hcell2 hb
        have n33 := cell_keep n3 hb
        have O23 := hid (O22.out.keep hb)
        clear hb
        go_wp2_with fail
        with_reducible refine (C3.out _ O23.out).mono ?_
        rintro e w4 ⟨rfl, hb⟩
        go_wp2
        go_roundg (l.length - (i + 1))
        case measure => have := hg.out; omega
        case rel => exact ⟨i + 1, by omega, by go_num, by show _ + _ = _; omega, hid hstep.out.symm, cell_keep hcell3 hb, btrans B3.out hb⟩
    · obtain rfl : i = l.length := by omega
      have e2 := hfs.out
      rw [List.drop_length] at e2
      replace e2 := hid (e1.out.trans e2.symm)
      go_wp2
      go_ret
      exact ⟨ret_int e2.out.symm, hbw⟩
end Go.Proofs.Ytpiagggnjppkhaa
