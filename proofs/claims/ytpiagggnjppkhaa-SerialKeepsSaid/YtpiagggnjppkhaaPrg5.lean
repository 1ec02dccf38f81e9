/- The contract of program.Check. -/
import Derived.Test.YtpiagggnjppkhaaPrg4
namespace Go.Proofs.Ytpiagggnjppkhaa
open Go.RowKit
set_option linter.unusedVariables false
set_option linter.unusedSimpArgs false
/-- What is wrong with a block of a program of n blocks (0: nothing). -/
def blkE (b : Blk) (n : Int) : Int := if allOk b.ops then (if endB b n then (if allOk b.body then 0 else 30) else 50) else 30
def firstE (n : Int) : List Blk → Int
  | [] => 0
  | b :: r => if blkE b n = 0 then firstE n r else blkE b n
def prgE (l : List Blk) : Int := if 128 < l.length ∨ 1024 < l.length + sumB l then 3 else if l.length = 0 then 50 else firstE l.length l
theorem firstE_step (n : Int) (l : List Blk) {i : Nat} (hi : i < l.length) : firstE n (l.drop i) = if blkE l[i] n = 0 then firstE n (l.drop (i + 1)) else blkE l[i] n := by
  rw [List.drop_eq_getElem_cons hi]
  rfl
set_option maxHeartbeats 4000000 in
set_option maxRecDepth 100000 in
theorem prg_check_any (A : Option Addr) (l : List Blk) (cap : Nat) (w : World) (hl : BlksIn w A l) (hw : ∀ b ∈ l, b.wf) (hm : l.length ≤ 9223372036854775807) :
    Calls Try.prog 42 #[.agg #[.slice A l.length cap]] w fun e w' => e = .returned (.int .i64 (prgE l)) ∧ Below w.heap.size w w' := by
  have HL := hid hl
  have HW := hid hw
  clear hl hw
  by_cases hn : 128 < l.length
  · have e0 := hid (show prgE l = 3 by unfold prgE; rw [if_pos (.inl hn)])
    have hn2 : (128 : Int) < l.length := by omega
    go_enter Try.func42, Try.ntmps42
    go_wp2
    go_ret
    refine ⟨ret_int e0.out.symm, ?_⟩
    ((with_reducible (repeat (first | assumption | exact Below.refl _ _ | refine bset ?_ (Nat.le_refl _) _ | refine balloc ?_ _ | refine bdrew ?_ | refine bdrewN ?_ _))); done)
  have hops := hid (fun w hl => pops_any A l cap w hl HW.out (by omega))
  have hn2 : ¬ (128 : Int) < l.length := by omega
  by_cases hs : 1024 < l.length + sumB l
  · have e0 := hid (show prgE l = 3 by unfold prgE; rw [if_pos (.inr hs)])
    have hub := sumB_le HW.out l.length (Nat.le_refl _)
    rw [List.take_length] at hub
    have hs2 := hid (show (1024 : Int) < l.length + (sumB l : Nat) by omega)
    clear hs hub
    go_enter Try.func42, Try.ntmps42
    go_wp2_with fail
    with_reducible refine (hops.out _ (BlksIn.keep (w := w) HL.out ?_)).mono ?_
    · ((with_reducible (repeat (first | assumption | exact Below.refl _ _ | refine bset ?_ (Nat.le_refl _) _ | refine balloc ?_ _ | refine bdrew ?_ | refine bdrewN ?_ _))); done)
    rintro e w1 ⟨rfl, hb⟩
    replace hs2 := hs2.out
    go_wp2
    go_ret
    refine ⟨ret_int e0.out.symm, btrans (a := w) ?_ hb⟩
    ((with_reducible (repeat (first | assumption | exact Below.refl _ _ | refine bset ?_ (Nat.le_refl _) _ | refine balloc ?_ _ | refine bdrew ?_ | refine bdrewN ?_ _))); done)
  have hs2 := hid (show ¬ (1024 : Int) < l.length + (sumB l : Nat) by omega)
  have e1 : prgE l = if l.length = 0 then 50 else firstE l.length l := by unfold prgE; rw [if_neg (by omega)]
  clear hs
  by_cases hz : l.length = 0
  · rw [if_pos hz] at e1
    replace e1 := hid e1
    have hzi := hid (show (l.length : Int) = 0 by omega)
    clear hz
    go_enter Try.func42, Try.ntmps42
    go_wp2_with fail
    with_reducible refine (hops.out _ (BlksIn.keep (w := w) HL.out ?_)).mono ?_
    · ((with_reducible (repeat (first | assumption | exact Below.refl _ _ | refine bset ?_ (Nat.le_refl _) _ | refine balloc ?_ _ | refine bdrew ?_ | refine bdrewN ?_ _))); done)
    rintro e w1 ⟨rfl, hb⟩
    obtain ⟨hc, hf⟩ := bcell hb
    have hzz := bsize hb
    replace hs2 := hs2.out
    have hz := hzi.out
    go_wp2
    go_ret
    refine ⟨ret_int e1.out.symm, btrans (a := w) ?_ hb⟩
    ((with_reducible (repeat (first | assumption | exact Below.refl _ _ | refine bset ?_ (Nat.le_refl _) _ | refine balloc ?_ _ | refine bdrew ?_ | refine bdrewN ?_ _))); done)
  rw [if_neg hz] at e1
  replace e1 := hid e1
  have hz2 : ¬ (l.length : Int) = 0 := by omega
  have hz3 : (0 : Int) < l.length := by omega
  have hzb : ((l.length : Int) == 0) = false := by rw [Bool.eq_false_iff]; intro h; exact hz2 (by simpa using h)
  go_enter Try.func42, Try.ntmps42
  go_wp2_with fail
  with_reducible refine (hops.out _ (BlksIn.keep (w := w) HL.out ?_)).mono ?_
  · ((with_reducible (repeat (first | assumption | exact Below.refl _ _ | refine bset ?_ (Nat.le_refl _) _ | refine balloc ?_ _ | refine bdrew ?_ | refine bdrewN ?_ _))); done)
  rintro e w1 ⟨rfl, hb⟩
  have B1 : Hid (Below w.heap.size w w1) := hid (btrans (a := w) (by ((with_reducible (repeat (first | assumption | exact Below.refl _ _ | refine bset ?_ (Nat.le_refl _) _ | refine balloc ?_ _ | refine bdrew ?_ | refine bdrewN ?_ _))); done)) hb)
  have hcell0 : w1.cell? ⟨w.heap.size, 0, none⟩ = some (.slice A l.length cap) := cell_keep (by simp) hb
  clear hb
  have hs3 := hs2.out
  go_wp2
  clear hs3
  go_loopg [21] l.length (fun g v wr => ∃ i : Nat, i ≤ l.length ∧ v = .int .i64 i ∧ Hid (g + i = l.length) ∧ Hid (firstE l.length (l.drop i) = firstE l.length l) ∧ wr.cell? ⟨w.heap.size, 0, none⟩ = some (.slice A l.length cap) ∧ Below w.heap.size w wr)
  case atStart => exact ⟨0, by omega, rfl, by exact Nat.add_zero _, hid rfl, hcell0, B1.out⟩
  case round =>
    obtain ⟨i, hi, rfl, hg, hfs, hcell, hbw⟩ := hrel
    have hgw : w.heap.size < wr.heap.size := World.block_lt_of_cell? wr _ hcell
    by_cases hlt : i < l.length
    · obtain ⟨g, off, rfl, hop⟩ := (BlksIn.keep HL.out hbw).get i hlt
      have HO := hid hop
      obtain ⟨B, c, B2, c2, k0, k1, k2, k3, k4, k5, o1, o2, _, _⟩ := hop
      have O1 := hid o1
      have O2 := hid o2
      clear o1 o2
      have hwf := hid (HW.out l[i] (List.getElem_mem hlt))
      have m0 := hwf.out.m0
      have m1 := hwf.out.m1
      have hgs : g < wr.heap.size := World.block_lt_of_cell? wr _ k0
      have hb0 := hid hbw
      clear hbw
      have hstep := firstE_step l.length l hlt
      rw [hfs.out] at hstep
      have hij : (i : Int) < (l.length : Int) := by omega
      have hi0 : (0 : Int) ≤ (i : Int) := by omega
      have C1 := hid (fun (w : World) (h : OpsIn w B l[i].ops) => all_any B l[i].ops c w h hwf.out.ops (by omega))
      have C2 := hid (fun (w : World) (h : BlkAt w g (off + i * 6) l[i]) => end_any g (off + i * 6) l[i] l.length w h hwf.out)
      have C3 := hid (fun (w : World) (h : OpsIn w B2 l[i].body) => all_any B2 l[i].body c2 w h hwf.out.body (by omega))
      cases h1 : allOk l[i].ops
      · rw [show blkE l[i] l.length = 30 by unfold blkE; rw [h1]; rfl, if_neg (by decide), ← e1.out] at hstep
        replace hstep := hid hstep
        rw [h1] at C1
        go_wp2_with fail
        with_reducible refine (C1.out _ O1.out).mono ?_
        rintro e w2 ⟨rfl, hb⟩
        go_wp2
        go_ret
        exact ⟨ret_int hstep.out.symm, btrans hb0.out hb⟩
      cases h2 : endB l[i] l.length
      · rw [show blkE l[i] l.length = 50 by unfold blkE; rw [h1, h2]; rfl, if_neg (by decide), ← e1.out] at hstep
        replace hstep := hid hstep
        rw [h1] at C1
        rw [h2] at C2
        go_wp2_with fail
        with_reducible refine (C1.out _ O1.out).mono ?_
        rintro e w2 ⟨rfl, hb⟩
        have B2 := hid (btrans hb0.out hb)
        have HO2 := hid (HO.out.keep hb)
        have hcell2 := cell_keep hcell hb
        clear hb
        go_wp2_with fail
        with_reducible refine (C2.out _ HO2.out).mono ?_
        rintro e w3 ⟨rfl, hb⟩
        go_wp2
        go_ret
        exact ⟨ret_int hstep.out.symm, btrans B2.out hb⟩
      cases h3 : allOk l[i].body
      · rw [show blkE l[i] l.length = 30 by unfold blkE; rw [h1, h2, h3]; rfl, if_neg (by decide), ← e1.out] at hstep
        replace hstep := hid hstep
        rw [h1] at C1
        rw [h2] at C2
        rw [h3] at C3
        go_wp2_with fail
        with_reducible refine (C1.out _ O1.out).mono ?_
        rintro e w2 ⟨rfl, hb⟩
        have B2 := hid (btrans hb0.out hb)
        have HO2 := hid (HO.out.keep hb)
        have hcell2 := cell_keep hcell hb
        have k32 := cell_keep k3 hb
        have O22 := hid (O2.out.keep hb)
        clear hb
        go_wp2_with fail
        with_reducible refine (C2.out _ HO2.out).mono ?_
        rintro e w3 ⟨rfl, hb⟩
        have B3 := hid (btrans B2.out hb)
        have hcell3 := cell_keep hcell2 hb
        have k33 := cell_keep k32 hb
        have O23 := hid (O22.out.keep hb)
        clear hb
        go_wp2_with fail
        with_reducible refine (C3.out _ O23.out).mono ?_
        rintro e w4 ⟨rfl, hb⟩
        go_wp2
        go_ret
        exact ⟨ret_int hstep.out.symm, btrans B3.out hb⟩
      · rw [show blkE l[i] l.length = 0 by unfold blkE; rw [h1, h2, h3]; rfl, if_pos rfl] at hstep
        replace hstep := hid hstep
        rw [h1] at C1
        rw [h2] at C2
        rw [h3] at C3
        go_wp2_with fail
        with_reducible refine (C1.out _ O1.out).mono ?_
        rintro e w2 ⟨rfl, hb⟩
        have B2 := hid (btrans hb0.out hb)
        have HO2 := hid (HO.out.keep hb)
        have hcell2 := cell_keep hcell hb
        have k32 := cell_keep k3 hb
        have O22 := hid (O2.out.keep hb)
        clear hb
        go_wp2_with fail
        with_reducible refine (C2.out _ HO2.out).mono ?_
        rintro e w3 ⟨rfl, hb⟩
        have B3 := hid (btrans B2.out hb)
        have hcell3 := cell_keep hcell2 hb
        have k33 := cell_keep k32 hb
        have O23 := hid (O22.out.keep hb)
        clear hb
        go_wp2_with fail
        with_reducible refine (C3.out _ O23.out).mono ?_
        rintro e w4 ⟨rfl, hb⟩
        go_wp2
        go_roundg (l.length - (i + 1))
        case measure => have := hg.out; omega
        case rel => exact ⟨i + 1, by omega, by go_num, by show _ + _ = _; omega, hid hstep.out.symm, cell_keep hcell3 hb, btrans B3.out hb⟩
    · obtain rfl : i = l.length := by omega
      have e2 := hfs.out
      rw [List.drop_length] at e2
      replace e2 := hid (e1.out.trans e2.symm)
      go_wp2
      go_ret
      exact ⟨ret_int e2.out.symm, hbw⟩
end Go.Proofs.Ytpiagggnjppkhaa
